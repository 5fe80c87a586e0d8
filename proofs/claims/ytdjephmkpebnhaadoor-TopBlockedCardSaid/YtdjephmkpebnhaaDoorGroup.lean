/- A group of circuits in memory. -/
import Derived.Test.YtdjephmkpebnhaaDoorKit
namespace Go.Proofs.YtdjephmkpebnhaaDoor
open Go.RowKit

/-- The cells of a row of circuits: state, block, call. -/
def Circ (S B C : Nat → Int) (j : Nat) : Value := if j % 3 = 0 then .int .u8 (S (j / 3)) else if j % 3 = 1 then .int .u8 (B (j / 3)) else .int .i64 (C (j / 3))

theorem circ0 (S B C : Nat → Int) (i : Nat) : Circ S B C (i * 3) = .int .u8 (S i) := by
  unfold Circ
  rw [if_pos (by omega), show i * 3 / 3 = i by omega]
theorem circ1 (S B C : Nat → Int) (i : Nat) : Circ S B C (i * 3 + 1) = .int .u8 (B i) := by
  unfold Circ
  rw [if_neg (by omega), if_pos (by omega), show (i * 3 + 1) / 3 = i by omega]
theorem circ2 (S B C : Nat → Int) (i : Nat) : Circ S B C (i * 3 + 2) = .int .i64 (C i) := by
  unfold Circ
  rw [if_neg (by omega), if_neg (by omega), show (i * 3 + 2) / 3 = i by omega]

/-- f, but v at i. -/
def upd {α : Type} (f : Nat → α) (i : Nat) (v : α) (k : Nat) : α := if k = i then v else f k
theorem upd_at {α : Type} (f : Nat → α) (i : Nat) (v : α) : upd f i v i = v := if_pos rfl
theorem upd_ne {α : Type} (f : Nat → α) {i k : Nat} (v : α) (h : k ≠ i) : upd f i v k = f k := if_neg h

theorem circ_set0 (S B C : Nat → Int) (i : Nat) (v : Int) (j : Nat) : (if j = i * 3 then Value.int .u8 v else Circ S B C j) = Circ (upd S i v) B C j := by
  by_cases h : j = i * 3
  · subst h
    rw [if_pos rfl, circ0, upd_at]
  · rw [if_neg h]
    unfold Circ
    by_cases h0 : j % 3 = 0
    · rw [if_pos h0, if_pos h0, upd_ne _ _ (by omega)]
    · rw [if_neg h0, if_neg h0]
theorem circ_set1 (S B C : Nat → Int) (i : Nat) (v : Int) (j : Nat) : (if j = i * 3 + 1 then Value.int .u8 v else Circ S B C j) = Circ S (upd B i v) C j := by
  by_cases h : j = i * 3 + 1
  · subst h
    rw [if_pos rfl, circ1, upd_at]
  · rw [if_neg h]
    unfold Circ
    by_cases h0 : j % 3 = 0
    · rw [if_pos h0, if_pos h0]
    · rw [if_neg h0, if_neg h0]
      by_cases h1 : j % 3 = 1
      · rw [if_pos h1, if_pos h1, upd_ne _ _ (by omega)]
      · rw [if_neg h1, if_neg h1]
theorem circ_set2 (S B C : Nat → Int) (i : Nat) (v : Int) (j : Nat) : (if j = i * 3 + 2 then Value.int .i64 v else Circ S B C j) = Circ S B (upd C i v) j := by
  by_cases h : j = i * 3 + 2
  · subst h
    rw [if_pos rfl, circ2, upd_at]
  · rw [if_neg h]
    unfold Circ
    by_cases h0 : j % 3 = 0
    · rw [if_pos h0, if_pos h0]
    · rw [if_neg h0, if_neg h0]
      by_cases h1 : j % 3 = 1
      · rw [if_pos h1, if_pos h1]
      · rw [if_neg h1, if_neg h1, upd_ne _ _ (by omega)]

/-- The circuits. -/
def Cs (w : World) (c n : Nat) (S B C : Nat → Int) : Prop := Row w c 65 (n * 3) (Circ S B C)
theorem Cs.c0 {w : World} {c n : Nat} {S B C : Nat → Int} (h : Cs w c n S B C) {i : Nat} (hi : i < n) : w.cell? ⟨c, i * 3, none⟩ = some (.int .u8 (S i)) := by
  rw [← circ0 S B C]; exact Row.cell h (by omega)
theorem Cs.c1 {w : World} {c n : Nat} {S B C : Nat → Int} (h : Cs w c n S B C) {i : Nat} (hi : i < n) : w.cell? ⟨c, i * 3 + 1, none⟩ = some (.int .u8 (B i)) := by
  rw [← circ1 S B C]; exact Row.cell h (by omega)
theorem Cs.c2 {w : World} {c n : Nat} {S B C : Nat → Int} (h : Cs w c n S B C) {i : Nat} (hi : i < n) : w.cell? ⟨c, i * 3 + 2, none⟩ = some (.int .i64 (C i)) := by
  rw [← circ2 S B C]; exact Row.cell h (by omega)
theorem Cs.set0 {w : World} {c n : Nat} {S B C : Nat → Int} (h : Cs w c n S B C) {i : Nat} (hi : i < n) (v : Int) : Cs (w.setCell ⟨c, i * 3, none⟩ (.int .u8 v)) c n (upd S i v) B C :=
  Row.congr (Row.set h (j := i * 3) (by omega) _) (fun j _ => circ_set0 S B C i v j)
theorem Cs.set1 {w : World} {c n : Nat} {S B C : Nat → Int} (h : Cs w c n S B C) {i : Nat} (hi : i < n) (v : Int) : Cs (w.setCell ⟨c, i * 3 + 1, none⟩ (.int .u8 v)) c n S (upd B i v) C :=
  Row.congr (Row.set h (j := i * 3 + 1) (by omega) _) (fun j _ => circ_set1 S B C i v j)
theorem Cs.set2 {w : World} {c n : Nat} {S B C : Nat → Int} (h : Cs w c n S B C) {i : Nat} (hi : i < n) (v : Int) : Cs (w.setCell ⟨c, i * 3 + 2, none⟩ (.int .i64 v)) c n S B (upd C i v) :=
  Row.congr (Row.set h (j := i * 3 + 2) (by omega) _) (fun j _ => circ_set2 S B C i v j)
theorem Cs.kept {w w' : World} {c n : Nat} {S B C : Nat → Int} (h : Cs w c n S B C) (hb : Below w.heap.size w w') : Cs w' c n S B C := Row.kept h hb
theorem Cs.grown {w w' : World} {c n : Nat} {S B C : Nat → Int} {row : Option Nat} (h : Cs w c n S B C) (hb : w.grownBy w' row) (hg : some c ≠ row) : Cs w' c n S B C := Row.grown h hb hg
theorem Cs.lt {w : World} {c n : Nat} {S B C : Nat → Int} (h : Cs w c n S B C) : c < w.heap.size := Row.lt h
theorem Cs.free {w : World} {c n : Nat} {S B C : Nat → Int} (h : Cs w c n S B C) (j : Nat) : w.frozen? ⟨c, j, none⟩ = false := Row.free h j
theorem Cs.drewN {w : World} {c n : Nat} {S B C : Nat → Int} (h : Cs w c n S B C) (k : Nat) : Cs (w.drewN k) c n S B C := h
theorem Cs.congr {w : World} {c n : Nat} {S B C S' B' C' : Nat → Int} (h : Cs w c n S B C) (h0 : ∀ i, i < n → S i = S' i) (h1 : ∀ i, i < n → B i = B' i) (h2 : ∀ i, i < n → C i = C' i) : Cs w c n S' B' C' :=
  Row.congr h (fun j hj => by unfold Circ; rw [h0 _ (by omega), h1 _ (by omega), h2 _ (by omega)])

/-- The group's own block. -/
def Gh (w : World) (g c : Nat) (own far : Int) (n : Nat) : Prop := Lit0 w g 60 #[.int .u16 own, .int .u16 far, .slice (some ⟨c, 0, none⟩) n n]
/-- A group with its circuits. -/
def Grp (w : World) (g c : Nat) (own far : Int) (n : Nat) (S B C : Nat → Int) : Prop := Gh w g c own far n ∧ Cs w c n S B C ∧ g ≠ c
theorem Grp.kept {w w' : World} {g c : Nat} {own far : Int} {n : Nat} {S B C : Nat → Int} (h : Grp w g c own far n S B C) (hb : Below w.heap.size w w') : Grp w' g c own far n S B C := ⟨Lit0.kept h.1 hb, h.2.1.kept hb, h.2.2⟩
theorem Grp.grown {w w' : World} {g c r : Nat} {own far : Int} {n : Nat} {S B C : Nat → Int} (h : Grp w g c own far n S B C) (hb : w.grownBy w' (some r)) (hg : g ≠ r) (hc : c ≠ r) : Grp w' g c own far n S B C :=
  ⟨Lit0.grown h.1 hb (by simpa using hg), h.2.1.grown hb (by simpa using hc), h.2.2⟩
theorem Grp.drewN {w : World} {g c : Nat} {own far : Int} {n : Nat} {S B C : Nat → Int} (h : Grp w g c own far n S B C) (k : Nat) : Grp (w.drewN k) g c own far n S B C := h
theorem Gh.l0 {w : World} {g c : Nat} {own far : Int} {n : Nat} (h : Gh w g c own far n) : w.cell? ⟨g, 0, none⟩ = some (.int .u16 own) := Lit0.cell h 0
theorem Gh.l1 {w : World} {g c : Nat} {own far : Int} {n : Nat} (h : Gh w g c own far n) : w.cell? ⟨g, 1, none⟩ = some (.int .u16 far) := Lit0.cell h 1
theorem Gh.l2 {w : World} {g c : Nat} {own far : Int} {n : Nat} (h : Gh w g c own far n) : w.cell? ⟨g, 2, none⟩ = some (.slice (some ⟨c, 0, none⟩) n n) := Lit0.cell h 2

theorem quiet_left {P : Program} {f : FuncId} {args : Array Value} {w : World} {n : Nat} {v : Value} (h : Calls P f args (w.drewN n) fun e w' => e = .returned v ∧ w.drewN n = w') : Calls P f args (w.drewN n) fun e w'' => e = .returned v ∧ ∃ m, w'' = w.drewN m :=
  h.mono fun _ _ ⟨he, hm⟩ => ⟨he, n, hm.symm⟩

theorem size_any (g c : Nat) (own far : Int) (n : Nat) (w : World) (h : Gh w g c own far n) : Calls Tryd.prog 18 #[.pointer (some ⟨g, 0, none⟩)] w fun e w' => e = .returned (.int .i64 (n : Int)) ∧ w = w' := by
  have c2 := h.l2
  clear h
  go_enter Tryd.func18, Tryd.ntmps18
  go_wp2_with fail
  go_ret
  exact ⟨rfl, rfl⟩

theorem has_any (g c : Nat) (own far : Int) (n i : Nat) (w : World) (h : Gh w g c own far n) (hi : i < n) : Calls Tryd.prog 44 #[.pointer (some ⟨g, 0, none⟩), .int .i64 (i : Int)] w fun e w' => e = .returned (.bool true) ∧ w = w' := by
  have hs := size_any g c own far n w h
  have HS := Lib.hid hs
  have d1 : decide ((i : Int) < (n : Int)) = true := by simp; omega
  have d2 : decide (i < n) = true := by simpa using hi
  clear h hs
  go_enter Tryd.func44, Tryd.ntmps44
  go_wp2_with fail
  refine HS.out.mono ?_
  rintro e w' ⟨rfl, rfl⟩
  go_wp2_with fail
  go_ret
  exact ⟨rfl, rfl⟩

/-- A circuit is free. -/
def freeC (s b : Int) : Bool := decide (s = 0) && decide (b = 0)

theorem free_any (s b k : Int) (w : World) : Calls Tryd.prog 29 #[.agg #[.int .u8 s, .int .u8 b, .int .i64 k]] w (RetBool w (freeC s b)) := by
  have hb := (Below.refl _ w).alloc (Nat.le_refl _) (.cells #[.int .u8 s, .int .u8 b, .int .i64 k] 65)
  have e1 : (s == 0) = decide (s = 0) := by rw [Bool.eq_iff_iff]; simp
  have e2 : (b == 0) = decide (b = 0) := by rw [Bool.eq_iff_iff]; simp
  have ef : freeC s b = (decide (s = 0) && decide (b = 0)) := rfl
  rw [← e1, ← e2] at ef
  obtain ⟨x, hx⟩ : ∃ x, x = (s == 0) := ⟨_, rfl⟩
  obtain ⟨y, hy⟩ : ∃ y, y = (b == 0) := ⟨_, rfl⟩
  rw [← hx, ← hy] at ef
  rw [ef]
  have hx' : (s == 0) = x := hx.symm
  have hy' : (b == 0) = y := hy.symm
  have HB := Lib.hid hb
  clear ef hx hy e1 e2 hb
  cases x
  all_goals
    cases y
    all_goals
      go_enter Tryd.func29, Tryd.ntmps29
      go_wp2_with fail
      go_ret
      exact ⟨rfl, HB.out⟩
end Go.Proofs.YtdjephmkpebnhaaDoor
