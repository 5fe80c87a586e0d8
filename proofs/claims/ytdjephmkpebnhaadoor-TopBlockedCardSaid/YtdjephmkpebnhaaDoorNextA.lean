/- What the scan of next keeps. -/
import Derived.Test.YtdjephmkpebnhaaDoorPush2
namespace Go.Proofs.YtdjephmkpebnhaaDoor
open Go.RowKit

/-- The local block and what was told differ. -/
def Dd (L T : Nat → Bool) (i : Nat) : Bool := L i != T i
def MkF (L T : Nat → Bool) (f i : Nat) : Bool := Dd L T (f + i)
def OnF (L T : Nat → Bool) (f i : Nat) : Bool := Dd L T (f + i) && L (f + i)
def toldTo (L T : Nat → Bool) (k i : Nat) : Bool := if i < k then L i else T i

theorem toldTo_same {L T : Nat → Bool} {k : Nat} (h : Dd L T k = false) : toldTo L T (k + 1) = toldTo L T k := by
  funext i
  unfold toldTo
  by_cases hi : i < k
  · rw [if_pos hi, if_pos (by omega)]
  · by_cases he : i = k
    · subst he
      rw [if_pos (by omega), if_neg (by omega)]
      simpa [Dd] using h
    · rw [if_neg hi, if_neg (by omega)]
theorem toldTo_next {L T : Nat → Bool} {k : Nat} : (fun i => if i = k then L k else toldTo L T k i) = toldTo L T (k + 1) := by
  funext i
  unfold toldTo
  by_cases he : i = k
  · subst he
    rw [if_pos rfl, if_pos (by omega)]
  · rw [if_neg he]
    by_cases hi : i < k
    · rw [if_pos hi, if_pos (by omega)]
    · rw [if_neg hi, if_neg (by omega)]

/-- Behind k codes: the first one that differs, and how many the message holds. -/
def Scan (D : Nat → Bool) (k : Nat) (F : Int) (ml : Nat) : Prop :=
  (F = -1 ∧ ml = 0 ∧ ∀ i, i < k → D i = false) ∨
  (∃ f : Nat, F = f ∧ f < k ∧ k ≤ f + 32 ∧ D f = true ∧ (∀ i, i < f → D i = false) ∧ 1 ≤ ml ∧ f + ml ≤ k ∧ D (f + ml - 1) = true ∧ ∀ i, f + ml ≤ i → i < k → D i = false)

/-- What the scan ends with. -/
def Done (D : Nat → Bool) (n k f ml : Nat) : Prop :=
  f < k ∧ k ≤ n ∧ (k = n ∨ k = f + 32) ∧ D f = true ∧ (∀ i, i < f → D i = false) ∧ 1 ≤ ml ∧ ml ≤ 32 ∧ f + ml ≤ k ∧ D (f + ml - 1) = true ∧ ∀ i, f + ml ≤ i → i < k → D i = false

theorem Scan.done {D : Nat → Bool} {k n : Nat} {F : Int} {ml : Nat} (h : Scan D k F ml) (hn : k ≤ n) (hx : (∃ i, i < n ∧ D i = true) ∧ k = n ∨ 0 ≤ F ∧ F + 32 ≤ (k : Int)) : ∃ f : Nat, F = f ∧ Done D n k f ml := by
  rcases h with ⟨h1, h2, h3⟩ | ⟨f, h1, h2, h3, h4, h5, h6, h7, h8, h9⟩
  · rcases hx with ⟨⟨i, hi, hd⟩, rfl⟩ | ⟨h0, _⟩
    · rw [h3 i hi] at hd; cases hd
    · omega
  · refine ⟨f, h1, h2, hn, ?_, h4, h5, h6, by omega, h7, h8, h9⟩
    rcases hx with ⟨_, h⟩ | ⟨_, h⟩
    · exact .inl h
    · exact .inr (by omega)
theorem Scan.same {D : Nat → Bool} {k : Nat} {F : Int} {ml : Nat} (h : Scan D k F ml) (hx : ¬ (0 ≤ F ∧ F + 32 ≤ (k : Int))) (hd : D k = false) : Scan D (k + 1) F ml := by
  rcases h with ⟨h1, h2, h3⟩ | ⟨f, h1, h2, h3, h4, h5, h6, h7, h8, h9⟩
  · exact .inl ⟨h1, h2, fun i hi => by
      by_cases he : i = k
      · subst he; exact hd
      · exact h3 i (by omega)⟩
  · exact .inr ⟨f, h1, by omega, by omega, h4, h5, h6, by omega, h8, fun i hi hk => by
      by_cases he : i = k
      · subst he; exact hd
      · exact h9 i hi (by omega)⟩
/-- .. where the next one differs, and there is room. -/
def Mid (D : Nat → Bool) (k f ml : Nat) : Prop :=
  f ≤ k ∧ k < f + 32 ∧ D f = true ∧ (∀ i, i < f → D i = false) ∧ f + ml ≤ k ∧ ∀ i, f + ml ≤ i → i < k → D i = false
theorem Mid.scan {D : Nat → Bool} {k f ml : Nat} (h : Mid D k f ml) (hd : D k = true) : Scan D (k + 1) (f : Int) (k - f + 1) := by
  obtain ⟨h1, h2, h3, h4, h5, h6⟩ := h
  have e : f + (k - f + 1) - 1 = k := by omega
  exact .inr ⟨f, rfl, by omega, by omega, h3, h4, by omega, by omega, by rw [e]; exact hd, fun i hi hk => by omega⟩

/-- How long the message's row is. -/
def sliceLen : Option Value → Nat
  | some (.slice _ n _) => n
  | _ => 0
def maskLen (w : World) (mb : Nat) : Nat := sliceLen (w.cell? ⟨mb, 3, none⟩)
theorem maskLen_lit {w : World} {mb n c : Nat} {A : Option Addr} {a b d e : Value} (h : Lit0 w mb 42 #[a, b, d, .slice A n c, e]) : maskLen w mb = n := by
  have := h.cell 3
  unfold maskLen
  rw [this]
  rfl

theorem up_drewN {a b : World} {B0 mb : Nat} (h : Up a b B0 mb) (n : Nat) : Up a (b.drewN n) B0 mb := ⟨h.os, h.tape, h.output, h.size, h.block⟩
theorem own_drewN {w : World} {B0 n : Nat} {v : Value} {F : Nat → Bool} (h : OwnB w B0 v n F) (k : Nat) : OwnB (w.drewN k) B0 v n F := h

theorem Dk.set4 {w : World} {d g t n : Nat} {ag age last heard : Int} {op out : Value} {T : Nat → Bool} (h : Dk w d g t n ag age last heard op out T) (v : Int) : Dk (w.setCell ⟨d, 4, none⟩ (.int .u32 v)) d g t n ag age v heard op out T :=
  ⟨h.1.set 4 _, h.2.1.far (by exact fun e => h.2.2 e.symm) _, h.2.2⟩
theorem Dk.set6 {w : World} {d g t n : Nat} {ag age last heard : Int} {op out : Value} {T : Nat → Bool} (h : Dk w d g t n ag age last heard op out T) (v : Value) : Dk (w.setCell ⟨d, 6, none⟩ v) d g t n ag age last heard v out T :=
  ⟨h.1.set 6 _, h.2.1.far (by exact fun e => h.2.2 e.symm) _, h.2.2⟩
theorem Dk.set2 {w : World} {d g t n : Nat} {ag age last heard : Int} {op out : Value} {T : Nat → Bool} (h : Dk w d g t n ag age last heard op out T) (v : Int) : Dk (w.setCell ⟨d, 2, none⟩ (.int .i64 v)) d g t n ag v last heard op out T :=
  ⟨h.1.set 2 _, h.2.1.far (by exact fun e => h.2.2 e.symm) _, h.2.2⟩
theorem Dk.tell {w : World} {d g t n k : Nat} {ag age last heard : Int} {op out : Value} {L T : Nat → Bool} (h : Dk w d g t n ag age last heard op out (toldTo L T k)) (hk : k < n) : Dk (w.setCell ⟨t, k, none⟩ (.bool (L k))) d g t n ag age last heard op out (toldTo L T (k + 1)) := by
  refine ⟨h.1.far (by exact h.2.2) _, ?_, h.2.2⟩
  refine (h.2.1.set hk (.bool (L k))).congr fun j _ => ?_
  rw [← toldTo_next (L := L) (T := T) (k := k)]
  by_cases he : j = k
  · simp [he]
  · simp [he]

theorem Sees.resize {w : World} {p q : Addr} {u v : Value} {A : Option Addr} {n : Nat} {f : Nat → Value} (h : Sees ((w.setCell p u).setCell q v) w.heap.size A n f) : Sees ((w.setCell p u).setCell q v) ((w.setCell p u).setCell q v).heap.size A n f := by
  rw [World.size_setCell, World.size_setCell]
  exact h

theorem OwnB.sees {w : World} {B0 n : Nat} {v : Value} {F : Nat → Bool} (h : OwnB w B0 v n F) (hn : 1 ≤ n) : ∃ b c, v = .slice (some ⟨b, 0, none⟩) n c ∧ n ≤ c ∧ Sees w w.heap.size (some ⟨b, 0, none⟩) n (fun k => .bool (F k)) ∧ B0 ≤ b := by
  have h0 := h
  obtain ⟨hl, ⟨_, h2⟩ | ⟨g, cap, cur, rfl, hb, hh, hc, _⟩⟩ := h
  · omega
  · refine ⟨g, cap, rfl, hc, fun k hk => ⟨g, 0, rfl, (h0.lt rfl).2, ?_⟩, hb⟩
    rw [Nat.zero_add, World.ownsRow.cellAt h0 k (by omega)]
    unfold boolsOf
    rw [List.getElem?_map, List.getElem?_range hk]
    rfl

theorem own_cast {w : World} {B0 j : Nat} {v : Value} {M : Nat → Bool} {x : Bool} (h : w.ownsRow B0 4 1 v (j + 1) (boolsOf j M ++ [.bool x])) (hx : x = M j) : OwnB w B0 v (j + 1) M := by
  show w.ownsRow B0 4 1 v (j + 1) (boolsOf (j + 1) M)
  rw [boolsOf_succ, ← hx]
  exact h

/-- Both rows have grown, and the box holds them. -/
structure Grew (w0 w : World) (B0 mb j : Nat) (a b c : Value) (M O : Nat → Bool) (mv ov : Value) : Prop where
  box : Lit0 w mb 42 #[a, b, c, mv, ov]
  m : OwnB w B0 mv j M
  o : OwnB w B0 ov j O
  apart : Apart mv ov
  up : Up w0 w B0 mb

theorem Grew.from {w0 wA w : World} {B0 mb j : Nat} {a b c : Value} {M O : Nat → Bool} {mv ov : Value} (h : Grew wA w B0 mb j a b c M O mv ov) (u : Up w0 wA B0 mb) : Grew w0 w B0 mb j a b c M O mv ov := ⟨h.box, h.m, h.o, h.apart, u.trans h.up⟩

theorem Both.grew {wA w4 : World} {B0 mb j : Nat} {a b c x y mv ov : Value} {M O : Nat → Bool} {p q : Bool} (h : Both wA w4 B0 mb j #[a, b, c, x, y] mv ov (boolsOf j M ++ [.bool p]) (boolsOf j O ++ [.bool q])) (hp : p = M j) (hq : q = O j) (hmb : mb < B0) :
    Grew wA ((w4.setCell ⟨mb, 3, none⟩ mv).setCell ⟨mb, 4, none⟩ ov) B0 mb (j + 1) a b c M O mv ov :=
  ⟨(h.box.set 3 mv).set 4 ov, ((own_cast h.m hp).set hmb _).set hmb _, ((own_cast h.o hq).set hmb _).set hmb _, h.apart, (h.up.set _).set _⟩
theorem Both.grew2 {wA w4 : World} {B0 mb j : Nat} {a b c x y mv ov : Value} {M O : Nat → Bool} {p q : Bool} (h : Both wA w4 B0 mb j #[a, b, c, x, y] mv ov (boolsOf j M ++ [.bool p]) (boolsOf j O ++ [.bool q])) (hp : p = M j) (hq : q = O j) (hmb : mb < B0) :
    Grew wA ((w4.setCell ⟨mb, 4, none⟩ ov).setCell ⟨mb, 3, none⟩ mv) B0 mb (j + 1) a b c M O mv ov :=
  ⟨(h.box.set 4 ov).set 3 mv, ((own_cast h.m hp).set hmb _).set hmb _, ((own_cast h.o hq).set hmb _).set hmb _, h.apart, (h.up.set _).set _⟩
end Go.Proofs.YtdjephmkpebnhaaDoor
