/- The group's methods that change a circuit through a closure: with, Set, Free, At. -/
import Derived.Test.YtdjephmkpebnhaaDoorGroup
namespace Go.Proofs.YtdjephmkpebnhaaDoor
open Go.RowKit

theorem call32 (args : Array Value) (w : World) : (callFunc 32 args).run Tryd.prog w = .ok (.enter 32 args) w := by kernel_rfl
theorem call36 (args : Array Value) (w : World) : (callFunc 36 args).run Tryd.prog w = .ok (.enter 36 args) w := by kernel_rfl
theorem call38 (args : Array Value) (w : World) : (callFunc 38 args).run Tryd.prog w = .ok (.enter 38 args) w := by kernel_rfl

/-- An error, and what is left. -/
def RetErr (R : Int → World → Prop) (e : Ending) (w' : World) : Prop := ∃ n, e = .returned (.int .i64 n) ∧ R n w'

theorem with_any (fid : FuncId) (caps : Array Value) (g c : Nat) (own far : Int) (n i : Nat) (w : World) (R : Int → World → Prop) (h : Gh w g c own far n) (hi : i < n)
    (hcf : ∀ (args : Array Value) (w : World), (callFunc fid args).run Tryd.prog w = .ok (.enter fid args) w)
    (hcl : Calls Tryd.prog fid (#[.pointer (some ⟨c, i * 3, none⟩)] ++ caps) w (RetErr R)) :
    Calls Tryd.prog 31 #[.pointer (some ⟨g, 0, none⟩), .int .i64 (i : Int), .func (.func fid) #[] caps] w (RetErr R) := by
  have hs := size_any g c own far n w h
  have hh := has_any g c own far n i w h hi
  have c2 := h.l2
  have d1 : ((n : Int) == 0) = false := by rw [beq_eq_false_iff_ne]; omega
  have d2 : (n == 0) = false := by rw [beq_eq_false_iff_ne]; omega
  have HS := Lib.hid hs
  have HH := Lib.hid hh
  have HC := Lib.hid hcl
  clear h hs hh hcl
  go_enter Tryd.func31, Tryd.ntmps31
  go_wp2_with fail
  refine HS.out.mono ?_
  rintro e w' ⟨rfl, rfl⟩
  go_wp2_with fail
  refine HH.out.mono ?_
  rintro e w' ⟨rfl, rfl⟩
  go_wp2_with fail
  refine HC.out.mono ?_
  rintro e w1 ⟨k, rfl, hr⟩
  have HR := Lib.hid hr
  clear hr
  go_wp2_with fail
  go_ret
  exact ⟨k, rfl, HR.out⟩

/-- A block set or removed. -/
def setB (b v : Int) (on : Bool) : Int := if on then bits .or .u8 b v else bits .andNot .u8 b v

/-- What Set's closure leaves: the circuit's block cell. -/
def RetCell (w : World) (c j : Nat) (v : Value) (k : Int) (w' : World) : Prop := k = 0 ∧ w' = (w.setCell ⟨c, j, none⟩ v).drew

set_option maxHeartbeats 1000000 in
theorem set_sub (c j b1 b2 : Nat) (b v : Int) (on : Bool) (w : World) (hv : v = 1 ∨ v = 2) (hc : w.cell? ⟨c, j + 1, none⟩ = some (.int .u8 b)) (hf : w.frozen? ⟨c, j + 1, none⟩ = false) (h1 : w.cell? ⟨b1, 0, none⟩ = some (.int .u8 v)) (h2 : w.cell? ⟨b2, 0, none⟩ = some (.bool on)) :
    Calls Tryd.prog 38 #[.pointer (some ⟨c, j, none⟩), .pointer (some ⟨b1, 0, none⟩), .pointer (some ⟨b2, 0, none⟩)] w (RetErr (RetCell w c (j + 1) (.int .u8 (setB b v on)))) := by
  have hs : setB b v on = if on then bits .or .u8 b v else bits .andNot .u8 b v := rfl
  cases on
  · simp only [Bool.false_eq_true, if_false] at hs
    rw [hs]
    clear hs
    rcases hv with rfl | rfl
    all_goals
      go_enter Tryd.func38, Tryd.ntmps38
      go_wp2_with fail
      go_region
      go_wp2_with fail
      go_ret
      exact ⟨_, rfl, rfl, rfl⟩
  · simp only [if_true] at hs
    rw [hs]
    clear hs
    rcases hv with rfl | rfl
    all_goals
      go_enter Tryd.func38, Tryd.ntmps38
      go_wp2_with fail
      go_region
      go_wp2_with fail
      go_ret
      exact ⟨_, rfl, rfl, rfl⟩

theorem grown_one (w : World) (g j : Nat) (v : Value) : w.grownBy (w.setCell ⟨g, j, none⟩ v) (some g) := grown_set (grown_refl _ _) (.inl rfl) _

/-- What a method that changes the circuits leaves. -/
def RetGrp (w : World) (g c : Nat) (own far : Int) (n : Nat) (S B C : Nat → Int) (k : Int) (w' : World) : Prop := k = 0 ∧ Grp w' g c own far n S B C ∧ w.grownBy w' (some c)

theorem set_any (g c : Nat) (own far : Int) (n i : Nat) (S B C : Nat → Int) (v : Int) (on : Bool) (w : World) (h : Grp w g c own far n S B C) (hi : i < n) (hv : v = 1 ∨ v = 2) :
    Calls Tryd.prog 23 #[.pointer (some ⟨g, 0, none⟩), .int .i64 (i : Int), .int .u8 v, .bool on] w (RetErr (RetGrp w g c own far n S (upd B i (setB (B i) v on)) C)) := by
  have l1 := (Box.new w 63 (.int .u8 v)).alloc (.cells #[.bool on] 4)
  have l2 := Box.new (w.alloc (.cells #[.int .u8 v] 63)) 4 (.bool on)
  simp only [World.size_alloc] at l2
  have hb0 := ((Below.refl w.heap.size w).alloc (Nat.le_refl _) (.cells #[.int .u8 v] 63)).alloc (by simp) (.cells #[.bool on] 4)
  have hk : Calls Tryd.prog 31 #[.pointer (some ⟨g, 0, none⟩), .int .i64 (i : Int), .func (.func 38) #[] #[.pointer (some ⟨w.heap.size, 0, none⟩), .pointer (some ⟨w.heap.size + 1, 0, none⟩)]] ((w.alloc (.cells #[.int .u8 v] 63)).alloc (.cells #[.bool on] 4)) (RetErr (RetGrp w g c own far n S (upd B i (setB (B i) v on)) C)) := by
    have hG := h.kept hb0
    generalize (w.alloc (.cells #[.int .u8 v] 63)).alloc (.cells #[.bool on] 4) = w1 at l1 l2 hb0 hG ⊢
    refine with_any 38 _ g c own far n i w1 _ hG.1 hi call38 ?_
    refine (set_sub c (i * 3) w.heap.size (w.heap.size + 1) (B i) v on w1 hv (hG.2.1.c1 hi) (hG.2.1.free _) l1.cell l2.cell).mono ?_
    rintro e w' ⟨k, rfl, rfl, rfl⟩
    refine ⟨0, rfl, rfl, ⟨?_, ?_, hG.2.2⟩, ?_⟩
    · exact (Lit0.far hG.1 (by exact hG.2.2) _).drew
    · exact Cs.drewN (hG.2.1.set1 hi _) 1
    · exact grown_drew (grown_trans (grown_below hb0 _) (grown_one _ _ _ _))
  have HK := Lib.hid hk
  clear hk l1 l2 hb0 h
  go_enter Tryd.func23, Tryd.ntmps23
  go_wp2_with fail
  refine HK.out.mono ?_
  rintro e w1 ⟨k, rfl, hr⟩
  have HR := Lib.hid hr
  clear hr
  go_wp2_with fail
  go_ret
  exact ⟨k, rfl, HR.out⟩

/-- What Free's closure leaves. -/
def RetFreed (w : World) (c j : Nat) (s : Int) (k : Int) (w' : World) : Prop := (s = 0 ∧ k = 6 ∧ w' = w) ∨ (s ≠ 0 ∧ k = 0 ∧ w' = (w.setCell ⟨c, j, none⟩ (.int .u8 0)).setCell ⟨c, j + 2, none⟩ (.int .i64 0))

theorem free_sub (c j : Nat) (s k : Int) (w : World) (h0 : w.cell? ⟨c, j, none⟩ = some (.int .u8 s)) (h2 : w.cell? ⟨c, j + 2, none⟩ = some (.int .i64 k)) (f0 : w.frozen? ⟨c, j, none⟩ = false) (f2 : w.frozen? ⟨c, j + 2, none⟩ = false) :
    Calls Tryd.prog 32 #[.pointer (some ⟨c, j, none⟩)] w (RetErr (RetFreed w c j s)) := by
  by_cases hs : s = 0
  · subst hs
    go_enter Tryd.func32, Tryd.ntmps32
    go_wp2_with fail
    go_ret
    exact ⟨_, rfl, .inl ⟨rfl, rfl, rfl⟩⟩
  · have d1 : (s == 0) = false := by rw [beq_eq_false_iff_ne]; exact hs
    have HS := Lib.hid hs
    clear hs
    go_enter Tryd.func32, Tryd.ntmps32
    go_wp2_with fail
    go_ret
    exact ⟨_, rfl, .inr ⟨HS.out, rfl, rfl⟩⟩

/-- What Free leaves. -/
def RetFree (w : World) (g c : Nat) (own far : Int) (n i : Nat) (S B : Nat → Int) (_ : Int) (w' : World) : Prop := ∃ C', Grp w' g c own far n (upd S i 0) B C' ∧ w.grownBy w' (some c)

theorem freed_any (g c : Nat) (own far : Int) (n i : Nat) (S B C : Nat → Int) (w : World) (h : Grp w g c own far n S B C) (hi : i < n) :
    Calls Tryd.prog 12 #[.pointer (some ⟨g, 0, none⟩), .int .i64 (i : Int)] w (RetErr (RetFree w g c own far n i S B)) := by
  have hk : Calls Tryd.prog 31 #[.pointer (some ⟨g, 0, none⟩), .int .i64 (i : Int), .func (.func 32) #[] #[]] w (RetErr (RetFree w g c own far n i S B)) := by
    refine with_any 32 _ g c own far n i w _ h.1 hi call32 ?_
    refine (free_sub c (i * 3) (S i) (C i) w (h.2.1.c0 hi) (h.2.1.c2 hi) (h.2.1.free _) (h.2.1.free _)).mono ?_
    rintro e w' ⟨k, rfl, ⟨hs, rfl, rfl⟩ | ⟨hs, rfl, rfl⟩⟩
    · refine ⟨6, rfl, C, ⟨h.1, h.2.1.congr (fun k _ => ?_) (fun _ _ => rfl) (fun _ _ => rfl), h.2.2⟩, grown_refl _ _⟩
      by_cases hk : k = i
      · subst hk; rw [upd_at, hs]
      · rw [upd_ne _ _ hk]
    · refine ⟨0, rfl, upd C i 0, ⟨?_, (h.2.1.set0 hi 0).set2 hi 0, h.2.2⟩, grown_trans (grown_one _ _ _ _) (grown_one _ _ _ _)⟩
      exact Lit0.far (Lit0.far h.1 (by exact h.2.2) _) (by exact h.2.2) _
  have HK := Lib.hid hk
  clear hk h
  go_enter Tryd.func12, Tryd.ntmps12
  go_wp2_with fail
  refine HK.out.mono ?_
  rintro e w1 ⟨k, rfl, hr⟩
  have HR := Lib.hid hr
  clear hr
  go_wp2_with fail
  go_ret
  exact ⟨k, rfl, HR.out⟩

/-- What At's closure leaves. -/
def RetCopied (w : World) (b : Nat) (s v k : Int) (z : Int) (w' : World) : Prop := z = 0 ∧ w' = ((w.setCell ⟨b, 0, none⟩ (.int .u8 s)).setCell ⟨b, 1, none⟩ (.int .u8 v)).setCell ⟨b, 2, none⟩ (.int .i64 k)

theorem at_sub (c j b : Nat) (s v k : Int) (w : World) (h0 : w.cell? ⟨c, j, none⟩ = some (.int .u8 s)) (h1 : w.cell? ⟨c, j + 1, none⟩ = some (.int .u8 v)) (h2 : w.cell? ⟨c, j + 2, none⟩ = some (.int .i64 k)) (hb : Lit0 w b 65 #[.int .u8 0, .int .u8 0, .int .i64 0]) :
    Calls Tryd.prog 36 #[.pointer (some ⟨c, j, none⟩), .pointer (some ⟨b, 0, none⟩)] w (RetErr (RetCopied w b s v k)) := by
  have q0 := hb.cell 0
  have q1 := hb.cell 1
  have q2 := hb.cell 2
  simp only [List.getElem?_toArray, List.getElem?_cons_zero, List.getElem?_cons_succ] at q0 q1 q2
  have f0 := hb.free 0
  have f1 := hb.free 1
  have f2 := hb.free 2
  clear hb
  go_enter Tryd.func36, Tryd.ntmps36
  go_wp2_with fail
  go_ret
  exact ⟨0, rfl, rfl, rfl⟩

set_option maxHeartbeats 1000000 in
theorem at_any (g c : Nat) (own far : Int) (n i : Nat) (S B C : Nat → Int) (w : World) (h : Grp w g c own far n S B C) (hi : i < n) :
    Calls Tryd.prog 19 #[.pointer (some ⟨g, 0, none⟩), .int .i64 (i : Int)] w fun e w' => e = .returned (.tuple #[.agg #[.int .u8 (S i), .int .u8 (B i), .int .i64 (C i)], .int .i64 0]) ∧ Below w.heap.size w w' := by
  have hb0 := (Below.refl w.heap.size w).alloc (Nat.le_refl _) (.cells #[.int .u8 0, .int .u8 0, .int .i64 0] 65)
  have l0 := Lit0.new w 65 #[.int .u8 0, .int .u8 0, .int .i64 0]
  have hk : Calls Tryd.prog 31 #[.pointer (some ⟨g, 0, none⟩), .int .i64 (i : Int), .func (.func 36) #[] #[.pointer (some ⟨w.heap.size, 0, none⟩)]] (w.alloc (.cells #[.int .u8 0, .int .u8 0, .int .i64 0] 65)) (RetErr (fun z w' => z = 0 ∧ Lit0 w' w.heap.size 65 #[.int .u8 (S i), .int .u8 (B i), .int .i64 (C i)] ∧ Below w.heap.size w w')) := by
    have hG := h.kept hb0
    generalize w.alloc (.cells #[.int .u8 0, .int .u8 0, .int .i64 0] 65) = w1 at l0 hb0 hG ⊢
    refine with_any 36 _ g c own far n i w1 _ hG.1 hi call36 ?_
    refine (at_sub c (i * 3) w.heap.size (S i) (B i) (C i) w1 (hG.2.1.c0 hi) (hG.2.1.c1 hi) (hG.2.1.c2 hi) l0).mono ?_
    rintro e w' ⟨k, rfl, rfl, rfl⟩
    exact ⟨0, rfl, rfl, ((l0.set 0 _).set 1 _).set 2 _, ((hb0.setCell (by simp) _).setCell (by simp) _).setCell (by simp) _⟩
  have HK := Lib.hid hk
  clear hk l0 hb0 h
  go_enter Tryd.func19, Tryd.ntmps19
  go_wp2_with fail
  refine HK.out.mono ?_
  rintro e w1 ⟨k, rfl, rfl, hl, hb⟩
  have q0 := hl.cell 0
  have q1 := hl.cell 1
  have q2 := hl.cell 2
  simp only [List.getElem?_toArray, List.getElem?_cons_zero, List.getElem?_cons_succ] at q0 q1 q2
  have f0 := hl.free 0
  have f1 := hl.free 1
  have f2 := hl.free 2
  have HL := Lib.hid hl
  have HB := Lib.hid hb
  clear hl hb
  go_wp2_with fail
  have HL2 := ((HL.out.set 0 (.int .u8 (S i))).set 1 (.int .u8 (B i))).set 2 (.int .i64 (C i))
  have HB2 := ((HB.out.setCell (p := ⟨w.heap.size, 0, none⟩) (by simp) (.int .u8 (S i))).setCell (p := ⟨w.heap.size, 1, none⟩) (by simp) (.int .u8 (B i))).setCell (p := ⟨w.heap.size, 2, none⟩) (by simp) (.int .i64 (C i))
  generalize ((w1.setCell ⟨w.heap.size, 0, none⟩ (.int .u8 (S i))).setCell ⟨w.heap.size, 1, none⟩ (.int .u8 (B i))).setCell ⟨w.heap.size, 2, none⟩ (.int .i64 (C i)) = w2 at HL2 HB2 ⊢
  have r0 := HL2.cell 0
  have r1 := HL2.cell 1
  have r2 := HL2.cell 2
  simp at r0 r1 r2
  exact bodyPost_ret (v := .tuple #[.agg #[.int .u8 (S i), .int .u8 (B i), .int .i64 (C i)], .int .i64 0]) (by simp [results, Tryd.results19, go_sem, r0, r1, r2]) rfl ⟨rfl, HB2⟩
end Go.Proofs.YtdjephmkpebnhaaDoor
