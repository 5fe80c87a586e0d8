/- Meter.Set and Sheds. -/
import Derived.Test.YtljogcdopeflnaaMeter
namespace Go.Proofs.Ytljogcdopeflnaa
open Go.RowKit

theorem reached_one (b : Nat) (x n : Int) (w : World) (h : w.cell? ⟨b, 0, none⟩ = some (.int .i64 n)) :
    Calls Try.prog 19 #[.int .i64 x, .pointer (some ⟨b, 0, none⟩)] w fun e w' => e = .returned (.bool (decide (x ≤ n))) ∧ w = w' := by
  go_enter Try.func19, Try.ntmps19
  go_wp2_with fail
  go_ret
  exact ⟨rfl, rfl⟩

theorem kept_one (b : Nat) (x n : Int) (w : World) (h : w.cell? ⟨b, 0, none⟩ = some (.int .i64 n)) (hx : -9223372036854775808 ≤ x ∧ x ≤ 9223372036854775807) :
    Calls Try.prog 20 #[.int .i64 x, .pointer (some ⟨b, 0, none⟩)] w fun e w' => e = .returned (.bool (decide (x.tdiv 2 < n))) ∧ w = w' := by
  go_enter Try.func20, Try.ntmps20
  go_wp2_with fail
  go_ret
  exact ⟨rfl, rfl⟩

theorem sheds_any (lv p : Int) (w : World) (h : 0 ≤ p ∧ p ≤ 255) : Calls Try.prog 14 #[.int .i64 lv, .int .u8 p] w fun e w' => e = .returned (.bool (decide (p < lv))) ∧ w = w' := by
  go_enter Try.func14, Try.ntmps14
  go_wp2_with fail
  go_ret
  exact ⟨rfl, rfl⟩

/-- A length, and 0 for what is below. -/
def nn (l : Int) : Int := if l < 0 then 0 else l
/-- How many marks are reached; how many are kept. -/
def reachedOf (a b c l : Int) : Int := cnt3 (fun x => decide (x ≤ nn l)) a b c
def keptOf (a b c l : Int) : Int := cnt3 (fun x => decide (x.tdiv 2 < nn l)) a b c
/-- The level behind a length. -/
def newLevel (a b c lv l : Int) : Int := if lv < reachedOf a b c l then reachedOf a b c l else if keptOf a b c l < lv then (if keptOf a b c l < reachedOf a b c l then reachedOf a b c l else keptOf a b c l) else lv

def RetSet (w : World) (g : Nat) (a b c lv l : Int) (e : Ending) (w' : World) : Prop :=
  e = .returned (.tuple #[.int .i64 (newLevel a b c lv l), .bool (newLevel a b c lv l != lv)]) ∧ Meter w' g a b c (newLevel a b c lv l) ∧ w.grownBy w' (some g)

theorem set_nil (l : Int) (w : World) : Calls Try.prog 13 #[.pointer none, .int .i64 l] w fun e w' => e = .returned (.tuple #[.int .i64 0, .bool false]) ∧ Below w.heap.size w w' := by
  go_enter Try.func13, Try.ntmps13
  go_wp2_with fail
  go_ret2
  exact ⟨rfl, (Below.refl _ w).alloc (Nat.le_refl _) _⟩

theorem set_zero (g : Nat) (b c lv l : Int) (w : World) (h : Meter w g 0 b c lv) : Calls Try.prog 13 #[.pointer (some ⟨g, 0, none⟩), .int .i64 l] w fun e w' => e = .returned (.tuple #[.int .i64 0, .bool false]) ∧ Below w.heap.size w w' := by
  have c0 := (Lit0.alloc h (.cells #[.int .i64 l] 3)).cell 0
  simp only [List.getElem?_toArray, List.getElem?_cons_zero] at c0
  clear h
  go_enter Try.func13, Try.ntmps13
  go_wp2_with fail
  go_ret2
  exact ⟨rfl, (Below.refl _ w).alloc (Nat.le_refl _) _⟩

/-- The rest of Set, behind the lengths' store. -/
theorem count_reached (g : Nat) (a b c lv l n : Int) (w : World) (hn : n = nn l) (h : Meter w g a b c lv) :
    Calls Try.prog 18 #[.pointer (some ⟨g, 0, none⟩), .func (.func 19) #[] #[.pointer (some ⟨w.heap.size, 0, none⟩)]] (w.alloc (.cells #[.int .i64 n] 3)) fun e w' => e = .returned (.int .i64 (reachedOf a b c l)) ∧ w.alloc (.cells #[.int .i64 n] 3) = w' := by
  have hx : Box (w.alloc (.cells #[.int .i64 n] 3)) w.heap.size 3 (.int .i64 n) := Box.new _ _ _
  have := count_any 19 #[.pointer (some ⟨w.heap.size, 0, none⟩)] (fun x => decide (x ≤ nn l)) g a b c lv (w.alloc (.cells #[.int .i64 n] 3)) (Lit0.alloc h _) call19 (fun x _ => by
    have := reached_one w.heap.size x n (w.alloc (.cells #[.int .i64 n] 3)) hx.cell
    rw [hn] at this ⊢
    exact this)
  exact this

theorem count_kept (g : Nat) (a b c lv l n : Int) (w : World) (hn : n = nn l) (h : Meter w g a b c lv) (ha : 1 ≤ a) (hab : a ≤ 1000) (hb : 0 ≤ b ∧ b ≤ 1000) (hc : 0 ≤ c ∧ c ≤ 1000) :
    Calls Try.prog 18 #[.pointer (some ⟨g, 0, none⟩), .func (.func 20) #[] #[.pointer (some ⟨w.heap.size, 0, none⟩)]] (w.alloc (.cells #[.int .i64 n] 3)) fun e w' => e = .returned (.int .i64 (keptOf a b c l)) ∧ w.alloc (.cells #[.int .i64 n] 3) = w' := by
  have hx : Box (w.alloc (.cells #[.int .i64 n] 3)) w.heap.size 3 (.int .i64 n) := Box.new _ _ _
  exact count_any 20 #[.pointer (some ⟨w.heap.size, 0, none⟩)] (fun x => decide (x.tdiv 2 < nn l)) g a b c lv (w.alloc (.cells #[.int .i64 n] 3)) (Lit0.alloc h _) call20 (fun x hx' => by
    have := kept_one w.heap.size x n (w.alloc (.cells #[.int .i64 n] 3)) hx.cell (by rcases hx' with rfl | rfl | rfl <;> omega)
    rw [hn] at this ⊢
    exact this)

set_option maxHeartbeats 1000000 in
theorem set_any (g : Nat) (a b c lv l : Int) (w : World) (h : Meter w g a b c lv) (ha : 1 ≤ a) (hab : a ≤ 1000) (hb : 0 ≤ b ∧ b ≤ 1000) (hc : 0 ≤ c ∧ c ≤ 1000) :
    Calls Try.prog 13 #[.pointer (some ⟨g, 0, none⟩), .int .i64 l] w (RetSet w g a b c lv l) := by
  have hm1 : Meter (w.alloc (.cells #[.int .i64 l] 3)) g a b c lv := Lit0.alloc h _
  have c0 := hm1.cell 0
  simp only [List.getElem?_toArray, List.getElem?_cons_zero] at c0
  have e0 : (a == 0) = false := by rw [beq_eq_false_iff_ne]; omega
  obtain ⟨R, hR⟩ : ∃ R, R = reachedOf a b c l := ⟨_, rfl⟩
  obtain ⟨K, hK⟩ : ∃ K, K = keptOf a b c l := ⟨_, rfl⟩
  have bR : 0 ≤ R ∧ R ≤ 3 := by rw [hR]; exact cnt3_le _ a b c
  have bK : 0 ≤ K ∧ K ≤ 3 := by rw [hK]; exact cnt3_le _ a b c
  have H := Lib.hid h
  have HR := Lib.hid hR
  have HK := Lib.hid hK
  have key : ∀ (n : Int), n = nn l → Calls Try.prog 18 #[.pointer (some ⟨g, 0, none⟩), .func (.func 19) #[] #[.pointer (some ⟨w.heap.size, 0, none⟩)]] (w.alloc (.cells #[.int .i64 n] 3)) (fun e w' => e = .returned (.int .i64 R) ∧ w.alloc (.cells #[.int .i64 n] 3) = w') ∧
      Calls Try.prog 18 #[.pointer (some ⟨g, 0, none⟩), .func (.func 20) #[] #[.pointer (some ⟨w.heap.size, 0, none⟩)]] (w.alloc (.cells #[.int .i64 n] 3)) (fun e w' => e = .returned (.int .i64 K) ∧ w.alloc (.cells #[.int .i64 n] 3) = w') := by
    intro n hn
    rw [hR, hK]
    exact ⟨count_reached g a b c lv l n w hn h, count_kept g a b c lv l n w hn h ha hab hb hc⟩
  have fin : ∀ (n lv' : Int) (k : Nat), lv' = newLevel a b c lv l → RetSet w g a b c lv l (.returned (.tuple #[.int .i64 lv', .bool (lv' != lv)])) (((w.alloc (.cells #[.int .i64 n] 3)).setCell ⟨g, 3, none⟩ (.int .i64 lv')).drewN k) := by
    intro n lv' k hlv
    subst hlv
    exact ⟨rfl, (Lit0.set (Lit0.alloc h _) 3 _), grown_drewN (grown_set (grown_alloc (grown_refl _ _) _) (.inl rfl) _) k⟩
  have fin0 : ∀ (n : Int) (k : Nat), lv = newLevel a b c lv l → RetSet w g a b c lv l (.returned (.tuple #[.int .i64 lv, .bool (lv != lv)])) ((w.alloc (.cells #[.int .i64 n] 3)).drewN k) := by
    intro n k hlv
    exact ⟨by rw [← hlv], by rw [← hlv]; exact Lit0.alloc h _, grown_drewN (grown_alloc (grown_refl _ _) _) k⟩
  have KEY := Lib.hid key
  have FIN := Lib.hid fin
  have FIN0 := Lib.hid fin0
  clear hm1 h hR hK key fin fin0
  by_cases hl : l < 0
  · have h1 := KEY.out 0 (by unfold nn; rw [if_pos hl])
    have H1 := Lib.hid h1
    clear h1
    go_enter Try.func13, Try.ntmps13
    go_wp2_with fail
    refine H1.out.1.mono ?_
    rintro e w' ⟨rfl, rfl⟩
    go_wp2_with fail
    refine H1.out.2.mono ?_
    rintro e w' ⟨rfl, rfl⟩
    have c3 := (Lit0.alloc H.out (.cells #[.int .i64 0] 3)).cell 3
    have f3 := (Lit0.alloc H.out (.cells #[.int .i64 0] 3)).free 3
    simp only [List.getElem?_toArray, List.getElem?_cons_zero, List.getElem?_cons_succ] at c3
    by_cases r1 : lv < R
    · have hnew : R = newLevel a b c lv l := by unfold newLevel; rw [← HR.out, if_pos r1]
      have HNEW := Lib.hid hnew
      clear hnew
      go_wp2_with fail
      go_quiet (fail)
      go_wp2_with fail
      go_ret2
      exact FIN.out 0 R nq HNEW.out
    · by_cases r2 : K < lv
      · by_cases r3 : K < R
        · have hnew : R = newLevel a b c lv l := by unfold newLevel; rw [← HR.out, ← HK.out, if_neg r1, if_pos r2, if_pos r3]
          have HNEW := Lib.hid hnew
          clear hnew
          go_wp2_with fail
          go_quiet (fail)
          go_wp2_with fail
          go_ret2
          exact FIN.out 0 R nq HNEW.out
        · have hnew : K = newLevel a b c lv l := by unfold newLevel; rw [← HR.out, ← HK.out, if_neg r1, if_pos r2, if_neg r3]
          have HNEW := Lib.hid hnew
          clear hnew
          go_wp2_with fail
          go_quiet (fail)
          go_wp2_with fail
          go_ret2
          exact FIN.out 0 K nq HNEW.out
      · have hnew : lv = newLevel a b c lv l := by unfold newLevel; rw [← HR.out, ← HK.out, if_neg r1, if_neg r2]
        have HNEW := Lib.hid hnew
        clear hnew
        go_wp2_with fail
        go_quiet (fail)
        go_wp2_with fail
        go_ret2
        first
        | exact FIN0.out 0 nq HNEW.out
        | (have h := FIN0.out 0 nq HNEW.out; simp only [bne_self_eq_false] at h; exact h)
  · have h1 := KEY.out l (by unfold nn; rw [if_neg hl])
    have H1 := Lib.hid h1
    clear h1
    go_enter Try.func13, Try.ntmps13
    go_wp2_with fail
    refine H1.out.1.mono ?_
    rintro e w' ⟨rfl, rfl⟩
    go_wp2_with fail
    refine H1.out.2.mono ?_
    rintro e w' ⟨rfl, rfl⟩
    have c3 := (Lit0.alloc H.out (.cells #[.int .i64 l] 3)).cell 3
    have f3 := (Lit0.alloc H.out (.cells #[.int .i64 l] 3)).free 3
    simp only [List.getElem?_toArray, List.getElem?_cons_zero, List.getElem?_cons_succ] at c3
    by_cases r1 : lv < R
    · have hnew : R = newLevel a b c lv l := by unfold newLevel; rw [← HR.out, if_pos r1]
      have HNEW := Lib.hid hnew
      clear hnew
      go_wp2_with fail
      go_quiet (fail)
      go_wp2_with fail
      go_ret2
      exact FIN.out l R nq HNEW.out
    · by_cases r2 : K < lv
      · by_cases r3 : K < R
        · have hnew : R = newLevel a b c lv l := by unfold newLevel; rw [← HR.out, ← HK.out, if_neg r1, if_pos r2, if_pos r3]
          have HNEW := Lib.hid hnew
          clear hnew
          go_wp2_with fail
          go_quiet (fail)
          go_wp2_with fail
          go_ret2
          exact FIN.out l R nq HNEW.out
        · have hnew : K = newLevel a b c lv l := by unfold newLevel; rw [← HR.out, ← HK.out, if_neg r1, if_pos r2, if_neg r3]
          have HNEW := Lib.hid hnew
          clear hnew
          go_wp2_with fail
          go_quiet (fail)
          go_wp2_with fail
          go_ret2
          exact FIN.out l K nq HNEW.out
      · have hnew : lv = newLevel a b c lv l := by unfold newLevel; rw [← HR.out, ← HK.out, if_neg r1, if_neg r2]
        have HNEW := Lib.hid hnew
        clear hnew
        go_wp2_with fail
        go_quiet (fail)
        go_wp2_with fail
        go_ret2
        first
        | exact FIN0.out l nq HNEW.out
        | (have h := FIN0.out l nq HNEW.out; simp only [bne_self_eq_false] at h; exact h)
end Go.Proofs.Ytljogcdopeflnaa
