/- lowered: the level of a record at a tick. -/
import Derived.Test.YtljogcdopeflnaaMeterSet
import Derived.IntWalk
namespace Go.Proofs.Ytljogcdopeflnaa
open Go.RowKit

/-- The level of a record at a tick. -/
def lowv (base now at_ lv : Int) : Int := if now ≤ at_ then lv else max (lv - min ((now - at_) / base) 3) 0

theorem w64 (n : Int) (h : -9223372036854775808 ≤ n ∧ n ≤ 9223372036854775807) : wrap64 n = n := by unfold wrap64; omega

theorem lowered_old (g : Nat) (base now at_ lv : Int) (w : World) (h : now ≤ at_) :
    Calls Try.prog 21 #[.pointer (some ⟨g, 0, none⟩), .int .i64 now, .agg #[.int .i64 at_, .int .i64 lv]] w fun e w' => e = .returned (.int .i64 (lowv base now at_ lv)) ∧ Below w.heap.size w w' := by
  have hv : lv = lowv base now at_ lv := by unfold lowv; rw [if_pos h]
  have HV := Lib.hid hv
  have hb0 := (Below.refl _ w).alloc (Nat.le_refl _) (.cells #[.int .i64 at_, .int .i64 lv] 66)
  clear hv
  go_enter Try.func21, Try.ntmps21
  go_wp2_with fail
  go_ret
  exact ⟨congrArg (fun x => Ending.returned (.int .i64 x)) HV.out, hb0⟩

theorem lowered_new (g b : Nat) (base now at_ lv : Int) (w : World) (h : Lit0 w g 60 #[.int .i64 base, .map (some b)]) (hba : 1 ≤ base ∧ base ≤ 9223372036854775807)
    (hnow : -9223372036854775808 ≤ now ∧ now ≤ 9223372036854775807) (hat : -9223372036854775808 ≤ at_ ∧ at_ ≤ 9223372036854775807) (hlv : 0 ≤ lv ∧ lv ≤ 3) (hlt : ¬ now ≤ at_) :
    Calls Try.prog 21 #[.pointer (some ⟨g, 0, none⟩), .int .i64 now, .agg #[.int .i64 at_, .int .i64 lv]] w fun e w' => e = .returned (.int .i64 (lowv base now at_ lv)) ∧ Below w.heap.size w w' := by
  have hb0 := (Below.refl _ w).alloc (Nat.le_refl _) (.cells #[.int .i64 at_, .int .i64 lv] 66)
  have hm := Lit0.alloc h (.cells #[.int .i64 at_, .int .i64 lv] 66)
  have c0 := hm.cell 0
  simp only [List.getElem?_toArray, List.getElem?_cons_zero] at c0
  have d0 : decide (now ≤ at_) = false := by simpa using hlt
  obtain ⟨q, hq⟩ : ∃ q, q = (now - at_) / base := ⟨_, rfl⟩
  have hq0 : 0 ≤ q := by rw [hq]; exact Int.ediv_nonneg (by omega) (by omega)
  have hq1 : q ≤ 18446744073709551615 := by
    rw [hq]
    exact Int.le_trans (Int.ediv_le_self _ (by omega)) (by omega)
  obtain ⟨d, hd⟩ : ∃ d, d = now - at_ := ⟨_, rfl⟩
  have hd0 : 0 < d ∧ d ≤ 18446744073709551615 := by omega
  have e1 : IntKind.u64.wrap (IntKind.u64.wrap now - IntKind.u64.wrap at_) = d := by
    simp [IntKind.wrap_u64] <;> omega
  have e2 : IntKind.u64.wrap (d.tdiv base) = q := by
    rw [Int.tdiv_eq_ediv_of_nonneg (by omega), hd, ← hq]
    simp [IntKind.wrap_u64] <;> omega
  have hv : lowv base now at_ lv = max (lv - min q 3) 0 := by unfold lowv; rw [if_neg hlt, hq]
  have HV := Lib.hid hv
  have HD := Lib.hid hd
  have HQ := Lib.hid hq
  clear hv hd hq
  by_cases h3 : 3 < q
  · have w3 : wrap64 (lv - 3) = lv - 3 := w64 _ (by omega)
    have w4 : wrap64 3 = 3 := by simp [wrap64]
    have d4 : decide (0 ≤ lv - 3) = decide (lv = 3) := by rw [decide_eq_decide]; omega
    go_enter Try.func21, Try.ntmps21
    go_wp2_with fail
    go_quiet (fail)
    go_wp2_with fail
    all_goals
      go_ret
      refine ⟨congrArg (fun x => Ending.returned (.int .i64 x)) ?_, Below.drewN' hb0 _⟩
      rw [HV.out]
      omega
  · have w3 : wrap64 q = q := w64 _ (by omega)
    have w5 : wrap64 (lv - q) = lv - q := w64 _ (by omega)
    go_enter Try.func21, Try.ntmps21
    go_wp2_with fail
    go_quiet (fail)
    go_wp2_with fail
    all_goals
      go_ret
      refine ⟨congrArg (fun x => Ending.returned (.int .i64 x)) ?_, Below.drewN' hb0 _⟩
      rw [HV.out]
      omega

theorem lowv_range (base now at_ lv : Int) (hlv : 0 ≤ lv ∧ lv ≤ 3) (hb : 1 ≤ base) : 0 ≤ lowv base now at_ lv ∧ lowv base now at_ lv ≤ 3 := by
  unfold lowv
  split
  · exact hlv
  · have hq0 : 0 ≤ (now - at_) / base := Int.ediv_nonneg (by omega) (by omega)
    generalize (now - at_) / base = q at *
    omega

theorem lowered_any (g b : Nat) (base now at_ lv : Int) (w : World) (h : Lit0 w g 60 #[.int .i64 base, .map (some b)]) (hba : 1 ≤ base ∧ base ≤ 9223372036854775807)
    (hnow : -9223372036854775808 ≤ now ∧ now ≤ 9223372036854775807) (hat : -9223372036854775808 ≤ at_ ∧ at_ ≤ 9223372036854775807) (hlv : 0 ≤ lv ∧ lv ≤ 3) :
    Calls Try.prog 21 #[.pointer (some ⟨g, 0, none⟩), .int .i64 now, .agg #[.int .i64 at_, .int .i64 lv]] w fun e w' => e = .returned (.int .i64 (lowv base now at_ lv)) ∧ Below w.heap.size w w' := by
  by_cases hlt : now ≤ at_
  · exact lowered_old g base now at_ lv w hlt
  · exact lowered_new g b base now at_ lv w h hba hnow hat hlv hlt
end Go.Proofs.Ytljogcdopeflnaa
