/- For every input the law CongestionsTime returns true, and its arguments read afterwards as before. No conditions. -/
import Derived.Test.YtljogcdopeflnaaTimeWalk
import Derived.Test.YtljogcdopeflnaaOpen
import Derived.Lib.SmallJoins
namespace Go.Proofs.Ytljogcdopeflnaa
open Go.Joins Go.ChangeShapes Go.WideShapes Go.ChangeAt Go.RowKit

set_option maxRecDepth 100000 in
theorem congestionsTime_lifted (os : Os) (started : os.Started) (H : Type) (enc : TypeId × Value → H) :
    ReturnsInHanded {} Try.checked os 7 .any (Rows.congestionsTimeSpec.pre6 enc Try.prog Try.f7 Rows.congestionsTimeRow.domain false) (Rows.congestionsTimeSpec.post enc Try.prog Try.f7 false true false false) := by
  refine returnsInHanded_of_change (C := Try.checked) Try.own started (by kernel_rfl) Try.func7
    (ChangeSpec.witness6 (enc := enc) (C := Try.checked) false ⟨#[], #[.int .i64 0, .agg #[.int .i64 0, .int .i64 0], .agg #[.int .u16 0, .int .i64 0]], []⟩ 8 (by kernel_rfl) (by kernel_rfl) (by kernel_rfl) (by kernel_rfl)) ?_
  intro W base args ds gs before hval0 hW _ _
  have hval : ∀ (j : Nat) t v, Try.f7.params[j]? = some t → args[j]? = some v → Value.okWide Try.prog W .any base t v := hval0
  have hW' := hW
  obtain ⟨p, q, hA0, hV, rfl, _, _⟩ := hW
  have hA : DataW.TrodAll enc Try.prog W 0 (fun _ => true) true Try.f7.params.toList args.toList ds p := hA0
  rw [Try.params7] at hA hval
  obtain ⟨v0, v1, v2, d0, d1, d2, p0, p1, p2, rfl, rfl, rfl, h0, h1, h2⟩ := trodAll_three hA
  obtain ⟨rfl, rfl⟩ := trodVars_none hV
  obtain ⟨base0, rfl, rfl, rfl, wb⟩ := open_int Try.underlying3 (hval 0 3 v0 rfl rfl) h0
  obtain ⟨z0, z1, rfl, wz0, wz1⟩ := open_ints2 Try.underlying52 Try.underlying3 (by kernel_rfl) (by kernel_rfl) (hval 1 52 v1 rfl rfl) h1
  obtain ⟨u0, u1, y0, y1, m, rfl, rfl, rfl, hu0, hu1⟩ := open_agg2 Try.underlying54 (by kernel_rfl) (by kernel_rfl) (hval 2 54 v2 rfl rfl) h2
  obtain ⟨to_, e0, _, wt⟩ := DataW.trod_int Try.underlying49 hu0
  obtain ⟨lv, e1, _, _⟩ := DataW.trod_int Try.underlying3 hu1
  simp only [List.cons.injEq, and_true] at e0 e1
  subst e0 e1
  have kb : -9223372036854775808 ≤ base0 ∧ base0 ≤ 9223372036854775807 := by simpa [Lit.wf, IntKind.min, IntKind.max, IntKind.signed, IntKind.bits] using wb
  have k0 : -9223372036854775808 ≤ z0 ∧ z0 ≤ 9223372036854775807 := by simpa [Lit.wf, IntKind.min, IntKind.max, IntKind.signed, IntKind.bits] using wz0
  have k1 : -9223372036854775808 ≤ z1 ∧ z1 ≤ 9223372036854775807 := by simpa [Lit.wf, IntKind.min, IntKind.max, IntKind.signed, IntKind.bits] using wz1
  have kt : 0 ≤ to_ ∧ to_ ≤ 65535 := by simpa [Lit.wf, IntKind.min, IntKind.max, IntKind.signed, IntKind.bits] using wt
  have key : Calls Try.prog 7 #[.int .i64 base0, .agg #[.int .i64 z0, .int .i64 z1], .agg #[.int .u16 to_, .int .i64 lv]] W (RetBool W true) := by
    by_cases hb : base0 < 1
    · exact time_low base0 z0 z1 lv to_ W hb
    by_cases hbad : lv < 0 ∨ 3 < lv ∨ 16383 < to_
    · exact time_bad base0 z0 z1 lv to_ W (by omega) k0 kt hbad
    · exact time_good base0 z0 z1 lv to_ W (by omega) k0 k1 (by omega) (by omega)
  refine key.mono fun e W' ⟨he, hbel⟩ => ?_
  subst he
  exact ⟨_, rfl, law_post Try.laidOut (by rw [Try.params7]; intro t ht; simp at ht; rcases ht with rfl | rfl | rfl <;> exact ⟨by kernel_rfl, of_decide_eq_true (by kernel_rfl)⟩) rfl 4 rfl Try.underlying4 hW' ⟨rfl, rfl, rfl⟩ hbel⟩

theorem congestionsTime_holds : Rows.CongestionsTimeSaid :=
  OpenClaim.holds_of_wide 7 Try.f7 rfl rfl rfl rfl rfl rfl rfl ⟨rfl, rfl, rfl, rfl, rfl⟩ rfl rfl rfl rfl rfl (by kernel_rfl) Try.func7 (by kernel_rfl)
    (of_decide_eq_true (by kernel_rfl)) (by unfold Func.isWrapper; first | (rw [if_pos (by decide +kernel)]; kernel_rfl) | (rw [if_neg (by decide +kernel)]; exact ⟨rfl, rfl⟩))
    (fun os started H enc _ => congestionsTime_lifted os started H enc)

end Go.Proofs.Ytljogcdopeflnaa
