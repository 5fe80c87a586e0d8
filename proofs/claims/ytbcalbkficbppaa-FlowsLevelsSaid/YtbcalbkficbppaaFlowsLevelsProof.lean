/- For every input the law FlowsLevels returns true, and its arguments read afterwards as before. No conditions. -/
import Derived.Test.YtbcalbkficbppaaLevelsWalk
import Derived.Test.YtbcalbkficbppaaSix
import Derived.Lib.SmallJoins
namespace Go.Proofs.Ytbcalbkficbppaa
open Go.Joins Go.ChangeShapes Go.WideShapes Go.ChangeAt Go.RowKit

set_option maxRecDepth 100000 in
theorem flowsLevels_lifted (os : Os) (started : os.Started) (H : Type) (enc : TypeId × Value → H) :
    ReturnsInHanded {} Try.checked os 6 .any (Rows.flowsLevelsSpec.pre6 enc Try.prog Try.f6 Rows.flowsLevelsRow.domain false) (Rows.flowsLevelsSpec.post enc Try.prog Try.f6 false true false false) := by
  refine returnsInHanded_of_change (C := Try.checked) Try.own started (by kernel_rfl) Try.func6
    (ChangeSpec.witness6 (enc := enc) (C := Try.checked) false ⟨#[], #[.agg #[.int .i64 0, .int .i64 0, .int .i64 0, .int .i64 0, .int .i64 0, .int .i64 0], .slice none 0 0], []⟩ 8 (by kernel_rfl) (by kernel_rfl) (by kernel_rfl) (by kernel_rfl)) ?_
  intro W base args ds gs before hval0 hW _ _
  have hval : ∀ (j : Nat) t v, Try.f6.params[j]? = some t → args[j]? = some v → Value.okWide Try.prog W .any base t v := hval0
  have hW' := hW
  obtain ⟨p, q, hA0, hV, rfl, _, _⟩ := hW
  have hA : DataW.TrodAll enc Try.prog W 0 (fun _ => true) true Try.f6.params.toList args.toList ds p := hA0
  rw [Try.params6] at hA hval
  obtain ⟨v0, v1, d0, d1, p0, p1, rfl, rfl, rfl, h0, h1⟩ := trodAll_two hA
  obtain ⟨rfl, rfl⟩ := trodVars_none hV
  obtain ⟨a, b, c, x, y, z, rfl⟩ := open_six Try.underlying45 (by kernel_rfl) rfl rfl rfl rfl Try.underlying43 (by kernel_rfl) Try.underlying3 (by kernel_rfl) (hval 0 45 v0 rfl rfl) h0
  obtain ⟨A, n, cp, rfl⟩ := okWide_slice Try.underlying50 (hval 1 50 v1 rfl rfl)
  obtain ⟨fuel1, hf1⟩ := h1
  obtain ⟨S, hs, _⟩ := sees_ints Try.underlying50 Try.underlying3 (by kernel_rfl) hf1
  have key : Calls Try.prog 6 #[.agg #[.int .i64 a, .int .i64 b, .int .i64 c, .int .i64 x, .int .i64 y, .int .i64 z], .slice A n cp] W (RetBool W true) := by
    by_cases hn : 100 < n
    · exact levels_many a b c x y z A n cp W hn
    · exact levels_law a b c x y z A n cp S W (by omega) hs
  refine key.mono fun e W' ⟨he, hbel⟩ => ?_
  subst he
  exact ⟨_, rfl, law_post Try.laidOut (by rw [Try.params6]; intro t ht; simp at ht; rcases ht with rfl | rfl <;> exact ⟨by kernel_rfl, of_decide_eq_true (by kernel_rfl)⟩) rfl 4 rfl Try.underlying4 hW' ⟨rfl, rfl, rfl⟩ hbel⟩

theorem flowsLevels_holds : Rows.FlowsLevelsSaid :=
  OpenClaim.holds_of_wide 6 Try.f6 rfl rfl rfl rfl rfl rfl rfl ⟨rfl, rfl, rfl, rfl, rfl⟩ rfl rfl rfl rfl rfl (by kernel_rfl) Try.func6 (by kernel_rfl)
    (of_decide_eq_true (by kernel_rfl)) (by unfold Func.isWrapper; first | (rw [if_pos (by decide +kernel)]; kernel_rfl) | (rw [if_neg (by decide +kernel)]; exact ⟨rfl, rfl⟩))
    (fun os started H enc _ => flowsLevels_lifted os started H enc)

end Go.Proofs.Ytbcalbkficbppaa
