/- For every list of choices, of statuses, of links and of states the law SharesTables returns true, and its arguments read afterwards as before. No conditions. -/
import Derived.Test.YtncklimjbejgoaaSharesTablesWalk
import Derived.Test.YtncklimjbejgoaaOpen
import Derived.Lib.SmallJoins
namespace Go.Proofs.Ytncklimjbejgoaa
theorem Try.cells36 : Try.prog.cellsOf 36 = 2 := by kernel_rfl

open Go.Joins Go.ChangeShapes Go.WideShapes Go.ChangeAt Go.RowKit

set_option maxRecDepth 100000 in
theorem sharesTables_lifted (os : Os) (started : os.Started) (H : Type) (enc : TypeId × Value → H) :
    ReturnsInHanded {} Try.checked os 5 .any (Rows.sharesTablesSpec.pre6 enc Try.prog Try.f5 Rows.sharesTablesRow.domain false) (Rows.sharesTablesSpec.post enc Try.prog Try.f5 false true false false) := by
  refine returnsInHanded_of_change (C := Try.checked) Try.own started (by kernel_rfl) Try.func5
    (ChangeSpec.witness6 (enc := enc) (C := Try.checked) false ⟨#[], #[.slice none 0 0, .slice none 0 0, .agg #[.slice none 0 0, .slice none 0 0]], []⟩ 8 (by kernel_rfl) (by kernel_rfl) (by kernel_rfl) (by kernel_rfl)) ?_
  intro W base args ds gs before hval0 hW _ _
  have hval : ∀ (j : Nat) t v, Try.f5.params[j]? = some t → args[j]? = some v → Value.okWide Try.prog W .any base t v := hval0
  have hW' := hW
  obtain ⟨p, q, hA0, hV, rfl, _, _⟩ := hW
  have hA : DataW.TrodAll enc Try.prog W 0 (fun _ => true) true Try.f5.params.toList args.toList ds p := hA0
  rw [Try.params5] at hA hval
  obtain ⟨v0, v1, v2, d0, d1, d2, p0, p1, p2, rfl, rfl, rfl, h0, h1, h2⟩ := trodAll_three hA
  obtain ⟨rfl, rfl⟩ := trodVars_none hV
  obtain ⟨A, n, c, rfl⟩ := okWide_slice Try.underlying22 (hval 0 22 v0 rfl rfl)
  obtain ⟨A2, m, c2, rfl⟩ := okWide_slice Try.underlying23 (hval 1 23 v1 rfl rfl)
  obtain ⟨v3, v4, y3, y4, q3, rfl, rfl, rfl, h3, h4⟩ := open_agg2 Try.underlying36 (by kernel_rfl) Try.cells36 (hval 2 36 v2 rfl rfl) h2
  obtain ⟨A3, n3, c3, rfl⟩ := slice_of_trod Try.underlying29 h3
  obtain ⟨A4, m4, c4, rfl⟩ := slice_of_trod Try.underlying30 h4
  obtain ⟨fuel0, hf0⟩ := h0
  obtain ⟨fuel1, hf1⟩ := h1
  obtain ⟨f, g, hs⟩ := sees_pairs Try.underlying22 Try.underlying48 (by kernel_rfl) rfl rfl rfl rfl Try.underlying41 Try.underlying3 (by kernel_rfl) (by kernel_rfl) hf0
  obtain ⟨S, hs2, _⟩ := sees_ints Try.underlying23 Try.underlying49 (by kernel_rfl) hf1
  obtain ⟨f', g', h', hs3⟩ := sees_triples Try.underlying29 Try.underlying43 (by kernel_rfl) rfl rfl rfl rfl rfl rfl Try.underlying41 Try.underlying41 Try.underlying5 (by kernel_rfl) (by kernel_rfl) (by kernel_rfl) h3
  obtain ⟨U, hs4⟩ := sees_bools Try.underlying30 Try.underlying4 (by kernel_rfl) h4
  have key : Calls Try.prog 5 #[.slice A n c, .slice A2 m c2, .agg #[.slice A3 n3 c3, .slice A4 m4 c4]] W (RetBool W true) := by
    by_cases hsh : Short n m n3 m4
    · exact sharesTables_short A A2 A3 A4 n c m c2 n3 c3 m4 c4 W hsh
    · exact sharesTables_any A A2 A3 A4 n c m c2 n3 c3 m4 c4 f g S f' g' h' U W hsh hs hs2 hs3 hs4
  refine key.mono fun e W' ⟨he, hbel⟩ => ?_
  subst he
  exact ⟨_, rfl, law_post Try.laidOut (by rw [Try.params5]; intro t ht; simp at ht; rcases ht with rfl | rfl | rfl <;> exact ⟨by kernel_rfl, of_decide_eq_true (by kernel_rfl)⟩) rfl 4 rfl Try.underlying4 hW' ⟨rfl, rfl, rfl⟩ hbel⟩

theorem sharesTables_holds : Rows.SharesTablesSaid :=
  OpenClaim.holds_of_wide 5 Try.f5 rfl rfl rfl rfl rfl rfl rfl ⟨rfl, rfl, rfl, rfl, rfl⟩ rfl rfl rfl rfl rfl (by kernel_rfl) Try.func5 (by kernel_rfl)
    (of_decide_eq_true (by kernel_rfl)) (by unfold Func.isWrapper; first | (rw [if_pos (by decide +kernel)]; kernel_rfl) | (rw [if_neg (by decide +kernel)]; exact ⟨rfl, rfl⟩))
    (fun os started H enc _ => sharesTables_lifted os started H enc)

end Go.Proofs.Ytncklimjbejgoaa
