/- A struct of three small numbers, by value. -/
import Derived.Test.YtbcalbkficbppaaOpen
import Derived.Lib.SmallJoins
namespace Go.Proofs.Ytbcalbkficbppaa
open Go.Joins Go.ChangeShapes Go.WideShapes Go.ChangeAt Go.RowKit

theorem open_tee {H : Type} {enc : TypeId × Value → H} {w : World} {r : Reach} {b0 : Nat} {base : Nat} {sp : Nat → Bool} {held : Bool} {v : Value} {d : DataW H} {ps : List MemPlace}
    (hv : Value.okWide Try.prog w r b0 23 v) (h : DataW.Trod enc Try.prog w base sp held 23 v d ps) :
    ∃ x y z : Int, v = .agg #[.int .u8 x, .int .u8 y, .int .u8 z] ∧ (0 ≤ x ∧ x ≤ 255) ∧ (0 ≤ y ∧ y ≤ 255) ∧ (0 ≤ z ∧ z ≤ 255) := by
  obtain ⟨u0, u1, u2, y0, y1, y2, m, rfl, rfl, rfl, hu0, hu1, hu2⟩ := open_agg3 Try.underlying23 (by kernel_rfl) (by kernel_rfl) hv h
  obtain ⟨t0, e0, _, w0⟩ := DataW.trod_int Try.underlying5 hu0
  obtain ⟨t1, e1, _, w1⟩ := DataW.trod_int Try.underlying5 hu1
  obtain ⟨t2, e2, _, w2⟩ := DataW.trod_int Try.underlying5 hu2
  simp only [List.cons.injEq, and_true] at e0 e1 e2
  subst e0 e1 e2
  refine ⟨t0, t1, t2, rfl, ?_, ?_, ?_⟩
  · simpa [Lit.wf, IntKind.min, IntKind.max, IntKind.signed, IntKind.bits] using w0
  · simpa [Lit.wf, IntKind.min, IntKind.max, IntKind.signed, IntKind.bits] using w1
  · simpa [Lit.wf, IntKind.min, IntKind.max, IntKind.signed, IntKind.bits] using w2
end Go.Proofs.Ytbcalbkficbppaa
