/- A struct of two arrays of three whole numbers, by value. -/
import Derived.Test.YtbcalbkficbppaaOpen
import Derived.Lib.SmallJoins
namespace Go.Proofs.Ytbcalbkficbppaa
open Go.Joins Go.ChangeShapes Go.WideShapes Go.ChangeAt Go.RowKit

theorem array6 {α : Type} {cs : Array α} (h : cs.size = 6) : ∃ c0 c1 c2 c3 c4 c5, cs = #[c0, c1, c2, c3, c4, c5] := by
  obtain ⟨l⟩ := cs
  match l, h with
  | [c0, c1, c2, c3, c4, c5], _ => exact ⟨c0, c1, c2, c3, c4, c5, rfl⟩

section
variable {H : Type} {enc : TypeId × Value → H} {P : Program} {w : World}

theorem three_ints {fuel : Nat} {ta e : TypeId} {k : IntKind} {base : Nat} {sp : Nat → Bool} {held : Bool} {c0 c1 c2 : Value} {y : DataW H × List MemPlace} (ha : P.underlying ta = some (.array 3 e)) (he : P.underlying e = some (.int k)) (hce : P.cellsOf e = 1)
    (h : DataW.trod enc P w base sp held fuel ta [c0, c1, c2] = some y) : ∃ a b c : Int, c0 = .int k a ∧ c1 = .int k b ∧ c2 = .int k c := by
  obtain ⟨xs, m, _, _, _, hlen, hel⟩ := DataW.trod_array ha h
  match xs, hlen with
  | [y0, y1, y2], _ =>
    have h0 := hel 0 (by omega)
    have h1 := hel 1 (by omega)
    have h2 := hel 2 (by omega)
    rw [hce] at h0 h1 h2
    obtain ⟨z0, e0, _, _⟩ := DataW.trod_int he (by simpa using h0)
    obtain ⟨z1, e1, _, _⟩ := DataW.trod_int he (by simpa using h1)
    obtain ⟨z2, e2, _, _⟩ := DataW.trod_int he (by simpa using h2)
    simp only [List.cons.injEq, and_true] at e0 e1 e2
    exact ⟨z0, z1, z2, e0, e1, e2⟩

theorem open_six {r : Reach} {b0 : Nat} {t ta e : TypeId} {f0 f1 : Field} {k : IntKind} {base : Nat} {sp : Nat → Bool} {held : Bool} {v : Value} {d : DataW H} {ps : List MemPlace} (ht : P.underlying t = some (.struct #[f0, f1])) (hC : P.cellsOf t = 6)
    (t0 : f0.type = ta) (t1 : f1.type = ta) (o0 : f0.offset = 0) (o1 : f1.offset = 3) (ha : P.underlying ta = some (.array 3 e)) (hca : P.cellsOf ta = 3) (he : P.underlying e = some (.int k)) (hce : P.cellsOf e = 1)
    (hv : Value.okWide P w r b0 t v) (h : DataW.Trod enc P w base sp held t v d ps) :
    ∃ a b c x y z : Int, v = .agg #[.int k a, .int k b, .int k c, .int k x, .int k y, .int k z] := by
  obtain ⟨cs, rfl, hsz⟩ := okWide_struct ht hv
  obtain ⟨c0, c1, c2, c3, c4, c5, rfl⟩ := array6 (hsz.trans hC)
  obtain ⟨fuel, hf⟩ := h
  obtain ⟨y0, y1, n, _, _, h0, h1⟩ := trod_struct2 ht hf
  rw [t0, hca, o0] at h0
  rw [t1, hca, o1] at h1
  obtain ⟨a, b, c, rfl, rfl, rfl⟩ := three_ints ha he hce (by simpa [Value.cells] using h0)
  obtain ⟨x, y, z, rfl, rfl, rfl⟩ := three_ints ha he hce (by simpa [Value.cells] using h1)
  exact ⟨a, b, c, x, y, z, rfl⟩
end
end Go.Proofs.Ytbcalbkficbppaa
