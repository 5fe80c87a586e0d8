/- A slice of structs of three whole numbers, with the numbers' bounds. -/
import Derived.Test.YtljogcdopeflnaaOpen
namespace Go.Proofs.Ytljogcdopeflnaa
open Go.ChangeShapes Go.WideShapes Go.ChangeAt Go.RowKit
section
variable {H : Type} {enc : TypeId × Value → H} {P : Program} {w : World}

/-- An argument that is a slice of structs of three whole numbers. -/
theorem sees_triples_wf {t e t0 t1 t2 : TypeId} {f0 f1 f2 : Field} {k0 k1 k2 : IntKind} {fuel : Nat} {A : Option Addr} {n c : Nat} {x : DataW H × List MemPlace} (ht : P.underlying t = some (.slice e)) (he : P.underlying e = some (.struct #[f0, f1, f2]))
    (hc : P.cellsOf e = 3) (e0 : f0.type = t0) (e1 : f1.type = t1) (e2 : f2.type = t2) (o0 : f0.offset = 0) (o1 : f1.offset = 1) (o2 : f2.offset = 2) (h0 : P.underlying t0 = some (.int k0)) (h1 : P.underlying t1 = some (.int k1)) (h2 : P.underlying t2 = some (.int k2))
    (c0 : P.cellsOf t0 = 1) (c1 : P.cellsOf t1 = 1) (c2 : P.cellsOf t2 = 1)
    (h : DataW.trod enc P w 0 (fun _ => true) true fuel t [.slice A n c] = some x) :
    ∃ f g j : Nat → Int, Sees3 w w.heap.size A n (fun i => .int k0 (f i)) (fun i => .int k1 (g i)) (fun i => .int k2 (j i)) ∧ ∀ i, i < n → (Lit.int k0 (f i)).wf = true ∧ (Lit.int k1 (g i)).wf = true ∧ (Lit.int k2 (j i)).wf = true := by
  rcases Go.Deep.open_slice ht h with ⟨hcs, _⟩ | ⟨a, len, cap, m, n', D, Pl, hcs, _, hl, _, hm, _, hi⟩
  · simp only [List.cons.injEq, Value.slice.injEq, and_true] at hcs
    obtain ⟨rfl, rfl, rfl⟩ := hcs
    exact ⟨fun _ => 0, fun _ => 0, fun _ => 0, fun k hk => absurd hk (by omega), fun k hk => absurd hk (by omega)⟩
  · simp only [List.cons.injEq, Value.slice.injEq, and_true] at hcs
    obtain ⟨rfl, rfl, rfl⟩ := hcs
    simp only [if_true] at hm
    have hel : ∀ i, i < n → ∃ p : Int × Int × Int, w.cell? (a.add (i * 3)) = some (.int k0 p.1) ∧ w.cell? (a.add (i * 3 + 1)) = some (.int k1 p.2.1) ∧ w.cell? (a.add (i * 3 + 2)) = some (.int k2 p.2.2) ∧ (Lit.int k0 p.1).wf = true ∧ (Lit.int k1 p.2.1).wf = true ∧ (Lit.int k2 p.2.2).wf = true := by
      intro i hin
      obtain ⟨cs', hcells, htr⟩ := hi i (by omega)
      rw [hc] at hcells
      obtain ⟨_, hlen, hat⟩ := World.cells?_some hcells
      obtain ⟨y0, y1, y2, q, _, _, hy0, hy1, hy2⟩ := Go.Deep.trod_struct3 he htr
      match cs', hlen with
      | [u0, u1, u2], _ =>
        rw [e0, c0, o0] at hy0
        rw [e1, c1, o1] at hy1
        rw [e2, c2, o2] at hy2
        obtain ⟨z0, hz0, _, wz0⟩ := DataW.trod_int h0 (x := y0) (by simpa using hy0)
        obtain ⟨z1, hz1, _, wz1⟩ := DataW.trod_int h1 (x := y1) (by simpa using hy1)
        obtain ⟨z2, hz2, _, wz2⟩ := DataW.trod_int h2 (x := y2) (by simpa using hy2)
        simp only [List.cons.injEq, and_true] at hz0 hz1 hz2
        refine ⟨(z0, z1, z2), ?_, ?_, ?_, wz0, wz1, wz2⟩
        · have := hat 0 (by omega)
          rw [Go.Deep.add_add] at this
          simpa [hz0] using this
        · have := hat 1 (by omega)
          rw [Go.Deep.add_add] at this
          simpa [hz1] using this
        · have := hat 2 (by omega)
          rw [Go.Deep.add_add] at this
          simpa [hz2] using this
    obtain ⟨b, off, spot⟩ := a
    rcases Nat.eq_zero_or_pos n with hn0 | hn0
    · exact ⟨fun _ => 0, fun _ => 0, fun _ => 0, fun k hk => absurd hk (by omega), fun k hk => absurd hk (by omega)⟩
    have hsp : spot = none := by
      obtain ⟨x, hx, _⟩ := hel 0 hn0
      exact World.cell?_spot (w := w) (a := ⟨b, off, spot⟩) hx
    subst hsp
    have hel' : ∀ i, ∃ p : Int × Int × Int, i < n → w.cell? ⟨b, off + i * 3, none⟩ = some (.int k0 p.1) ∧ w.cell? ⟨b, off + i * 3 + 1, none⟩ = some (.int k1 p.2.1) ∧ w.cell? ⟨b, off + i * 3 + 2, none⟩ = some (.int k2 p.2.2) ∧ (Lit.int k0 p.1).wf = true ∧ (Lit.int k1 p.2.1).wf = true ∧ (Lit.int k2 p.2.2).wf = true := by
      intro i
      by_cases hin : i < n
      · obtain ⟨p, h1, h2, h3, h4⟩ := hel i hin
        rw [Go.WideShapes.add_plain] at h1 h2 h3
        exact ⟨p, fun _ => ⟨h1, h2, h3, h4⟩⟩
      · exact ⟨(0, 0, 0), fun h => absurd h hin⟩
    exact ⟨fun i => (hel' i).choose.1, fun i => (hel' i).choose.2.1, fun i => (hel' i).choose.2.2, fun i hin => ⟨b, off, rfl, cell_lt ((hel' i).choose_spec hin).1, ((hel' i).choose_spec hin).1, ((hel' i).choose_spec hin).2.1, ((hel' i).choose_spec hin).2.2.1⟩, fun i hin => ((hel' i).choose_spec hin).2.2.2⟩

end
end Go.Proofs.Ytljogcdopeflnaa
