/- From the arguments' readings to what the walks ask, and from a walk's end to the statement's post: for laws that answer true and leave old memory alone. -/
import Derived.Test.YtbcalbkficbppaaRows
import Derived.Test.YtbcalbkficbppaaKit
import Derived.ProofKit
import Derived.OpenShut
import Derived.Carry
import Derived.Deep.Slices
import Derived.Deep.Grids
import Derived.Deep.Strs
import Derived.ChangeSame
namespace Go.Proofs.Ytbcalbkficbppaa
open Go.ChangeShapes Go.WideShapes Go.ChangeAt Go.RowKit

theorem Try.own : ownKnob Try.prog.godebug = none := by kernel_rfl
theorem Try.laidOut : laidOutB Try.prog = true := by kernel_rfl

section
variable {H : Type} {enc : TypeId × Value → H} {P : Program} {w : World}

theorem addr_plain {a : Addr} {i : Nat} {v : Value} (h : w.cell? (a.add i) = some v) : i = 0 → a.spot = none := fun hi => by
  subst hi
  exact World.cell?_spot (w := w) (a := a) (v := v) h

/-- What reads as a slice is a slice's value. -/
theorem slice_of_trod {base : Nat} {sp : Nat → Bool} {held : Bool} {t e : TypeId} {fuel : Nat} {v : Value} {x : DataW H × List MemPlace} (ht : P.underlying t = some (.slice e)) (h : DataW.trod enc P w base sp held fuel t [v] = some x) : ∃ A n c, v = .slice A n c := by
  rcases Go.Deep.open_slice ht h with ⟨hcs, _⟩ | ⟨a, len, cap, m, n', D, Pl, hcs, _⟩
  · simp only [List.cons.injEq, and_true] at hcs
    exact ⟨_, _, _, hcs⟩
  · simp only [List.cons.injEq, and_true] at hcs
    exact ⟨_, _, _, hcs⟩

/-- An argument that is a slice of whole numbers. -/
theorem sees_ints {t e : TypeId} {k : IntKind} {fuel : Nat} {A : Option Addr} {n c : Nat} {x : DataW H × List MemPlace} (ht : P.underlying t = some (.slice e)) (he : P.underlying e = some (.int k)) (hc : P.cellsOf e = 1)
    (h : DataW.trod enc P w 0 (fun _ => true) true fuel t [.slice A n c] = some x) :
    ∃ S : Nat → Int, Sees w w.heap.size A n (fun i => .int k (S i)) ∧ ∀ i, i < n → (Lit.int k (S i)).wf = true := by
  rcases open_ints ht he hc h with ⟨hcs, _⟩ | ⟨a, len, cap, zs, hcs, _, hl, _, hz, _, hcell, hw⟩
  · simp only [List.cons.injEq, Value.slice.injEq, and_true] at hcs
    obtain ⟨rfl, rfl, rfl⟩ := hcs
    exact ⟨fun _ => 0, Sees.none_, fun i hi => absurd hi (by omega)⟩
  · simp only [List.cons.injEq, Value.slice.injEq, and_true] at hcs
    obtain ⟨rfl, rfl, rfl⟩ := hcs
    simp only [if_true] at hz
    refine ⟨fun i => zs.getD i 0, fun i hi => ?_, fun i hi => ?_⟩
    · obtain ⟨b, off, hab, hbc⟩ := ints_at hcell (by omega)
      subst hab
      exact ⟨b, off, rfl, cell_lt (hbc i (by omega)), hbc i (by omega)⟩
    · refine hw _ ?_
      show zs.getD i 0 ∈ zs
      rw [List.getD_eq_getElem?_getD, List.getElem?_eq_getElem (show i < zs.length by omega)]
      exact List.getElem_mem _

/-- An argument that is a slice of bools. -/
theorem sees_bools {t e : TypeId} {fuel : Nat} {A : Option Addr} {n c : Nat} {x : DataW H × List MemPlace} (ht : P.underlying t = some (.slice e)) (he : P.underlying e = some .bool) (hc : P.cellsOf e = 1)
    (h : DataW.trod enc P w 0 (fun _ => true) true fuel t [.slice A n c] = some x) :
    ∃ S : Nat → Bool, Sees w w.heap.size A n (fun i => .bool (S i)) := by
  rcases Go.Deep.open_bools ht he hc h with ⟨hcs, _⟩ | ⟨a, len, cap, B, hcs, _, hl, _, _, hcell⟩
  · simp only [List.cons.injEq, Value.slice.injEq, and_true] at hcs
    obtain ⟨rfl, rfl, rfl⟩ := hcs
    exact ⟨fun _ => false, Sees.none_⟩
  · simp only [List.cons.injEq, Value.slice.injEq, and_true] at hcs
    obtain ⟨rfl, rfl, rfl⟩ := hcs
    refine ⟨B, fun i hi => ?_⟩
    obtain ⟨b, off, spot⟩ := a
    have hsp : spot = none := World.cell?_spot (w := w) (a := ⟨b, off, spot⟩) (v := .bool (B 0)) (hcell 0 (by omega))
    subst hsp
    have h1 := hcell i (by omega)
    rw [Go.WideShapes.add_plain] at h1
    exact ⟨b, off, rfl, cell_lt h1, h1⟩

/-- An argument that is a slice of structs of two whole numbers. -/
theorem sees_pairs {t e t0 t1 : TypeId} {f0 f1 : Field} {k0 k1 : IntKind} {fuel : Nat} {A : Option Addr} {n c : Nat} {x : DataW H × List MemPlace} (ht : P.underlying t = some (.slice e)) (he : P.underlying e = some (.struct #[f0, f1]))
    (hc : P.cellsOf e = 2) (e0 : f0.type = t0) (e1 : f1.type = t1) (o0 : f0.offset = 0) (o1 : f1.offset = 1) (h0 : P.underlying t0 = some (.int k0)) (h1 : P.underlying t1 = some (.int k1)) (c0 : P.cellsOf t0 = 1) (c1 : P.cellsOf t1 = 1)
    (h : DataW.trod enc P w 0 (fun _ => true) true fuel t [.slice A n c] = some x) :
    ∃ f g : Nat → Int, Sees2 w w.heap.size A n (fun i => .int k0 (f i)) (fun i => .int k1 (g i)) := by
  rcases Go.Deep.open_slice ht h with ⟨hcs, _⟩ | ⟨a, len, cap, m, n', D, Pl, hcs, _, hl, _, hm, _, hi⟩
  · simp only [List.cons.injEq, Value.slice.injEq, and_true] at hcs
    obtain ⟨rfl, rfl, rfl⟩ := hcs
    exact ⟨fun _ => 0, fun _ => 0, fun k hk => absurd hk (by omega)⟩
  · simp only [List.cons.injEq, Value.slice.injEq, and_true] at hcs
    obtain ⟨rfl, rfl, rfl⟩ := hcs
    simp only [if_true] at hm
    have hel : ∀ i, i < n → ∃ x y : Int, w.cell? (a.add (i * 2)) = some (.int k0 x) ∧ w.cell? (a.add (i * 2 + 1)) = some (.int k1 y) := by
      intro i hin
      obtain ⟨cs', hcells, htr⟩ := hi i (by omega)
      rw [hc] at hcells
      obtain ⟨_, hlen, hat⟩ := World.cells?_some hcells
      obtain ⟨y0, y1, q, _, _, hy0, hy1⟩ := trod_struct2 he htr
      match cs', hlen with
      | [u0, u1], _ =>
        rw [e0, c0, o0] at hy0
        rw [e1, c1, o1] at hy1
        obtain ⟨z0, hz0, _, _⟩ := DataW.trod_int h0 (x := y0) (by simpa using hy0)
        obtain ⟨z1, hz1, _, _⟩ := DataW.trod_int h1 (x := y1) (by simpa using hy1)
        simp only [List.cons.injEq, and_true] at hz0 hz1
        refine ⟨z0, z1, ?_, ?_⟩
        · have := hat 0 (by omega)
          rw [Go.Deep.add_add] at this
          simpa [hz0] using this
        · have := hat 1 (by omega)
          rw [Go.Deep.add_add] at this
          simpa [hz1] using this
    obtain ⟨b, off, spot⟩ := a
    rcases Nat.eq_zero_or_pos n with hn0 | hn0
    · exact ⟨fun _ => 0, fun _ => 0, fun k hk => absurd hk (by omega)⟩
    have hsp : spot = none := by
      obtain ⟨x, _, hx, _⟩ := hel 0 hn0
      exact World.cell?_spot (w := w) (a := ⟨b, off, spot⟩) hx
    subst hsp
    have hel' : ∀ i, ∃ p : Int × Int, i < n → w.cell? ⟨b, off + i * 2, none⟩ = some (.int k0 p.1) ∧ w.cell? ⟨b, off + i * 2 + 1, none⟩ = some (.int k1 p.2) := by
      intro i
      by_cases hin : i < n
      · obtain ⟨x, y, h1, h2⟩ := hel i hin
        rw [Go.WideShapes.add_plain] at h1 h2
        exact ⟨(x, y), fun _ => ⟨h1, h2⟩⟩
      · exact ⟨(0, 0), fun h => absurd h hin⟩
    exact ⟨fun i => (hel' i).choose.1, fun i => (hel' i).choose.2, fun i hin => ⟨b, off, rfl, cell_lt ((hel' i).choose_spec hin).1, ((hel' i).choose_spec hin).1, ((hel' i).choose_spec hin).2⟩⟩

/-- An argument that is a slice of structs of three whole numbers. -/
theorem sees_triples {t e t0 t1 t2 : TypeId} {f0 f1 f2 : Field} {k0 k1 k2 : IntKind} {fuel : Nat} {A : Option Addr} {n c : Nat} {x : DataW H × List MemPlace} (ht : P.underlying t = some (.slice e)) (he : P.underlying e = some (.struct #[f0, f1, f2]))
    (hc : P.cellsOf e = 3) (e0 : f0.type = t0) (e1 : f1.type = t1) (e2 : f2.type = t2) (o0 : f0.offset = 0) (o1 : f1.offset = 1) (o2 : f2.offset = 2) (h0 : P.underlying t0 = some (.int k0)) (h1 : P.underlying t1 = some (.int k1)) (h2 : P.underlying t2 = some (.int k2))
    (c0 : P.cellsOf t0 = 1) (c1 : P.cellsOf t1 = 1) (c2 : P.cellsOf t2 = 1)
    (h : DataW.trod enc P w 0 (fun _ => true) true fuel t [.slice A n c] = some x) :
    ∃ f g j : Nat → Int, Sees3 w w.heap.size A n (fun i => .int k0 (f i)) (fun i => .int k1 (g i)) (fun i => .int k2 (j i)) := by
  rcases Go.Deep.open_slice ht h with ⟨hcs, _⟩ | ⟨a, len, cap, m, n', D, Pl, hcs, _, hl, _, hm, _, hi⟩
  · simp only [List.cons.injEq, Value.slice.injEq, and_true] at hcs
    obtain ⟨rfl, rfl, rfl⟩ := hcs
    exact ⟨fun _ => 0, fun _ => 0, fun _ => 0, fun k hk => absurd hk (by omega)⟩
  · simp only [List.cons.injEq, Value.slice.injEq, and_true] at hcs
    obtain ⟨rfl, rfl, rfl⟩ := hcs
    simp only [if_true] at hm
    have hel : ∀ i, i < n → ∃ p : Int × Int × Int, w.cell? (a.add (i * 3)) = some (.int k0 p.1) ∧ w.cell? (a.add (i * 3 + 1)) = some (.int k1 p.2.1) ∧ w.cell? (a.add (i * 3 + 2)) = some (.int k2 p.2.2) := by
      intro i hin
      obtain ⟨cs', hcells, htr⟩ := hi i (by omega)
      rw [hc] at hcells
      obtain ⟨_, hlen, hat⟩ := World.cells?_some hcells
      obtain ⟨y0, y1, y2, q, _, _, hy0, hy1, hy2⟩ := Go.Deep.trod_struct3 he htr
      match cs', hlen with
      | [u0, u1, u2], _ =>
        rw [e0, c0, o0] at hy0
        rw [e1, c1, o1] at hy1
        rw [e2, c2, o2] at hy2
        obtain ⟨z0, hz0, _, _⟩ := DataW.trod_int h0 (x := y0) (by simpa using hy0)
        obtain ⟨z1, hz1, _, _⟩ := DataW.trod_int h1 (x := y1) (by simpa using hy1)
        obtain ⟨z2, hz2, _, _⟩ := DataW.trod_int h2 (x := y2) (by simpa using hy2)
        simp only [List.cons.injEq, and_true] at hz0 hz1 hz2
        refine ⟨(z0, z1, z2), ?_, ?_, ?_⟩
        · have := hat 0 (by omega)
          rw [Go.Deep.add_add] at this
          simpa [hz0] using this
        · have := hat 1 (by omega)
          rw [Go.Deep.add_add] at this
          simpa [hz1] using this
        · have := hat 2 (by omega)
          rw [Go.Deep.add_add] at this
          simpa [hz2] using this
    obtain ⟨b, off, spot⟩ := a
    rcases Nat.eq_zero_or_pos n with hn0 | hn0
    · exact ⟨fun _ => 0, fun _ => 0, fun _ => 0, fun k hk => absurd hk (by omega)⟩
    have hsp : spot = none := by
      obtain ⟨x, hx, _⟩ := hel 0 hn0
      exact World.cell?_spot (w := w) (a := ⟨b, off, spot⟩) hx
    subst hsp
    have hel' : ∀ i, ∃ p : Int × Int × Int, i < n → w.cell? ⟨b, off + i * 3, none⟩ = some (.int k0 p.1) ∧ w.cell? ⟨b, off + i * 3 + 1, none⟩ = some (.int k1 p.2.1) ∧ w.cell? ⟨b, off + i * 3 + 2, none⟩ = some (.int k2 p.2.2) := by
      intro i
      by_cases hin : i < n
      · obtain ⟨p, h1, h2, h3⟩ := hel i hin
        rw [Go.WideShapes.add_plain] at h1 h2 h3
        exact ⟨p, fun _ => ⟨h1, h2, h3⟩⟩
      · exact ⟨(0, 0, 0), fun h => absurd h hin⟩
    exact ⟨fun i => (hel' i).choose.1, fun i => (hel' i).choose.2.1, fun i => (hel' i).choose.2.2, fun i hin => ⟨b, off, rfl, cell_lt ((hel' i).choose_spec hin).1, ((hel' i).choose_spec hin).1, ((hel' i).choose_spec hin).2.1, ((hel' i).choose_spec hin).2.2⟩⟩

/-- Arguments read behind the call as before it where old memory is as it was. -/
theorem trodAll_below (hl : laidOutB P = true) {W W' : World} (hb : Below W.heap.size W W') : ∀ (ts : List TypeId) (vs : List Value) (ds : List (DataW H)) (ps : List MemPlace),
    (∀ t ∈ ts, P.readableRec t = true ∧ t < P.types.size) → DataW.TrodAll enc P W 0 (fun _ => true) true ts vs ds ps → (∀ x ∈ ps, x.block < W.heap.size) →
    DataW.TrodAll enc P W' 0 (fun b => decide (b < W.heap.size)) true ts vs ds ps
  | [], [], [], _, _, h, _ => h
  | t :: ts, v :: vs, d :: ds, ps, ht, h, hlt => by
    obtain ⟨p, q, h1, h2, rfl⟩ := h
    have hx := ht t (by simp)
    exact ⟨p, q, Below.trod hl hx.1 hx.2 h1 hb (fun x hx => hlt x (by simp [hx])), trodAll_below hl hb ts vs ds q (fun t ht' => ht t (by simp [ht'])) h2 (fun x hx => hlt x (by simp [hx])), rfl⟩
  | [], [], _ :: _, _, _, h, _ => h.elim
  | [], _ :: _, _, _, _, h, _ => h.elim
  | _ :: _, [], _, _, _, h, _ => h.elim
  | _ :: _, _ :: _, [], _, _, h, _ => h.elim

/-- The statement's post, for a law that answers true and leaves old memory alone. -/
theorem law_post {f : Func} {s : ChangeSpec} (hl : laidOutB P = true) (hread : ∀ t ∈ f.params.toList, P.readableRec t = true ∧ t < P.types.size) (hvars : s.vars = []) (tb : TypeId) (hres : f.resultTypes = #[tb]) (hbool : P.underlying tb = some .bool)
    {W W' : World} {args : Array Value} {ds gs : List (DataW H)} {before : List MemPlace} (hW : DataW.Whole enc P f.params.toList s.vars false W args.toList ds gs before)
    (hfn : (s.fn H (ds ++ gs)).results = [.lit (.bool true)] ∧ (s.fn H (ds ++ gs)).args = ds ∧ (s.fn H (ds ++ gs)).vars = []) (hb : Below W.heap.size W W') : s.post enc P f false true false false W args (.bool true) W' := by
  have hW' := hW
  obtain ⟨p, q, hA, hV, rfl, hfz, hnd⟩ := hW
  rw [hvars] at hV
  obtain ⟨rfl, rfl⟩ := trodVars_none hV
  rw [List.append_nil] at hW'
  have hlt : ∀ x ∈ p, x.block < W.heap.size := fun x hx => by simpa using hW'.lt x hx
  refine ⟨ds, [], p, [], p, [], hW', ?_, ?_, ?_, hb.frame _, fun h => by cases h⟩
  · rw [hfn.1, hres]
    exact trodAll_mk1 (shut_bool hbool true)
  · rw [hfn.2.1]
    exact trodAll_below hl hb _ _ _ _ hread hA hlt
  · rw [hfn.2.2, hvars]
    rfl

/-- An array of three whole numbers, by value. -/
theorem open_ints3 {r : Reach} {b0 : Nat} {t e : TypeId} {k : IntKind} {base : Nat} {sp : Nat → Bool} {held : Bool} {v : Value} {d : DataW H} {ps : List MemPlace} (ht : P.underlying t = some (.array 3 e)) (he : P.underlying e = some (.int k)) (hc : P.cellsOf e = 1) (hC : P.cellsOf t = 3)
    (hv : Value.okWide P w r b0 t v) (h : DataW.Trod enc P w base sp held t v d ps) :
    ∃ a b c : Int, v = .agg #[.int k a, .int k b, .int k c] ∧ (Lit.int k a).wf = true ∧ (Lit.int k b).wf = true ∧ (Lit.int k c).wf = true := by
  simp only [Value.okWide, ht] at hv
  obtain ⟨cs, rfl, hsz, _⟩ := hv
  obtain ⟨fuel, hf⟩ := h
  obtain ⟨xs, m, _, _, _, hlen, hel⟩ := DataW.trod_array ht hf
  obtain ⟨l⟩ := cs
  match l, hsz.trans hC with
  | [c0, c1, c2], _ =>
    match xs, hlen with
    | [y0, y1, y2], _ =>
      have h0 := hel 0 (by omega)
      have h1 := hel 1 (by omega)
      have h2 := hel 2 (by omega)
      rw [hc] at h0 h1 h2
      obtain ⟨z0, e0, _, w0⟩ := DataW.trod_int he (by simpa [Value.cells] using h0)
      obtain ⟨z1, e1, _, w1⟩ := DataW.trod_int he (by simpa [Value.cells] using h1)
      obtain ⟨z2, e2, _, w2⟩ := DataW.trod_int he (by simpa [Value.cells] using h2)
      simp only [List.cons.injEq, and_true] at e0 e1 e2
      exact ⟨z0, z1, z2, by rw [e0, e1, e2], w0, w1, w2⟩

/-- An array of two whole numbers, by value. -/
theorem open_ints2 {r : Reach} {b0 : Nat} {t e : TypeId} {k : IntKind} {base : Nat} {sp : Nat → Bool} {held : Bool} {v : Value} {d : DataW H} {ps : List MemPlace} (ht : P.underlying t = some (.array 2 e)) (he : P.underlying e = some (.int k)) (hc : P.cellsOf e = 1) (hC : P.cellsOf t = 2)
    (hv : Value.okWide P w r b0 t v) (h : DataW.Trod enc P w base sp held t v d ps) :
    ∃ a b : Int, v = .agg #[.int k a, .int k b] ∧ (Lit.int k a).wf = true ∧ (Lit.int k b).wf = true := by
  simp only [Value.okWide, ht] at hv
  obtain ⟨cs, rfl, hsz, _⟩ := hv
  obtain ⟨fuel, hf⟩ := h
  obtain ⟨xs, m, _, _, _, hlen, hel⟩ := DataW.trod_array ht hf
  obtain ⟨l⟩ := cs
  match l, hsz.trans hC with
  | [c0, c1], _ =>
    match xs, hlen with
    | [y0, y1], _ =>
      have h0 := hel 0 (by omega)
      have h1 := hel 1 (by omega)
      rw [hc] at h0 h1
      obtain ⟨z0, e0, _, w0⟩ := DataW.trod_int he (by simpa [Value.cells] using h0)
      obtain ⟨z1, e1, _, w1⟩ := DataW.trod_int he (by simpa [Value.cells] using h1)
      simp only [List.cons.injEq, and_true] at e0 e1
      exact ⟨z0, z1, by rw [e0, e1], w0, w1⟩
end
end Go.Proofs.Ytbcalbkficbppaa
