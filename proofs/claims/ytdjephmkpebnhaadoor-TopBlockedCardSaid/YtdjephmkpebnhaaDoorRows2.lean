/- Two rows of bools that grow side by side. -/
import Derived.Test.YtdjephmkpebnhaaDoorKeep
namespace Go.Proofs.YtdjephmkpebnhaaDoor
open Go.RowKit

/-- A row of bools of the call's own. -/
abbrev OwnB (w : World) (B0 : Nat) (v : Value) (n : Nat) (F : Nat → Bool) : Prop := w.ownsRow B0 4 1 v n (boolsOf n F)

theorem OwnB.lt {w : World} {B0 n : Nat} {v : Value} {F : Nat → Bool} (h : OwnB w B0 v n F) {x : Nat} (hx : v.ownBlock = some x) : B0 ≤ x ∧ x < w.heap.size := by
  obtain ⟨_, ⟨rfl, _⟩ | ⟨g, cp, cur, rfl, hb, hh, _⟩⟩ := h
  · simp [Value.ownBlock] at hx
  · simp [Value.ownBlock] at hx
    subst hx
    refine ⟨hb, ?_⟩
    rcases Nat.lt_or_ge g w.heap.size with h | h
    · exact h
    · rw [Array.getElem?_eq_none h] at hh; cases hh
theorem own_far {w w' : World} {base : Nat} {e : TypeId} {s n : Nat} {v : Value} {xs : List Value} {row : Option Nat} (h : w.ownsRow base e s v n xs) (hb : w.grownBy w' row) (hne : ∀ x, v.ownBlock = some x → row ≠ some x) : w'.ownsRow base e s v n xs := by
  obtain ⟨hl, hr⟩ := h
  rcases hr with h0 | ⟨g, cap, cur, rfl, hg, hh, hc, hm, hs, ht⟩
  · exact ⟨hl, .inl h0⟩
  · refine ⟨hl, .inr ⟨g, cap, cur, rfl, hg, ?_, hc, hm, hs, ht⟩⟩
    have hlt : g < w.heap.size := by
      rcases Nat.lt_or_ge g w.heap.size with h | h
      · exact h
      · rw [Array.getElem?_eq_none h] at hh; cases hh
    rw [hb.block g hlt (fun e => hne g rfl e.symm), hh]
theorem OwnB.alloc {w : World} {B0 n : Nat} {v : Value} {F : Nat → Bool} (h : OwnB w B0 v n F) (o : Obj) : OwnB (w.alloc o) B0 v n F := own_below h ((Below.refl _ w).alloc (Nat.le_refl _) o)
theorem OwnB.drew {w : World} {B0 n : Nat} {v : Value} {F : Nat → Bool} (h : OwnB w B0 v n F) : OwnB w.drew B0 v n F := h
theorem OwnB.kept {w w' : World} {B0 n : Nat} {v : Value} {F : Nat → Bool} (h : OwnB w B0 v n F) (hb : Below w.heap.size w w') : OwnB w' B0 v n F := own_below h hb
theorem OwnB.set {w : World} {B0 n b j : Nat} {v : Value} {F : Nat → Bool} (h : OwnB w B0 v n F) (hb : b < B0) (u : Value) : OwnB (w.setCell ⟨b, j, none⟩ u) B0 v n F :=
  own_far h (grown_one w b j u) (fun x hx => by have := h.lt hx; simp; omega)
theorem OwnB.nil (w : World) (B0 : Nat) (F : Nat → Bool) : OwnB w B0 (.slice none 0 0) 0 F := World.ownsRow_nil _ _ _ _
theorem boolsOf_succ (n : Nat) (F : Nat → Bool) : boolsOf (n + 1) F = boolsOf n F ++ [.bool (F n)] := by
  unfold boolsOf
  rw [List.range_succ, List.map_append]
  rfl
theorem boolsOf_congr {n : Nat} {F G : Nat → Bool} (h : ∀ i, i < n → F i = G i) : boolsOf n F = boolsOf n G := by
  unfold boolsOf
  apply List.map_congr_left
  intro i hi
  rw [h i (by simpa using hi)]

/-- The one cell of a slice of one. -/
theorem one_new {w : World} {b : Nat} {v : Value} (h : w.cell? ⟨b, 0, none⟩ = some v) : ∀ j u, [v][j]? = some u → w.cell? ((⟨b, 0, none⟩ : Addr).add j) = some u := fun j u hu => by
  match j, hu with
  | 0, hu =>
    simp at hu
    subst hu
    exact h

/-- What may turn: the box and what lies from B0 on. -/
structure Up (w w' : World) (B0 mb : Nat) : Prop where
  os : w'.os = w.os
  tape : w'.tape = w.tape
  output : w'.output = w.output
  size : w.heap.size ≤ w'.heap.size
  block : ∀ b, b < B0 → b ≠ mb → w'.heap[b]? = w.heap[b]?

theorem Up.refl (w : World) (B0 mb : Nat) : Up w w B0 mb := ⟨rfl, rfl, rfl, Nat.le_refl _, fun _ _ _ => rfl⟩
theorem Up.trans {a b c : World} {B0 mb : Nat} (h : Up a b B0 mb) (k : Up b c B0 mb) : Up a c B0 mb :=
  ⟨k.os.trans h.os, k.tape.trans h.tape, k.output.trans h.output, Nat.le_trans h.size k.size, fun i hi hn => (k.block i hi hn).trans (h.block i hi hn)⟩
theorem Up.alloc {a b : World} {B0 mb : Nat} (h : Up a b B0 mb) (hB : B0 ≤ b.heap.size) (o : Obj) : Up a (b.alloc o) B0 mb :=
  ⟨h.os, h.tape, h.output, by have := h.size; simp; omega, fun i hi hn => (Below.heap_alloc b o i (by omega)).trans (h.block i hi hn)⟩
theorem Up.drew {a b : World} {B0 mb : Nat} (h : Up a b B0 mb) : Up a b.drew B0 mb := ⟨h.os, h.tape, h.output, h.size, h.block⟩
theorem Up.grown {a b c : World} {B0 mb : Nat} {row : Option Nat} (h : Up a b B0 mb) (hB : B0 ≤ b.heap.size) (hg : b.grownBy c row) (hr : ∀ x, row = some x → B0 ≤ x) : Up a c B0 mb :=
  ⟨hg.os.trans h.os, hg.tape.trans h.tape, hg.output.trans h.output, Nat.le_trans h.size hg.size, fun i hi hn => (hg.block i (by omega) (fun e => by have := hr i e.symm; omega)).trans (h.block i hi hn)⟩
theorem Up.set {a b : World} {B0 mb j : Nat} (h : Up a b B0 mb) (u : Value) : Up a (b.setCell ⟨mb, j, none⟩ u) B0 mb :=
  ⟨h.os, h.tape, h.output, by simpa [World.setCell] using h.size, fun i hi hn => (Below.heap_setCell b ⟨mb, j, none⟩ u i hn).trans (h.block i hi hn)⟩
theorem Up.lit {a b : World} {B0 mb g : Nat} {t : TypeId} {cs : Array Value} (h : Up a b B0 mb) (hl : Lit0 a g t cs) (hg : g < B0) (hn : g ≠ mb) : Lit0 b g t cs := (h.block g hg hn).trans hl
theorem Up.row {a b : World} {B0 mb g n : Nat} {t : TypeId} {f : Nat → Value} (h : Up a b B0 mb) (hl : Row a g t n f) (hg : g < B0) (hn : g ≠ mb) : Row b g t n f := by
  obtain ⟨cs, hh, hr⟩ := hl
  exact ⟨cs, (h.block g hg hn).trans hh, hr⟩
theorem Up.dk {a b : World} {B0 mb : Nat} {d g t n : Nat} {ag age last heard : Int} {op out : Value} {T : Nat → Bool} (h : Up a b B0 mb) (hl : Dk a d g t n ag age last heard op out T) (hd : d < B0) (ht : t < B0) (hdm : d ≠ mb) (htm : t ≠ mb) : Dk b d g t n ag age last heard op out T := ⟨h.lit hl.1 hd hdm, h.row hl.2.1 ht htm, hl.2.2⟩
/-- .. as a frame of the call's own start. -/
theorem Kept.up {w a b : World} {bs : List Nat} {B0 mb : Nat} (h : Kept w a bs) (hu : Up a b B0 mb) (hB : w.heap.size ≤ B0) (hm : w.heap.size ≤ mb) : Kept w b bs :=
  ⟨hu.os.trans h.os, hu.tape.trans h.tape, hu.output.trans h.output, Nat.le_trans h.size hu.size, fun i hi hn => (hu.block i (by omega) (by omega)).trans (h.block i hi hn)⟩
end Go.Proofs.YtdjephmkpebnhaaDoor
