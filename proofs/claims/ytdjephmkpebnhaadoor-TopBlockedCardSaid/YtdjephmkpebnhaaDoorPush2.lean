/- Two rows of bools grow by one each: what the orders share. -/
import Derived.Test.YtdjephmkpebnhaaDoorRows2
namespace Go.Proofs.YtdjephmkpebnhaaDoor
open Go.RowKit

/-- Two rows share no block. -/
def Apart (mv ov : Value) : Prop := ∀ x, mv.ownBlock = some x → ov.ownBlock ≠ some x

theorem OwnB.form {w : World} {B0 n : Nat} {v : Value} {F : Nat → Bool} (h : OwnB w B0 v n F) : ∃ A cp, v = .slice A n cp := by
  obtain ⟨_, ⟨rfl, rfl⟩ | ⟨g, cp, cur, rfl, _⟩⟩ := h
  · exact ⟨_, _, rfl⟩
  · exact ⟨_, _, rfl⟩

theorem cell_new (w : World) (v : Value) (t : TypeId) : (w.alloc (.cells #[v] t)).cell? ⟨w.heap.size, 0, none⟩ = some v := by
  rw [World.cell?_alloc_at _ _ _ _ rfl]; rfl
theorem cell_new1 (w : World) (v : Value) (t : TypeId) (o : Obj) : ((w.alloc (.cells #[v] t)).alloc o).cell? ⟨w.heap.size, 0, none⟩ = some v := cell_alloc (cell_new w v t) o
theorem cell_new2 (w : World) (v : Value) (t : TypeId) (o : Obj) : ((w.alloc o).alloc (.cells #[v] t)).cell? ⟨w.heap.size + 1, 0, none⟩ = some v := by
  have := cell_new (w.alloc o) v t
  rw [World.size_alloc] at this
  exact this

theorem y_kept1 {wA w2 : World} {B0 j : Nat} {v : Value} {M : Nat → Bool} (hm : OwnB wA B0 v j M) (y : Value) (o : Obj) (h : ((wA.alloc o).alloc (.cells #[y] 4)).drew.grownBy w2 v.ownBlock) : w2.cell? ⟨wA.heap.size + 1, 0, none⟩ = some y := by
  refine (World.grownBy.cell_far h ⟨wA.heap.size + 1, 0, none⟩ ?_ (fun e => ?_)).trans (cell_new2 wA y 4 o)
  · show wA.heap.size + 1 < ((wA.alloc o).alloc (.cells #[y] 4)).heap.size
    simp
  · have h2 : wA.heap.size + 1 < wA.heap.size := (hm.lt e.symm).2
    omega
theorem y_kept0 {wA w2 : World} {B0 j : Nat} {v : Value} {M : Nat → Bool} (hm : OwnB wA B0 v j M) (y : Value) (o : Obj) (h : ((wA.alloc (.cells #[y] 4)).alloc o).drew.grownBy w2 v.ownBlock) : w2.cell? ⟨wA.heap.size, 0, none⟩ = some y := by
  refine (World.grownBy.cell_far h ⟨wA.heap.size, 0, none⟩ ?_ (fun e => ?_)).trans (cell_new1 wA y 4 o)
  · show wA.heap.size < ((wA.alloc (.cells #[y] 4)).alloc o).heap.size
    simp only [World.size_alloc]
    omega
  · have h2 : wA.heap.size < wA.heap.size := (hm.lt e.symm).2
    omega

/-- The state that both rows and the message's box have at a world. -/
structure Duo (w0 w : World) (B0 mb j : Nat) (cs : Array Value) (mv ov : Value) (M O : Nat → Bool) : Prop where
  up : Up w0 w B0 mb
  box : Lit0 w mb 42 cs
  m : OwnB w B0 mv j M
  o : OwnB w B0 ov j O

theorem Duo.alloc {w0 w : World} {B0 mb j : Nat} {cs : Array Value} {mv ov : Value} {M O : Nat → Bool} (h : Duo w0 w B0 mb j cs mv ov M O) (hB : B0 ≤ w0.heap.size) (o : Obj) : Duo w0 (w.alloc o) B0 mb j cs mv ov M O :=
  ⟨h.up.alloc (by have := h.up.size; omega) o, h.box.alloc o, h.m.alloc o, h.o.alloc o⟩
theorem Duo.drew {w0 w : World} {B0 mb j : Nat} {cs : Array Value} {mv ov : Value} {M O : Nat → Bool} (h : Duo w0 w B0 mb j cs mv ov M O) : Duo w0 w.drew B0 mb j cs mv ov M O := ⟨h.up.drew, h.box.drew, h.m.drew, h.o.drew⟩

/-- Behind the first row's push. -/
structure Half (w0 w : World) (B0 mb j g : Nat) (cs : Array Value) (mv' ov : Value) (xs : List Value) (O : Nat → Bool) : Prop where
  up : Up w0 w B0 mb
  box : Lit0 w mb 42 cs
  m : w.ownsRow B0 4 1 mv' (j + 1) xs
  o : OwnB w B0 ov j O
  far : ∀ x, ov.ownBlock = some x → x ≠ g
  lt : g < w.heap.size
  ge : B0 ≤ g

theorem Duo.push {w0 w w2 : World} {B0 mb j g cap : Nat} {cs : Array Value} {mv ov : Value} {M O : Nat → Bool} {xs : List Value} (h : Duo w0 w B0 mb j cs mv ov M O) (hB : B0 ≤ w0.heap.size) (hmb : mb < B0) (hap : Apart mv ov)
    (hown : w2.ownsRow B0 4 1 (.slice (some ⟨g, 0, none⟩) (j + 1) cap) (j + 1) xs) (hg : w.grownBy w2 mv.ownBlock) (hat : mv.ownBlock = some g ∨ g = w.heap.size) (hlt : g < w2.heap.size) : Half w0 w2 B0 mb j g cs (.slice (some ⟨g, 0, none⟩) (j + 1) cap) ov xs O := by
  have hs := h.up.size
  refine ⟨h.up.grown (by omega) hg (fun x hx => (h.m.lt hx).1), h.box.grown hg (fun e => ?_), hown, own_far h.o hg (fun x hx e => hap x e hx), fun x hx e => ?_, hlt, ?_⟩
  · have := (h.m.lt e.symm).1; omega
  · subst e
    rcases hat with h1 | h1
    · exact hap _ h1 hx
    · have := (h.o.lt hx).2; omega
  · obtain ⟨_, h0 | ⟨g', cp, cur, hv, hb, _⟩⟩ := hown
    · exact absurd h0.2 (by omega)
    · injection hv with h1
      injection h1 with h1
      injection h1 with h1
      omega
theorem Half.alloc {w0 w : World} {B0 mb j g : Nat} {cs : Array Value} {mv' ov : Value} {xs : List Value} {O : Nat → Bool} (h : Half w0 w B0 mb j g cs mv' ov xs O) (hB : B0 ≤ w0.heap.size) (o : Obj) : Half w0 (w.alloc o) B0 mb j g cs mv' ov xs O :=
  ⟨h.up.alloc (by have := h.up.size; omega) o, h.box.alloc o, own_below h.m ((Below.refl _ w).alloc (Nat.le_refl _) o), h.o.alloc o, h.far, by have := h.lt; simp; omega, h.ge⟩

/-- Behind both. -/
structure Both (w0 w : World) (B0 mb j : Nat) (cs : Array Value) (mv' ov' : Value) (xs ys : List Value) : Prop where
  up : Up w0 w B0 mb
  box : Lit0 w mb 42 cs
  m : w.ownsRow B0 4 1 mv' (j + 1) xs
  o : w.ownsRow B0 4 1 ov' (j + 1) ys
  apart : Apart mv' ov'

theorem Half.push {w0 w w2 : World} {B0 mb j g g4 cap cap4 : Nat} {cs : Array Value} {ov : Value} {O : Nat → Bool} {xs ys : List Value} (h : Half w0 w B0 mb j g cs (.slice (some ⟨g, 0, none⟩) (j + 1) cap) ov xs O) (hB : B0 ≤ w0.heap.size) (hmb : mb < B0)
    (hown : w2.ownsRow B0 4 1 (.slice (some ⟨g4, 0, none⟩) (j + 1) cap4) (j + 1) ys) (hg : w.grownBy w2 ov.ownBlock) (hat : ov.ownBlock = some g4 ∨ g4 = w.heap.size) : Both w0 w2 B0 mb j cs (.slice (some ⟨g, 0, none⟩) (j + 1) cap) (.slice (some ⟨g4, 0, none⟩) (j + 1) cap4) xs ys := by
  have hs := h.up.size
  refine ⟨h.up.grown (by omega) hg (fun x hx => (h.o.lt hx).1), h.box.grown hg (fun e => ?_), own_far h.m hg (fun x hx e => ?_), hown, fun x hx e => ?_⟩
  · have := (h.o.lt e.symm).1; omega
  · simp [Value.ownBlock] at hx
    subst hx
    exact h.far g e rfl
  · simp [Value.ownBlock] at hx e
    subst hx
    rcases hat with h1 | h1
    · exact h.far g4 h1 e
    · have := h.lt; omega
end Go.Proofs.YtdjephmkpebnhaaDoor
