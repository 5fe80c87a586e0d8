/- What a call leaves of old memory where it may turn some blocks. -/
import Derived.Test.YtdjephmkpebnhaaDoorSend3
namespace Go.Proofs.YtdjephmkpebnhaaDoor
open Go.RowKit

/-- Only the blocks of bs, and what is new, have turned. -/
structure Kept (w w' : World) (bs : List Nat) : Prop where
  os : w'.os = w.os
  tape : w'.tape = w.tape
  output : w'.output = w.output
  size : w.heap.size ≤ w'.heap.size
  block : ∀ b, b < w.heap.size → b ∉ bs → w'.heap[b]? = w.heap[b]?

theorem Kept.refl (w : World) (bs : List Nat) : Kept w w bs := ⟨rfl, rfl, rfl, Nat.le_refl _, fun _ _ _ => rfl⟩
theorem Kept.trans {a b c : World} {bs : List Nat} (h : Kept a b bs) (k : Kept b c bs) : Kept a c bs :=
  ⟨k.os.trans h.os, k.tape.trans h.tape, k.output.trans h.output, Nat.le_trans h.size k.size, fun i hi hn => (k.block i (Nat.lt_of_lt_of_le hi h.size) hn).trans (h.block i hi hn)⟩
theorem Kept.more {a b : World} {bs cs : List Nat} (h : Kept a b bs) (hs : ∀ x ∈ bs, x ∈ cs) : Kept a b cs := ⟨h.os, h.tape, h.output, h.size, fun i hi hn => h.block i hi (fun hx => hn (hs i hx))⟩
theorem Kept.below {a b : World} {bs : List Nat} (h : Below a.heap.size a b) : Kept a b bs := ⟨h.os, h.tape, h.output, h.size, fun i hi _ => h.block i hi⟩
theorem Kept.grown {a b : World} {bs : List Nat} {g : Nat} (h : a.grownBy b (some g)) (hg : g ∈ bs) : Kept a b bs := ⟨h.os, h.tape, h.output, h.size, fun i hi hn => h.block i hi (by intro e; injection e with e; subst e; exact hn hg)⟩
/-- A block that is newer than a may turn. -/
theorem Kept.fresh {a b c : World} {bs : List Nat} {g : Nat} (h : Kept a b bs) (hg : b.grownBy c (some g)) (hn : a.heap.size ≤ g) : Kept a c bs :=
  ⟨hg.os.trans h.os, hg.tape.trans h.tape, hg.output.trans h.output, Nat.le_trans h.size hg.size, fun i hi hx => (hg.block i (Nat.lt_of_lt_of_le hi h.size) (by intro e; injection e with e; omega)).trans (h.block i hi hx)⟩
theorem Kept.drewN {a b : World} {bs : List Nat} (h : Kept a b bs) (n : Nat) : Kept a (b.drewN n) bs := ⟨h.os, h.tape, h.output, h.size, h.block⟩
theorem Kept.lit {a b : World} {bs : List Nat} {g : Nat} {t : TypeId} {cs : Array Value} (h : Kept a b bs) (hl : Lit0 a g t cs) (hg : g ∉ bs) : Lit0 b g t cs := (h.block g hl.lt hg).trans hl
theorem Kept.row {a b : World} {bs : List Nat} {g n : Nat} {t : TypeId} {f : Nat → Value} (h : Kept a b bs) (hl : Row a g t n f) (hg : g ∉ bs) : Row b g t n f := by
  obtain ⟨cs, hh, hr⟩ := hl
  have hlt : g < a.heap.size := by
    rcases Nat.lt_or_ge g a.heap.size with h' | h'
    · exact h'
    · rw [Array.getElem?_eq_none h'] at hh; cases hh
  exact ⟨cs, (h.block g hlt hg).trans hh, hr⟩
theorem Kept.cell {a b : World} {bs : List Nat} {g o : Nat} {v : Value} (h : Kept a b bs) (hc : a.cell? ⟨g, o, none⟩ = some v) (hg : g ∉ bs) : b.cell? ⟨g, o, none⟩ = some v := by
  have hl := cell_lt hc
  unfold World.cell? at hc ⊢
  rw [h.block g hl hg]
  exact hc
theorem Kept.grp {a b : World} {bs : List Nat} {g c : Nat} {own far : Int} {n : Nat} {S B C : Nat → Int} (h : Kept a b bs) (hl : Grp a g c own far n S B C) (hg : g ∉ bs) (hc : c ∉ bs) : Grp b g c own far n S B C := ⟨h.lit hl.1 hg, h.row hl.2.1 hc, hl.2.2⟩
theorem Kept.dk {a b : World} {bs : List Nat} {d g t n : Nat} {ag age last heard : Int} {op out : Value} {T : Nat → Bool} (h : Kept a b bs) (hl : Dk a d g t n ag age last heard op out T) (hd : d ∉ bs) (ht : t ∉ bs) : Dk b d g t n ag age last heard op out T := ⟨h.lit hl.1 hd, h.row hl.2.1 ht, hl.2.2⟩
theorem Kept.sees {a b : World} {bs : List Nat} {r n : Nat} {f : Nat → Value} (h : Kept a b bs) (hs : Sees a a.heap.size (some ⟨r, 0, none⟩) n f) (hr : r ∉ bs) : Sees b b.heap.size (some ⟨r, 0, none⟩) n f := fun k hk => by
  obtain ⟨x, o, e, hlt, hc⟩ := hs k hk
  injection e with e
  injection e with e1 e2
  subst e1 e2
  exact ⟨_, _, rfl, Nat.lt_of_lt_of_le hlt h.size, h.cell hc hr⟩
theorem Kept.msg {a b : World} {bs : List Nat} {r : Nat} {K Sr F : Int} {mk on : Value} (h : Kept a b bs) (hm : MsgAt a r K Sr F mk on) (hr : r ∉ bs) : MsgAt b r K Sr F mk on :=
  ⟨Nat.lt_of_lt_of_le hm.1 h.size, h.cell hm.2.1 hr, h.cell hm.2.2.1 hr, h.cell hm.2.2.2.1 hr, h.cell hm.2.2.2.2.1 hr, h.cell hm.2.2.2.2.2 hr⟩
/-- Where all that may turn is new, old memory is as it was. -/
theorem Kept.to_below {w a b : World} {bs : List Nat} (h : Kept a b bs) (hb : Below w.heap.size w a) (hn : ∀ x ∈ bs, w.heap.size ≤ x) : Below w.heap.size w b :=
  hb.trans ⟨h.os, h.tape, h.output, h.size, fun i hi => h.block i (Nat.lt_of_lt_of_le hi hb.size) (fun hx => by have := hn i hx; omega)⟩
end Go.Proofs.YtdjephmkpebnhaaDoor
