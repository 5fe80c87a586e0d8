/- Small words about memory for the walks of this seat: a slice that reads as a function of the index, a slice made by the call, what a call leaves of old memory. -/
import Derived.Test.YtdjephmkpebnhaaDoorProg
import Derived.WalkKit
import Derived.WalkSpells
import Derived.WalkLawsBesides
import Derived.BigQuiet
import Derived.Deep.QuietTactic
import Derived.Deep.RegionHeld3
import Derived.Deep.DeepCutAuto
import Derived.Deep.LoopGhost
import Derived.Deep.Draws
import Derived.KernelRfl
import Derived.Lib.Hide
import Derived.Laws.EntriesVeiled
import Derived.StillTailTactics
namespace Go.Proofs.YtdjephmkpebnhaaDoor
open Go.RowKit

/-- The first n cells behind A read as f, in blocks below B. -/
def Sees (w : World) (B : Nat) (A : Option Addr) (n : Nat) (f : Nat → Value) : Prop :=
  ∀ k, k < n → ∃ b off, A = some ⟨b, off, none⟩ ∧ b < B ∧ w.cell? ⟨b, off + k, none⟩ = some (f k)

theorem Sees.cell {w : World} {B : Nat} {b off n : Nat} {f : Nat → Value} (h : Sees w B (some ⟨b, off, none⟩) n f) {k : Nat} (hk : k < n) : w.cell? ⟨b, off + k, none⟩ = some (f k) := by
  obtain ⟨b', off', e, _, hc⟩ := h k hk
  injection e with e
  injection e with e1 e2
  subst e1 e2
  exact hc

theorem Sees.block {w : World} {B : Nat} {b off n : Nat} {f : Nat → Value} (h : Sees w B (some ⟨b, off, none⟩) n f) (hn : 0 < n) : b < B := by
  obtain ⟨b', off', e, hb, _⟩ := h 0 hn
  injection e with e
  injection e with e1 e2
  omega

theorem Sees.form {w : World} {B n : Nat} {A : Option Addr} {f : Nat → Value} (h : Sees w B A n f) (hn : 0 < n) : ∃ b off, A = some ⟨b, off, none⟩ := by
  obtain ⟨b, off, e, _⟩ := h 0 hn
  exact ⟨b, off, e⟩

theorem Sees.below {w w' : World} {B n : Nat} {A : Option Addr} {f : Nat → Value} (h : Sees w B A n f) (hb : Below B w w') : Sees w' B A n f := fun k hk => by
  obtain ⟨b, off, e, hlt, hc⟩ := h k hk
  exact ⟨b, off, e, hlt, (hb.cell (p := ⟨b, off + k, none⟩) hlt).trans hc⟩

theorem Sees.more {w : World} {B B' n : Nat} {A : Option Addr} {f : Nat → Value} (h : Sees w B A n f) (hB : B ≤ B') : Sees w B' A n f := fun k hk => by
  obtain ⟨b, off, e, hlt, hc⟩ := h k hk
  exact ⟨b, off, e, by omega, hc⟩

theorem Sees.congr {w : World} {B n : Nat} {A : Option Addr} {f g : Nat → Value} (h : Sees w B A n f) (hfg : ∀ k, k < n → f k = g k) : Sees w B A n g := fun k hk => by
  obtain ⟨b, off, e, hlt, hc⟩ := h k hk
  exact ⟨b, off, e, hlt, by rw [hc, hfg k hk]⟩

theorem Sees.less {w : World} {B n m : Nat} {A : Option Addr} {f : Nat → Value} (h : Sees w B A n f) (hm : m ≤ n) : Sees w B A m f := fun k hk => h k (by omega)

theorem Sees.none_ {w : World} {B : Nat} {A : Option Addr} {f : Nat → Value} : Sees w B A 0 f := fun k hk => absurd hk (by omega)

/-- The first n elements of two cells each read as f and g. -/
def Sees2 (w : World) (B : Nat) (A : Option Addr) (n : Nat) (f g : Nat → Value) : Prop :=
  ∀ k, k < n → ∃ b off, A = some ⟨b, off, none⟩ ∧ b < B ∧ w.cell? ⟨b, off + k * 2, none⟩ = some (f k) ∧ w.cell? ⟨b, off + k * 2 + 1, none⟩ = some (g k)

theorem Sees2.below {w w' : World} {B n : Nat} {A : Option Addr} {f g : Nat → Value} (h : Sees2 w B A n f g) (hb : Below B w w') : Sees2 w' B A n f g := fun k hk => by
  obtain ⟨b, off, e, hlt, hc, hd⟩ := h k hk
  exact ⟨b, off, e, hlt, (hb.cell (p := ⟨b, off + k * 2, none⟩) hlt).trans hc, (hb.cell (p := ⟨b, off + k * 2 + 1, none⟩) hlt).trans hd⟩

theorem Sees2.more {w : World} {B B' n : Nat} {A : Option Addr} {f g : Nat → Value} (h : Sees2 w B A n f g) (hB : B ≤ B') : Sees2 w B' A n f g := fun k hk => by
  obtain ⟨b, off, e, hlt, hc⟩ := h k hk
  exact ⟨b, off, e, by omega, hc⟩

/-- The first n elements of three cells each read as f, g and h. -/
def Sees3 (w : World) (B : Nat) (A : Option Addr) (n : Nat) (f g h : Nat → Value) : Prop :=
  ∀ k, k < n → ∃ b off, A = some ⟨b, off, none⟩ ∧ b < B ∧ w.cell? ⟨b, off + k * 3, none⟩ = some (f k) ∧ w.cell? ⟨b, off + k * 3 + 1, none⟩ = some (g k) ∧ w.cell? ⟨b, off + k * 3 + 2, none⟩ = some (h k)

theorem Sees3.below {w w' : World} {B n : Nat} {A : Option Addr} {f g j : Nat → Value} (h : Sees3 w B A n f g j) (hb : Below B w w') : Sees3 w' B A n f g j := fun k hk => by
  obtain ⟨b, off, e, hlt, hc, hd, he⟩ := h k hk
  exact ⟨b, off, e, hlt, (hb.cell (p := ⟨b, off + k * 3, none⟩) hlt).trans hc, (hb.cell (p := ⟨b, off + k * 3 + 1, none⟩) hlt).trans hd, (hb.cell (p := ⟨b, off + k * 3 + 2, none⟩) hlt).trans he⟩

theorem Sees3.more {w : World} {B B' n : Nat} {A : Option Addr} {f g j : Nat → Value} (h : Sees3 w B A n f g j) (hB : B ≤ B') : Sees3 w B' A n f g j := fun k hk => by
  obtain ⟨b, off, e, hlt, hc⟩ := h k hk
  exact ⟨b, off, e, by omega, hc⟩

theorem Below.drewN' {B : Nat} {a w : World} (h : Below B a w) (n : Nat) : Below B a (w.drewN n) := ⟨h.os, h.tape, h.output, h.size, h.block⟩

/-- What a row of the call's own reads as. -/
theorem sees_of_own {w : World} {base : Nat} {e : TypeId} {v : Value} {n : Nat} {xs : List Value} (h : w.ownsRow base e 1 v n xs) :
    ∃ A c, v = .slice A n c ∧ n ≤ c ∧ c ≤ maxLen ∧ Sees w w.heap.size A n (fun k => xs.getD k (.bool false)) := by
  obtain ⟨hl, hr⟩ := h
  rcases hr with ⟨rfl, rfl⟩ | ⟨g, cap, cur, rfl, _, hh, hc, hm, hs, ht⟩
  · exact ⟨none, 0, rfl, Nat.le_refl _, by simp [maxLen], Sees.none_⟩
  · refine ⟨some ⟨g, 0, none⟩, cap, rfl, hc, hm, fun k hk => ⟨g, 0, rfl, ?_, ?_⟩⟩
    · rcases Nat.lt_or_ge g w.heap.size with h | h
      · exact h
      · rw [Array.getElem?_eq_none h] at hh; cases hh
    · have hx : xs[k]? = cur.toList[k]? := by rw [← ht, List.getElem?_take]; simp; omega
      have hk' : k < cur.size := by omega
      simp only [World.cell?, hh, Option.isSome, Nat.zero_add]
      rw [List.getD_eq_getElem?_getD, hx]
      simp [hk']

theorem cell_lt {w : World} {a : Addr} {v : Value} (h : w.cell? a = some v) : a.block < w.heap.size := by
  rcases Nat.lt_or_ge a.block w.heap.size with h' | h'
  · exact h'
  · unfold World.cell? at h
    rw [Array.getElem?_eq_none h'] at h
    cases h

/-- A cell reads behind a new block as before. -/
theorem cell_alloc {w : World} {a : Addr} {v : Value} (h : w.cell? a = some v) (o : Obj) : (w.alloc o).cell? a = some v :=
  (((Below.refl w.heap.size w).alloc (Nat.le_refl _) o).cell (cell_lt h)).trans h

theorem own_below {w w' : World} {base : Nat} {e : TypeId} {s n : Nat} {v : Value} {xs : List Value} (h : w.ownsRow base e s v n xs) (hb : Below w.heap.size w w') : w'.ownsRow base e s v n xs := by
  obtain ⟨hl, hr⟩ := h
  rcases hr with h0 | ⟨g, cap, cur, hv, hg, hh, hc, hm, hs, ht⟩
  · exact ⟨hl, .inl h0⟩
  · refine ⟨hl, .inr ⟨g, cap, cur, hv, hg, ?_, hc, hm, hs, ht⟩⟩
    rw [hb.block g ?_, hh]
    rcases Nat.lt_or_ge g w.heap.size with h | h
    · exact h
    · rw [Array.getElem?_eq_none h] at hh; cases hh

theorem own_base {w : World} {base : Nat} {e : TypeId} {s n : Nat} {v : Value} {xs : List Value} (h : w.ownsRow base e s v n xs) : ∀ k, v.ownBlock = some k → base ≤ k := by
  intro k hk
  rcases h.2 with ⟨rfl, _⟩ | ⟨g, cap, cur, rfl, hg, _⟩
  · simp [Value.ownBlock] at hk
  · simp [Value.ownBlock] at hk; omega

/-- One element appended to a row of the call's own. -/
theorem wpList_push {P : Program} {ops : Array Oper} {rest : List Oper} {o : Oper} {a : Act} {Q : Exit → Act → World → Prop} (w : World) (hgd : o.guard = none) (s x : Operand) (t : TypeId)
    (ho : o.op = .call { callee := .builtin .append, args := #[s, x], argTypes := #[t, t] })
    (base : Nat) (e : TypeId) (i : TypeInfo) (z : Value) (bytes : Nat) (ht : P.underlying t = some (.slice e)) (hi : P.info? e = some i) (hz : i.zero = some z)
    (hsize : i.size = 1) (hby : i.bytes = bytes) (hzs : z.cells.size = 1) (v : Value) (n : Nat) (xs : List Value) (hs : a.eval s = v) (hown : w.ownsRow base e 1 v n xs)
    (u : Value) (h1 : u.oneCell' = true) (hx : a.eval x = .slice (some ⟨w.heap.size, 0, none⟩) 1 1) (hn : n + 1 ≤ 1048576) (hb : bytes ≤ 1024) (hbase : base ≤ w.heap.size)
    (h : ∀ v' w', w'.ownsRow base e 1 v' (n + 1) (xs ++ [u]) → Below base w w' → wpList P ops Q rest (a.put o.dst v') w') : wpList P ops Q (o :: rest) a (w.alloc (.cells #[u] e)) := by
  have hbb : (n + 1) * bytes ≤ 1048576 * 1024 := Nat.mul_le_mul hn hb
  refine wpList_append_own _ hgd s x t ho base e i z 1 bytes ht hi hz hsize hby hzs (by decide) v n xs hs (hown.alloc _) ⟨w.heap.size, 0, none⟩ 1 1 [u] hx rfl ?_ ?_ (by unfold maxLen; omega) (by omega) (by simp; omega) ?_
  · intro j u' hj
    match j, hj with
    | 0, hj =>
      simp at hj; subst hj
      rw [show (⟨w.heap.size, 0, none⟩ : Addr).add 0 = ⟨w.heap.size, 0, none⟩ from rfl, World.cell?_alloc_at _ _ _ _ rfl]; rfl
  · intro u' hu; simp at hu; subst hu; exact h1
  · intro v' w' hown' hg _
    exact h v' w' hown' (((Below.refl base w).alloc hbase _).grown hg (by simp; omega) (own_base hown))

/-- A variable of one cell, known whole. -/
def Box (w : World) (b : Nat) (t : TypeId) (v : Value) : Prop := w.heap[b]? = some (.cells #[v] t (0, 0))

theorem Box.lt {w : World} {b : Nat} {t : TypeId} {v : Value} (h : Box w b t v) : b < w.heap.size := by
  rcases Nat.lt_or_ge b w.heap.size with h' | h'
  · exact h'
  · unfold Box at h; rw [Array.getElem?_eq_none h'] at h; cases h
theorem Box.cell {w : World} {b : Nat} {t : TypeId} {v : Value} (h : Box w b t v) : w.cell? ⟨b, 0, none⟩ = some v := by
  unfold Box at h
  simp [World.cell?, h]
theorem Box.free {w : World} {b : Nat} {t : TypeId} {v : Value} (h : Box w b t v) : w.frozen? ⟨b, 0, none⟩ = false := by
  unfold Box at h
  simp [World.frozen?, h]
theorem Box.new (w : World) (t : TypeId) (v : Value) : Box (w.alloc (.cells #[v] t)) w.heap.size t v := by
  show (w.heap.push _)[w.heap.size]? = _
  simp
theorem Box.alloc {w : World} {b : Nat} {t : TypeId} {v : Value} (h : Box w b t v) (o : Obj) : Box (w.alloc o) b t v := (Below.heap_alloc w o b h.lt).trans h
theorem Box.drew {w : World} {b : Nat} {t : TypeId} {v : Value} (h : Box w b t v) : Box w.drew b t v := h
theorem Box.set {w : World} {b : Nat} {t : TypeId} {v : Value} (h : Box w b t v) (u : Value) : Box (w.setCell ⟨b, 0, none⟩ u) b t u := by
  unfold Box at h ⊢
  simp [World.setCell, Array.getElem?_modify, h]
theorem Box.far {w : World} {b : Nat} {t : TypeId} {v : Value} (h : Box w b t v) {p : Addr} (hp : b ≠ p.block) (u : Value) : Box (w.setCell p u) b t v := (Below.heap_setCell w p u b hp).trans h
theorem Box.below {w w' : World} {B b : Nat} {t : TypeId} {v : Value} (h : Box w b t v) (hb : Below B w w') (hB : b < B) : Box w' b t v := (hb.block b hB).trans h
theorem Box.kept {w w' : World} {b : Nat} {t : TypeId} {v : Value} (h : Box w b t v) (hb : Below w.heap.size w w') : Box w' b t v := h.below hb h.lt

/-- A block of n cells, known whole: cell j is f j. -/
def Row (w : World) (g : Nat) (t : TypeId) (n : Nat) (f : Nat → Value) : Prop := ∃ cs : Array Value, w.heap[g]? = some (.cells cs t (0, 0)) ∧ cs.size = n ∧ ∀ j, j < n → cs[j]? = some (f j)

theorem Row.lt {w : World} {g n : Nat} {t : TypeId} {f : Nat → Value} (h : Row w g t n f) : g < w.heap.size := by
  obtain ⟨cs, hh, _⟩ := h
  rcases Nat.lt_or_ge g w.heap.size with h' | h'
  · exact h'
  · rw [Array.getElem?_eq_none h'] at hh; cases hh
theorem Row.cell {w : World} {g n : Nat} {t : TypeId} {f : Nat → Value} (h : Row w g t n f) {j : Nat} (hj : j < n) : w.cell? ⟨g, j, none⟩ = some (f j) := by
  obtain ⟨cs, hh, hs, hc⟩ := h
  simp only [World.cell?, hh, Option.isSome]
  exact hc j hj
theorem Row.free {w : World} {g n : Nat} {t : TypeId} {f : Nat → Value} (h : Row w g t n f) (j : Nat) : w.frozen? ⟨g, j, none⟩ = false := by
  obtain ⟨cs, hh, _⟩ := h
  simp [World.frozen?, hh]
theorem Row.set {w : World} {g n : Nat} {t : TypeId} {f : Nat → Value} (h : Row w g t n f) {j : Nat} (hj : j < n) (u : Value) : Row (w.setCell ⟨g, j, none⟩ u) g t n (fun i => if i = j then u else f i) := by
  obtain ⟨cs, hh, hs, hc⟩ := h
  refine ⟨cs.setIfInBounds j u, by simp [World.setCell, Array.getElem?_modify, hh], by simpa using hs, fun i hi => ?_⟩
  rw [Array.getElem?_setIfInBounds]
  by_cases e : j = i
  · subst e; simp; omega
  · rw [if_neg e, hc i hi]; simp [show ¬ i = j from fun h => e h.symm]
theorem Row.below {w w' : World} {B g n : Nat} {t : TypeId} {f : Nat → Value} (h : Row w g t n f) (hb : Below B w w') (hg : g < B) : Row w' g t n f := by
  obtain ⟨cs, hh, hr⟩ := h
  exact ⟨cs, (hb.block g hg).trans hh, hr⟩
theorem Row.kept {w w' : World} {g n : Nat} {t : TypeId} {f : Nat → Value} (h : Row w g t n f) (hb : Below w.heap.size w w') : Row w' g t n f := h.below hb h.lt
theorem Row.alloc {w : World} {g n : Nat} {t : TypeId} {f : Nat → Value} (h : Row w g t n f) (o : Obj) : Row (w.alloc o) g t n f := h.kept ((Below.refl _ w).alloc (Nat.le_refl _) o)
theorem Row.drew {w : World} {g n : Nat} {t : TypeId} {f : Nat → Value} (h : Row w g t n f) : Row w.drew g t n f := h
theorem Row.far {w : World} {g n : Nat} {t : TypeId} {f : Nat → Value} (h : Row w g t n f) {p : Addr} (hp : g ≠ p.block) (u : Value) : Row (w.setCell p u) g t n f := by
  obtain ⟨cs, hh, hr⟩ := h
  exact ⟨cs, (Below.heap_setCell w p u g hp).trans hh, hr⟩
theorem Row.new {w : World} {t : TypeId} {n : Nat} {f : Nat → Value} (cs : Array Value) (hs : cs.size = n) (hc : ∀ j, j < n → cs[j]? = some (f j)) : Row (w.alloc (.cells cs t)) w.heap.size t n f :=
  ⟨cs, by show (w.heap.push _)[w.heap.size]? = _; simp, hs, hc⟩
theorem Row.congr {w : World} {g n : Nat} {t : TypeId} {f f' : Nat → Value} (h : Row w g t n f) (he : ∀ j, j < n → f j = f' j) : Row w g t n f' := by
  obtain ⟨cs, hh, hs, hc⟩ := h
  exact ⟨cs, hh, hs, fun j hj => by rw [hc j hj, he j hj]⟩
theorem Row.sees {w : World} {g n : Nat} {t : TypeId} {f : Nat → Value} (h : Row w g t n f) : Sees w w.heap.size (some ⟨g, 0, none⟩) n f := fun k hk => ⟨g, 0, rfl, h.lt, by rw [Nat.zero_add]; exact h.cell hk⟩

/-- A block whose cells are known. -/
def Lit0 (w : World) (g : Nat) (t : TypeId) (cs : Array Value) : Prop := w.heap[g]? = some (.cells cs t (0, 0))
theorem Lit0.lt {w : World} {g : Nat} {t : TypeId} {cs : Array Value} (h : Lit0 w g t cs) : g < w.heap.size := by
  rcases Nat.lt_or_ge g w.heap.size with h' | h'
  · exact h'
  · unfold Lit0 at h; rw [Array.getElem?_eq_none h'] at h; cases h
theorem Lit0.new (w : World) (t : TypeId) (cs : Array Value) : Lit0 (w.alloc (.cells cs t)) w.heap.size t cs := by
  show (w.heap.push _)[w.heap.size]? = _
  simp
theorem Lit0.kept {w w' : World} {g : Nat} {t : TypeId} {cs : Array Value} (h : Lit0 w g t cs) (hb : Below w.heap.size w w') : Lit0 w' g t cs := (hb.block g h.lt).trans h
theorem Lit0.alloc {w : World} {g : Nat} {t : TypeId} {cs : Array Value} (h : Lit0 w g t cs) (o : Obj) : Lit0 (w.alloc o) g t cs := h.kept ((Below.refl _ w).alloc (Nat.le_refl _) o)
theorem Lit0.cell {w : World} {g : Nat} {t : TypeId} {cs : Array Value} (h : Lit0 w g t cs) (j : Nat) : w.cell? ⟨g, j, none⟩ = cs[j]? := by
  unfold Lit0 at h
  simp [World.cell?, h]
theorem Lit0.sees {w : World} {g n : Nat} {t : TypeId} {cs : Array Value} {f : Nat → Value} (h : Lit0 w g t cs) (hc : ∀ k, k < n → cs[k]? = some (f k)) : Sees w w.heap.size (some ⟨g, 0, none⟩) n f :=
  fun k hk => ⟨g, 0, rfl, h.lt, by rw [Nat.zero_add, h.cell]; exact hc k hk⟩
theorem Lit0.sees2 {w : World} {g n : Nat} {t : TypeId} {cs : Array Value} {f f' : Nat → Value} (h : Lit0 w g t cs) (hc : ∀ k, k < n → cs[k * 2]? = some (f k) ∧ cs[k * 2 + 1]? = some (f' k)) : Sees2 w w.heap.size (some ⟨g, 0, none⟩) n f f' :=
  fun k hk => ⟨g, 0, rfl, h.lt, by rw [Nat.zero_add, h.cell]; exact (hc k hk).1, by rw [Nat.zero_add, h.cell]; exact (hc k hk).2⟩
theorem Lit0.sees3 {w : World} {g n : Nat} {t : TypeId} {cs : Array Value} {f f' f'' : Nat → Value} (h : Lit0 w g t cs) (hc : ∀ k, k < n → cs[k * 3]? = some (f k) ∧ cs[k * 3 + 1]? = some (f' k) ∧ cs[k * 3 + 2]? = some (f'' k)) : Sees3 w w.heap.size (some ⟨g, 0, none⟩) n f f' f'' :=
  fun k hk => ⟨g, 0, rfl, h.lt, by rw [Nat.zero_add, h.cell]; exact (hc k hk).1, by rw [Nat.zero_add, h.cell]; exact (hc k hk).2.1, by rw [Nat.zero_add, h.cell]; exact (hc k hk).2.2⟩

theorem Lit0.free {w : World} {g : Nat} {t : TypeId} {cs : Array Value} (h : Lit0 w g t cs) (j : Nat) : w.frozen? ⟨g, j, none⟩ = false := by
  unfold Lit0 at h
  simp [World.frozen?, h]
theorem Lit0.set {w : World} {g : Nat} {t : TypeId} {cs : Array Value} (h : Lit0 w g t cs) (j : Nat) (u : Value) : Lit0 (w.setCell ⟨g, j, none⟩ u) g t (cs.setIfInBounds j u) := by
  unfold Lit0 at h ⊢
  simp [World.setCell, Array.getElem?_modify, h]
theorem Lit0.far {w : World} {g : Nat} {t : TypeId} {cs : Array Value} (h : Lit0 w g t cs) {p : Addr} (hp : g ≠ p.block) (u : Value) : Lit0 (w.setCell p u) g t cs := (Below.heap_setCell w p u g hp).trans h
theorem Lit0.drew {w : World} {g : Nat} {t : TypeId} {cs : Array Value} (h : Lit0 w g t cs) : Lit0 w.drew g t cs := h
theorem Lit0.drewN {w : World} {g : Nat} {t : TypeId} {cs : Array Value} (h : Lit0 w g t cs) (n : Nat) : Lit0 (w.drewN n) g t cs := h
theorem Lit0.grown {w w' : World} {g : Nat} {t : TypeId} {cs : Array Value} {row : Option Nat} (h : Lit0 w g t cs) (hb : w.grownBy w' row) (hg : some g ≠ row) : Lit0 w' g t cs := (hb.block g h.lt hg).trans h

/-- Only block g may have turned. -/
theorem grown_refl (w : World) (row : Option Nat) : w.grownBy w row := ⟨rfl, rfl, rfl, Nat.le_refl _, fun _ _ _ => rfl⟩
theorem grown_trans {a b c : World} {row : Option Nat} (h : a.grownBy b row) (k : b.grownBy c row) : a.grownBy c row :=
  ⟨k.os.trans h.os, k.tape.trans h.tape, k.output.trans h.output, Nat.le_trans h.size k.size, fun i hi hne => (k.block i (Nat.lt_of_lt_of_le hi h.size) hne).trans (h.block i hi hne)⟩
theorem grown_below {a b : World} (h : Below a.heap.size a b) (row : Option Nat) : a.grownBy b row := ⟨h.os, h.tape, h.output, h.size, fun i hi _ => h.block i hi⟩
theorem grown_drewN {a b : World} {row : Option Nat} (h : a.grownBy b row) (n : Nat) : a.grownBy (b.drewN n) row := ⟨h.os, h.tape, h.output, h.size, h.block⟩
theorem grown_drew {a b : World} {row : Option Nat} (h : a.grownBy b row) : a.grownBy b.drew row := ⟨h.os, h.tape, h.output, h.size, h.block⟩
theorem grown_alloc {a b : World} {row : Option Nat} (h : a.grownBy b row) (o : Obj) : a.grownBy (b.alloc o) row :=
  grown_trans h (grown_below ((Below.refl _ b).alloc (Nat.le_refl _) o) row)
theorem grown_set {a b : World} {g : Nat} (h : a.grownBy b (some g)) {p : Addr} (hp : p.block = g ∨ a.heap.size ≤ p.block) (u : Value) : a.grownBy (b.setCell p u) (some g) :=
  ⟨h.os, h.tape, h.output, by simpa [World.setCell] using h.size, fun i hi hne => (Below.heap_setCell b p u i (by
    rintro rfl
    rcases hp with hp | hp
    · exact hne (by rw [hp])
    · omega)).trans (h.block i hi hne)⟩
theorem below_grown {B g : Nat} {w w' : World} (h : w.grownBy w' (some g)) (hg : B ≤ g) (hB : B ≤ w.heap.size) : Below B w w' :=
  (Below.refl B w).grown h hB (fun k hk => by injection hk with hk; omega)

/-- A closure that answers with a bool and leaves old memory alone. -/
def RetBool (w : World) (b : Bool) (e : Ending) (w' : World) : Prop := e = .returned (.bool b) ∧ Below w.heap.size w w'

theorem Row.grown {w w' : World} {g n : Nat} {t : TypeId} {f : Nat → Value} {row : Option Nat} (h : Row w g t n f) (hb : w.grownBy w' row) (hg : some g ≠ row) : Row w' g t n f := by
  have hl := h.lt
  obtain ⟨cs, hh, hr⟩ := h
  exact ⟨cs, (hb.block g hl hg).trans hh, hr⟩

theorem w64 (n : Int) (h : -9223372036854775808 ≤ n ∧ n ≤ 9223372036854775807) : wrap64 n = n := by unfold wrap64; omega

end Go.Proofs.YtdjephmkpebnhaaDoor
