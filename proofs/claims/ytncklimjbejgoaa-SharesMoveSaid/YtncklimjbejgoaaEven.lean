/- Plain facts on Link and Next where all are usable; slices that the statement makes. -/
import Derived.Test.YtncklimjbejgoaaLawNext
namespace Go.Proofs.Ytncklimjbejgoaa
open Go.RowKit

/-- The number by which a selection code chooses a link. -/
def rot (s : Nat) : Nat := 4 * (s % 4) + s / 4 % 4

theorem placeOf_home (n : Nat) (G : Nat → Nat) (p : Nat → Bool) (q : Nat) (h : p (G (q % n)) = true) : placeOf n G p q = G (q % n) := by unfold placeOf; rw [if_pos h]

theorem placeOf_usable (n : Nat) (p : Nat → Bool) (q : Nat) (hn : 0 < n) (hex : ∃ j, j < n ∧ p j = true) : placeOf n (fun k => k) p q < n ∧ p (placeOf n (fun k => k) p q) = true := by
  unfold placeOf
  by_cases h : p (q % n) = true
  · rw [if_pos h]
    exact ⟨Nat.mod_lt _ hn, h⟩
  · rw [if_neg h]
    obtain ⟨j, hj, hp⟩ := hex
    exact pick_getD_lt p n _ (Nat.mod_lt _ (pick_pos p n j hj hp))

theorem link_home (n m : Nat) (U : Nat → Bool) (s : Nat) (hn : 0 < n) (h : upOf m U (rot s % n) = true) : linkOf n m U s = some (rot s % n) := by
  have hp := pick_pos (upOf m U) n _ (Nat.mod_lt (rot s) hn) h
  unfold linkOf
  rw [if_neg (by omega), placeOf_home _ _ _ _ h]
  rfl

theorem link_usable_of (n m : Nat) (U : Nat → Bool) (s j : Nat) (h : linkOf n m U s = some j) : j < n ∧ upOf m U j = true := by
  unfold linkOf at h
  split at h
  · cases h
  · rename_i hl
    have hex := pick_zero (upOf m U) n hl
    have hn : 0 < n := by obtain ⟨j, hj, _⟩ := hex; omega
    injection h with h
    rw [← h]
    exact placeOf_usable n (upOf m U) _ hn hex

theorem best_zero (n : Nat) : ∀ k, k ≤ n → bestTo n (fun _ => 0) k = if k = 0 then 2 else 0
  | 0, _ => rfl
  | k + 1, hk => by
    have h1 : stat n (fun _ => 0) k = 0 := by unfold stat; rw [if_neg (by omega)]; simp
    have h2 := best_zero n k (by omega)
    by_cases h0 : k = 0
    · subst h0
      rw [bestTo_yes n _ 0 (by rw [h1]; simp [bestTo]), h1]
      simp
    · rw [if_neg h0] at h2
      rw [bestTo_no n _ k (by rw [h1, h2]; omega), h2]
      simp

theorem pick_all (p : Nat → Bool) (n : Nat) (h : ∀ i, i < n → p i = true) : pick p n = List.range n := by
  unfold pick
  rw [List.filter_eq_self]
  intro i hi
  exact h i (List.mem_range.1 hi)

theorem rank_zero (l : List Nat) : ∀ k, rankTo l (fun _ => 0) k = 0
  | 0 => rfl
  | k + 1 => by rw [rankTo_no l _ k (by rw [rank_zero l k]; omega), rank_zero l k]

theorem next_even (n s : Nat) (hn : 0 < n) : nextOf n n (fun _ => 0) (fun _ => 0) s = some (s % 16 % n) := by
  have hb := best_zero n n (Nat.le_refl _)
  rw [if_neg (by omega)] at hb
  have hu : ∀ i, i < n → (stat n (fun _ => 0) i == (0 : Int)) = true := fun i hi => by
    unfold stat
    rw [if_neg (by omega)]
    simp
  unfold nextOf
  rw [hb, if_neg (by omega)]
  simp only [rank_zero]
  rw [pick_all (fun _ => (0 : Int) == 0) n (fun i hi => by simp)]
  simp only [List.length_range]
  have hlt := Nat.mod_lt (s % 16) hn
  have hg : (List.range n).getD (s % 16 % n) 0 = s % 16 % n := by simp [List.getD_eq_getElem?_getD, hlt]
  rw [placeOf_home _ _ _ _ (by rw [hg]; exact hu _ hlt), hg]

/-- How many of the first k codes have the home j. -/
def cnt (h : Nat → Nat) : Nat → Nat → Int
  | 0, _ => 0
  | k + 1, j => if j = h k then cnt h k j + 1 else cnt h k j
theorem cnt_yes (h : Nat → Nat) (k j : Nat) (e : j = h k) : cnt h (k + 1) j = cnt h k j + 1 := by simp only [cnt]; rw [if_pos e]
theorem cnt_no (h : Nat → Nat) (k j : Nat) (e : ¬ j = h k) : cnt h (k + 1) j = cnt h k j := by simp only [cnt]; rw [if_neg e]
theorem cnt_le (h : Nat → Nat) : ∀ k j, 0 ≤ cnt h k j ∧ cnt h k j ≤ k
  | 0, _ => by simp [cnt]
  | k + 1, j => by have := cnt_le h k j; unfold cnt; split <;> omega

theorem even_links : ∀ n : Fin 16, ∀ j : Fin 16, j.val < n.val + 1 → 16 / ((n.val + 1 : Nat) : Int) ≤ cnt (fun s => rot s % (n.val + 1)) 16 j.val ∧ cnt (fun s => rot s % (n.val + 1)) 16 j.val ≤ (15 + ((n.val + 1 : Nat) : Int)) / ((n.val + 1 : Nat) : Int) := by decide +kernel
theorem even_places : ∀ n : Fin 16, ∀ j : Fin 16, j.val < n.val + 1 → 16 / ((n.val + 1 : Nat) : Int) ≤ cnt (fun s => s % 16 % (n.val + 1)) 16 j.val ∧ cnt (fun s => s % 16 % (n.val + 1)) 16 j.val ≤ (15 + ((n.val + 1 : Nat) : Int)) / ((n.val + 1 : Nat) : Int) := by decide +kernel

theorem made_get_n (zc : Array Value) (len j : Nat) (hj : j < len) : (madeCells zc len)[j]? = some (zc[j % zc.size]!) := by
  simp [madeCells, hj]

theorem make_n {P : Program} (t e : TypeId) (z : Value) (zc : Array Value) (size bytes : Nat) (ht : P.underlying t = some (.slice e)) (hinfo : (P.info? e).map (fun i => (i.zero, i.size, i.bytes)) = some (some z, size, bytes)) (hzc : z.cells = zc)
    (n : Nat) (hb : bytes ≤ 1024) (hn : n ≤ 1048576) (w : World) :
    (Instr.makeSlice t (.int .i64 (n : Int)) (.int .i64 (n : Int))).run P w = .ok (.slice (some ⟨w.heap.size, 0, none⟩) n n) (w.alloc (.cells (madeCells zc (n * size)) e)) := by
  obtain ⟨i, hi, hzz⟩ := Option.map_eq_some_iff.1 hinfo
  simp only [Prod.mk.injEq] at hzz
  obtain ⟨hz, hs, hby⟩ := hzz
  have hbn : bytes * n ≤ 1024 * 1048576 := Nat.mul_le_mul hb hn
  have hbi : (i.bytes : Int) * (n : Int) ≤ 281474976710656 := by
    rw [hby]
    have : ((bytes * n : Nat) : Int) ≤ 281474976710656 := by omega
    rwa [Int.natCast_mul] at this
  have hr := run_make (P := P) w t e i z ht hi hz .i64 .i64 (n : Int) (n : Int) (by omega) (by omega) hbi (by omega)
  simp only [Int.toNat_natCast, hzc, hs] at hr
  exact hr

/-- A row of links reads as links. -/
theorem Row.sees3 {w : World} {g n : Nat} {t : TypeId} {F : Nat → Value} {f f' f'' : Nat → Value} (h : Row w g t (n * 3) F) (h0 : ∀ k, k < n → F (k * 3) = f k) (h1 : ∀ k, k < n → F (k * 3 + 1) = f' k) (h2 : ∀ k, k < n → F (k * 3 + 2) = f'' k) :
    Sees3 w w.heap.size (some ⟨g, 0, none⟩) n f f' f'' := fun k hk =>
  ⟨g, 0, rfl, h.lt, by rw [Nat.zero_add, h.cell (by omega), h0 k hk], by rw [Nat.zero_add, h.cell (by omega), h1 k hk], by rw [Nat.zero_add, h.cell (by omega), h2 k hk]⟩
theorem Row.sees2 {w : World} {g n : Nat} {t : TypeId} {F : Nat → Value} {f f' : Nat → Value} (h : Row w g t (n * 2) F) (h0 : ∀ k, k < n → F (k * 2) = f k) (h1 : ∀ k, k < n → F (k * 2 + 1) = f' k) :
    Sees2 w w.heap.size (some ⟨g, 0, none⟩) n f f' := fun k hk =>
  ⟨g, 0, rfl, h.lt, by rw [Nat.zero_add, h.cell (by omega), h0 k hk], by rw [Nat.zero_add, h.cell (by omega), h1 k hk]⟩
end Go.Proofs.Ytncklimjbejgoaa
