/- Counting the free circuits. -/
import Derived.Test.YtdjephmkpebnhaaDoorGroup
namespace Go.Proofs.YtdjephmkpebnhaaDoor
open Go.RowKit

/-- How many of the first n. -/
def cnt (P : Nat → Bool) : Nat → Nat
  | 0 => 0
  | k + 1 => cnt P k + (if P k = true then 1 else 0)

theorem cnt_congr {P Q : Nat → Bool} : ∀ {n : Nat}, (∀ i, i < n → P i = Q i) → cnt P n = cnt Q n
  | 0, _ => rfl
  | n + 1, h => by
    show cnt P n + _ = cnt Q n + _
    rw [cnt_congr (fun i hi => h i (by omega)), h n (by omega)]

theorem cnt_le (P : Nat → Bool) : ∀ n, cnt P n ≤ n
  | 0 => Nat.le_refl _
  | n + 1 => by
    show cnt P n + _ ≤ n + 1
    have := cnt_le P n
    split <;> omega

theorem cnt_zero {P : Nat → Bool} : ∀ {n : Nat}, cnt P n = 0 ↔ ∀ i, i < n → P i = false
  | 0 => ⟨fun _ i hi => absurd hi (by omega), fun _ => rfl⟩
  | n + 1 => by
    show cnt P n + _ = 0 ↔ _
    constructor
    · intro h i hi
      have h1 : cnt P n = 0 := by omega
      by_cases he : i = n
      · subst he
        by_cases hp : P i = true
        · rw [if_pos hp] at h; omega
        · simpa using hp
      · exact cnt_zero.1 h1 i (by omega)
    · intro h
      rw [cnt_zero.2 (fun i hi => h i (by omega)), if_neg (by rw [h n (by omega)]; simp)]

theorem cnt_all : ∀ {P : Nat → Bool} {n : Nat}, (∀ i, i < n → P i = true) → cnt P n = n
  | _, 0, _ => rfl
  | P, n + 1, h => by
    show cnt P n + _ = n + 1
    rw [cnt_all (fun i hi => h i (by omega)), if_pos (h n (by omega))]

/-- One less. -/
theorem cnt_less {P : Nat → Bool} {b : Nat} (hb : P b = true) : ∀ {n : Nat}, b < n → cnt (fun i => P i && decide (i ≠ b)) n + 1 = cnt P n
  | 0, h => absurd h (by omega)
  | n + 1, h => by
    show cnt (fun i => P i && decide (i ≠ b)) n + (if (P n && decide (n ≠ b)) = true then 1 else 0) + 1 = cnt P n + (if P n = true then 1 else 0)
    by_cases he : b = n
    · subst he
      rw [if_pos hb, if_neg (by simp), cnt_congr (Q := P) (fun i hi => by
        have : i ≠ b := by omega
        simp [this])]
    · have h2 := cnt_less hb (n := n) (by omega)
      have hn : n ≠ b := fun e => he e.symm
      have h3 : (P n && decide (n ≠ b)) = P n := by simp [hn]
      rw [h3]
      omega

theorem free_hunted (S B : Nat → Int) (b i : Nat) : freeC (upd S b 1 i) (B i) = (freeC (S i) (B i) && decide (i ≠ b)) := by
  unfold upd freeC
  by_cases h : i = b
  · simp [h]
  · simp [h]
end Go.Proofs.YtdjephmkpebnhaaDoor
