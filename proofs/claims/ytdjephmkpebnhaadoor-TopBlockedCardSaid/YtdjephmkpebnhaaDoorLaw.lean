/- The exchange of block messages, as a plain law. -/
import Derived.Test.YtdjephmkpebnhaaDoorNextA
import Derived.Test.YtdjephmkpebnhaaDoorHear
import Derived.Test.YtdjephmkpebnhaaDoorSetAll2
namespace Go.Proofs.YtdjephmkpebnhaaDoor
open Go.RowKit

/-- What the far side knows behind a Set is what was told. -/
theorem heard_told {L T : Nat → Bool} {n k f ml : Nat} (h : Done (Dd L T) n k f ml) : heardTo T (MkF L T f) (OnF L T f) f ml = toldTo L T k := by
  obtain ⟨h1, h2, h3, h4, h5, h6, h7, h8, h9, h10⟩ := h
  have same : ∀ i, Dd L T i = false → L i = T i := fun i hi => by simpa [Dd] using hi
  funext i
  unfold heardTo toldTo MkF OnF
  by_cases hf : f ≤ i
  · have e : f + (i - f) = i := by omega
    rw [e]
    by_cases hm : i < f + ml
    · by_cases hd : Dd L T i = true
      · rw [if_pos ⟨hf, hm, hd⟩, if_pos (by omega), hd, Bool.true_and]
      · rw [if_neg (fun hc => hd hc.2.2), if_pos (by omega)]
        exact (same i (by simpa using hd)).symm
    · rw [if_neg (fun hc => hm hc.2.1)]
      by_cases hk : i < k
      · rw [if_pos hk]
        exact (same i (h10 i (by omega) hk)).symm
      · rw [if_neg hk]
  · rw [if_neg (fun hc => hf hc.1), if_pos (by omega)]
    exact (same i (h5 i (by omega))).symm

/-- A Set lengthens what agrees. -/
theorem told_more {L T : Nat → Bool} {n k f ml j : Nat} (h : Done (Dd L T) n k f ml) (hj : ∀ i, i < j → L i = T i) : ∀ i, i < j + 1 → L i = toldTo L T k i := by
  obtain ⟨h1, h2, h3, h4, _⟩ := h
  intro i hi
  unfold toldTo
  by_cases hk : i < k
  · rw [if_pos hk]
  · rw [if_neg hk]
    have hf : j ≤ f := by
      rcases Nat.lt_or_ge f j with hx | hx
      · have := hj f hx
        simp [Dd, this] at h4
      · exact hx
    exact absurd hi (by omega)

/-- How the first Set's mark row begins and ends; an On is a mark. -/
theorem marks_of {L T : Nat → Bool} {n k f ml : Nat} (h : Done (Dd L T) n k f ml) : MkF L T f 0 = true ∧ MkF L T f (ml - 1) = true ∧ ∀ i, i < ml → OnF L T f i = true → MkF L T f i = true := by
  obtain ⟨h1, h2, h3, h4, h5, h6, h7, h8, h9, h10⟩ := h
  refine ⟨h4, ?_, fun i _ hi => ?_⟩
  · unfold MkF
    have e : f + (ml - 1) = f + ml - 1 := by omega
    rw [e]
    exact h9
  · unfold OnF at hi
    rw [Bool.and_eq_true] at hi
    exact hi.1

/-- What SetAll asks for, once all is said. -/
theorem allTo_on (X : Nat → Nat) (l : Nat) (L : Nat → Bool) : ∀ i, allTo L X true l i = (L i || decide (∃ j, j < l ∧ X j = i)) := by
  induction l with
  | zero => intro i; simp [allTo]
  | succ l ih =>
    intro i
    show upd (allTo L X true l) (X l) true i = _
    unfold upd
    by_cases h : i = X l
    · rw [if_pos h]
      have : ∃ j, j < l + 1 ∧ X j = i := ⟨l, by omega, h.symm⟩
      simp [this]
    · rw [if_neg h, ih i]
      congr 1
      apply decide_eq_decide.2
      constructor
      · rintro ⟨j, hj, hx⟩
        exact ⟨j, by omega, hx⟩
      · rintro ⟨j, hj, hx⟩
        by_cases he : j = l
        · subst he; exact absurd hx.symm h
        · exact ⟨j, by omega, hx⟩
theorem allTo_off (X : Nat → Nat) (l : Nat) (L : Nat → Bool) : ∀ i, allTo L X false l i = (L i && !decide (∃ j, j < l ∧ X j = i)) := by
  induction l with
  | zero => intro i; simp [allTo]
  | succ l ih =>
    intro i
    show upd (allTo L X false l) (X l) false i = _
    unfold upd
    by_cases h : i = X l
    · rw [if_pos h]
      have : ∃ j, j < l + 1 ∧ X j = i := ⟨l, by omega, h.symm⟩
      simp [this]
    · rw [if_neg h, ih i]
      congr 2
      apply decide_eq_decide.2
      constructor
      · rintro ⟨j, hj, hx⟩
        exact ⟨j, by omega, hx⟩
      · rintro ⟨j, hj, hx⟩
        by_cases he : j = l
        · subst he; exact absurd hx.symm h
        · exact ⟨j, by omega, hx⟩
end Go.Proofs.YtdjephmkpebnhaaDoor
