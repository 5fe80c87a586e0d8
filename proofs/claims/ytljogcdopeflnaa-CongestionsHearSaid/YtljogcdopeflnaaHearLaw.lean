/- The law CongestionsHear: the plain law. -/
import Derived.Test.YtljogcdopeflnaaLives
namespace Go.Proofs.Ytljogcdopeflnaa
open Go.RowKit

/-- What the law has noted is what the control holds. -/
def HearInv (f : Int → Option (Int × Int)) (A : Nat → Nat) (V : Nat → Int) (now : Nat) : Prop :=
  (∀ k : Nat, k < 8 → (f k).getD (0, 0) = ((A k : Int), V k) ∧ A k ≤ now ∧ 0 ≤ V k ∧ V k ≤ 3) ∧ (∀ k : Int, ((8 : Nat) : Int) ≤ k → f k = none) ∧ (∀ k p, f k = some p → 0 ≤ p.1 ∧ p.1 ≤ now ∧ 0 ≤ p.2 ∧ p.2 ≤ 3)

theorem inv_start : HearInv (fun _ => none) (fun _ => 0) (fun _ => 0) 0 :=
  ⟨fun _ _ => ⟨rfl, Nat.le_refl _, Int.le_refl _, (by decide : (0 : Int) ≤ 3)⟩, fun _ _ => rfl, fun _ _ h => by cases h⟩

theorem HearInv.later {f : Int → Option (Int × Int)} {A : Nat → Nat} {V : Nat → Int} {now now' : Nat} (h : HearInv f A V now) (hn : now ≤ now') : HearInv f A V now' :=
  ⟨fun k hk => ⟨(h.1 k hk).1, Nat.le_trans (h.1 k hk).2.1 hn, (h.1 k hk).2.2⟩, h.2.1, fun k p hp => by have := h.2.2 k p hp; omega⟩

theorem HearInv.step {f : Int → Option (Int × Int)} {A : Nat → Nat} {V : Nat → Int} {now : Nat} (h : HearInv f A V now) {t : Nat} (ht : t < 8) {n : Int} (hn : 0 ≤ n ∧ n ≤ 3) :
    HearInv (upd f t (now, n)) (fun j => if j = t then now else A j) (fun j => if j = t then n else V j) now := by
  refine ⟨fun k hk => ?_, fun k hk => ?_, fun k p hp => ?_⟩
  · unfold upd
    by_cases e : k = t
    · subst e
      simp
      exact hn
    · have e' : ¬ (k : Int) = t := by omega
      simp only [if_neg e', if_neg e]
      exact h.1 k hk
  · unfold upd
    rw [if_neg (by omega)]
    exact h.2.1 k hk
  · unfold upd at hp
    split at hp
    · injection hp with hp
      subst hp
      exact ⟨by simp, by simp, hn⟩
    · exact h.2.2 k p hp

theorem HearInv.few {f : Int → Option (Int × Int)} {A : Nat → Nat} {V : Nat → Int} {now : Nat} (h : HearInv f A V now) (base t kt : Int) : others base t kt f < 64 :=
  Nat.lt_of_le_of_lt (tot_few _ f 8 h.2.1 _) (by decide)

theorem HearInv.level {f : Int → Option (Int × Int)} {A : Nat → Nat} {V : Nat → Int} {now : Nat} (h : HearInv f A V now) {k : Nat} (hk : k < 8) (base t : Int) (hb : 1 ≤ base) (ht : (now : Int) ≤ t) :
    levelOf base t (f k) = max (V k - (t - A k) / base) 0 := by
  obtain ⟨h1, h2, h3, h4⟩ := h.1 k hk
  unfold levelOf
  rw [h1]
  unfold lowv
  split
  · rename_i hle
    rw [show t - (A k : Int) = 0 by simp at hle; omega]
    simp
    omega
  · have hq0 : 0 ≤ (t - A k) / base := Int.ediv_nonneg (by omega) (by omega)
    simp only
    generalize (t - (A k : Int)) / base = q at *
    omega

theorem HearInv.old {f : Int → Option (Int × Int)} {A : Nat → Nat} {V : Nat → Int} {now : Nat} (h : HearInv f A V now) {k : Nat} (hk : k < 8) (base : Int) : levelOf base ((A k : Int) - 1) (f k) = V k := by
  obtain ⟨h1, h2, h3, h4⟩ := h.1 k hk
  unfold levelOf
  rw [h1]
  unfold lowv
  rw [if_pos (by simp; omega)]

theorem HearInv.ok {f : Int → Option (Int × Int)} {A : Nat → Nat} {V : Nat → Int} {now : Nat} (h : HearInv f A V now) (hn : now ≤ 100000) (k : Int) (p : Int × Int) (hp : f k = some p) : I64 p.1 ∧ 0 ≤ p.2 ∧ p.2 ≤ 3 := by
  have := h.2.2 k p hp
  exact ⟨⟨by omega, by omega⟩, this.2.2⟩
end Go.Proofs.Ytljogcdopeflnaa
