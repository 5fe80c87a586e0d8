/- Hunt and Free as steps. -/
import Derived.Test.YtdjephmkpebnhaaDoorCount
import Derived.Test.YtdjephmkpebnhaaDoorHunt2
import Derived.Test.YtdjephmkpebnhaaDoorWith
import Derived.Test.YtdjephmkpebnhaaDoorKeep
namespace Go.Proofs.YtdjephmkpebnhaaDoor
open Go.RowKit

/-- A group some calls of which have been hunted. -/
structure Hunted (w : World) (g c : Nat) (own far : Int) (n : Nat) (B : Nat → Int) (F call : Nat) : Prop where
  grp : ∃ S C, Grp w g c own far n S B C ∧ (∀ i, i < n → S i ≠ 0 → C i < (call : Int)) ∧ cnt (fun i => freeC (S i) (B i)) n = F - (call - 1)

/-- What a hunt answers. -/
def HuntAns (n F call : Nat) (B : Nat → Int) (e : Ending) : Prop :=
  (call ≤ F ∧ ∃ b : Nat, b < n ∧ B b = 0 ∧ e = .returned (.tuple #[.int .i64 (b : Nat), .int .i64 0])) ∨ (F < call ∧ e = .returned (.tuple #[.int .i64 0, .int .i64 9]))

theorem hunt_step (g c : Nat) (own far : Int) (n F call : Nat) (B : Nat → Int) (w : World) (h : Hunted w g c own far n B F call) (hn : 1 ≤ n ∧ n ≤ 1000) (hcall : 1 ≤ call) :
    Calls Tryd.prog 11 #[.pointer (some ⟨g, 0, none⟩), .int .i64 (call : Int)] w (fun e w' => HuntAns n F call B e ∧ Hunted w' g c own far n B F (call + 1) ∧ Kept w w' [c]) := by
  obtain ⟨S, C, hG, hC, hcnt⟩ := h.grp
  refine (hunt_any g c own far n S B C call w hG hn (fun i hi hx => by have := hC i hi hx.1; omega) (by omega)).mono ?_
  rintro e w' (⟨hno, rfl, hb⟩ | ⟨b, hb, hfr, rfl, hG2, hgr⟩)
  · have h0 : cnt (fun i => freeC (S i) (B i)) n = 0 := cnt_zero.2 hno
    refine ⟨.inr ⟨by omega, rfl⟩, ⟨S, C, hG.kept hb, fun i hi hx => by have := hC i hi hx; omega, by omega⟩, Kept.below hb⟩
  · have hl := cnt_less (P := fun i => freeC (S i) (B i)) hfr hb
    have hB : B b = 0 := by
      unfold freeC at hfr
      rw [Bool.and_eq_true] at hfr
      simpa using hfr.2
    refine ⟨.inl ⟨by omega, b, hb, hB, rfl⟩, ⟨_, _, hG2, fun i hi hx => ?_, ?_⟩, Kept.grown hgr (by simp)⟩
    · by_cases he : i = b
      · subst he
        rw [upd_at]
        omega
      · rw [upd_ne _ _ he] at hx
        rw [upd_ne _ _ he]
        have := hC i hi hx
        omega
    · rw [cnt_congr (Q := fun i => freeC (S i) (B i) && decide (i ≠ b)) (fun i _ => free_hunted S B b i)]
      omega

/-- A group the first k circuits of which are free again. -/
def Freed (w : World) (g c : Nat) (own far : Int) (n : Nat) (B : Nat → Int) (k : Nat) : Prop := ∃ S C, Grp w g c own far n S B C ∧ ∀ i, i < k → S i = 0

theorem free_step (g c : Nat) (own far : Int) (n k : Nat) (B : Nat → Int) (w : World) (h : Freed w g c own far n B k) (hk : k < n) :
    Calls Tryd.prog 12 #[.pointer (some ⟨g, 0, none⟩), .int .i64 (k : Int)] w (fun e w' => (∃ v, e = .returned v) ∧ Freed w' g c own far n B (k + 1) ∧ Kept w w' [c]) := by
  obtain ⟨S, C, hG, hS⟩ := h
  refine (freed_any g c own far n k S B C w hG hk).mono ?_
  rintro e w' ⟨z, rfl, C', hG2, hgr⟩
  refine ⟨⟨_, rfl⟩, ⟨_, C', hG2, fun i hi => ?_⟩, Kept.grown hgr (by simp)⟩
  by_cases he : i = k
  · subst he; exact upd_at _ _ _
  · rw [upd_ne _ _ he]
    exact hS i (by omega)
end Go.Proofs.YtdjephmkpebnhaaDoor
