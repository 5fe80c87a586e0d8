/- The exchange's steps: taking. -/
import Derived.Test.YtdjephmkpebnhaaDoorExch2
namespace Go.Proofs.YtdjephmkpebnhaaDoor
open Go.RowKit

theorem Opened.kept {w w' : World} {p : Pts} {lo n : Nat} {last : Int} {L T T0 : Nat → Bool} {f k ml mb r : Nat} {mk on : Value} {bs : List Nat} (h : Opened w p lo n last L T T0 f k ml mb r mk on) (hk : Kept w w' bs) (hb : ∀ x ∈ bs, x < lo)
    (hm : ∀ A v, v = mk ∨ v = on → v = .slice (some ⟨A, 0, none⟩) ml ml → A ∉ bs) : Opened w' p lo n last L T T0 f k ml mb r mk on := by
  obtain ⟨A, hA, hsA⟩ := h.mask
  obtain ⟨B, hB, hsB⟩ := h.ons
  obtain ⟨mv, ov, hbx⟩ := h.box
  have n1 : mb ∉ bs := fun hx => absurd (hb mb hx) (Nat.not_lt.2 h.mbge)
  have n2 : r ∉ bs := fun hx => absurd (hb r hx) (Nat.not_lt.2 h.rge)
  exact ⟨h.done, h.told, hk.msg h.msg n2, ⟨A, hA, hk.sees hsA (hm A mk (.inl rfl) hA)⟩, ⟨B, hB, hk.sees hsB (hm B on (.inr rfl) hB)⟩, ⟨mv, ov, hk.lit hbx n1⟩, h.mbge, h.rge⟩

/-- a's message is taken. -/
theorem a_takes (p : Pts) (lo n f k ml mb r cap : Nat) (age last hb : Int) (opA outB : Value) (mk on : Value) (L T T0 R : Nat → Bool) (S C S2 C2 : Nat → Int) (w : World) (hp : p.ok lo) (hc : 1 ≤ cap)
    (hE : Ends w p lo n age last hb opA (.slice (some ⟨r, 0, none⟩) 1 cap) outB L T R S C S2 C2) (hO : Opened w p lo n last L T T0 f k ml mb r mk on) :
    Calls Tryd.prog 9 #[.pointer (some ⟨p.da, 0, none⟩)] w (fun e w' => e = .returned (.slice (some ⟨r, 0, none⟩) 1 1) ∧ Ends w' p lo n age last hb opA (.slice none 0 0) outB L T R S C S2 C2 ∧ Opened w' p lo n last L T T0 f k ml mb r mk on ∧ Kept w w' [p.da]) := by
  refine (take_one p.da p.ga p.ta n r cap 5 age last 0 opA T w hE.da hc).mono ?_
  rintro e w' ⟨rfl, hdk, hgr⟩
  have hk := Kept.grown (bs := [p.da]) hgr (by simp)
  have hlt := hp.lt
  have hlo := hE.lo
  have hml := hO.done.2.2.2.2.2.1
  have hO2 : Opened w' p lo n last L T T0 f k ml mb r mk on := hO.kept hk (by simp; omega) (fun A v hv he hx => by
    simp at hx
    rcases hv with rfl | rfl
    · obtain ⟨A', hA', hs⟩ := hO.mask
      rw [he] at hA'
      injection hA' with h1
      injection h1 with h1
      injection h1 with h1
      subst h1
      exact bools_ne hs hml hE.da.l0 (by intro x hx; cases hx) hx
    · obtain ⟨A', hA', hs⟩ := hO.ons
      rw [he] at hA'
      injection hA' with h1
      injection h1 with h1
      injection h1 with h1
      subst h1
      exact bools_ne hs hml hE.da.l0 (by intro x hx; cases hx) hx)
  obtain ⟨⟨dg, dt, dc, dD, dG, dT, dC⟩, _⟩ := hp.ne
  exact ⟨rfl, ⟨hdk, hk.grp hE.ga (by simp [dg.symm]) (by simp [dc.symm]), hk.dk hE.db (by simp [dD.symm]) (by simp [dT.symm]), hk.grp hE.gb (by simp [dG.symm]) (by simp [dC.symm]), Nat.le_trans hlo hk.size⟩, hO2, hk⟩

/-- b's Ack is taken. -/
theorem b_takes (p : Pts) (lo n mb r cap : Nat) (age last hb Sr F : Int) (opA outA : Value) (mv ov : Value) (L T R : Nat → Bool) (S C S2 C2 : Nat → Int) (w : World) (hp : p.ok lo) (hc : 1 ≤ cap)
    (hE : Ends w p lo n age last hb opA outA (.slice (some ⟨r, 0, none⟩) 1 cap) L T R S C S2 C2) (hM : MsgAt w r 2 Sr 0 (.slice none 0 0) (.slice none 0 0)) (hr : lo ≤ r) (hB : Lit0 w mb 42 #[.int .u8 1, .int .u32 Sr, .int .i64 F, mv, ov]) (hb2 : lo ≤ mb) :
    Calls Tryd.prog 9 #[.pointer (some ⟨p.db, 0, none⟩)] w (fun e w' => e = .returned (.slice (some ⟨r, 0, none⟩) 1 1) ∧ Ends w' p lo n age last hb opA outA (.slice none 0 0) L T R S C S2 C2 ∧ MsgAt w' r 2 Sr 0 (.slice none 0 0) (.slice none 0 0) ∧ Lit0 w' mb 42 #[.int .u8 1, .int .u32 Sr, .int .i64 F, mv, ov] ∧ Kept w w' [p.db]) := by
  refine (take_one p.db p.gb p.tb n r cap 5 0 0 hb (.pointer none) (fun _ => false) w hE.db hc).mono ?_
  rintro e w' ⟨rfl, hdk, hgr⟩
  have hk := Kept.grown (bs := [p.db]) hgr (by simp)
  have hlt := hp.lt
  have hlo := hE.lo
  have q1 : r ≠ p.db := by omega
  have q2 : mb ≠ p.db := by omega
  obtain ⟨⟨dg, dt, dc, dD, dG, dT, dC⟩, ⟨_, _, gD, _⟩, ⟨_, tD, _⟩, ⟨cD, _⟩, ⟨DG, DT, DC⟩, _⟩ := hp.ne
  exact ⟨rfl, ⟨hk.dk hE.da (by simp [dD]) (by simp [tD]), hk.grp hE.ga (by simp [gD]) (by simp [cD]), hdk, hk.grp hE.gb (by simp [DG.symm]) (by simp [DC.symm]), Nat.le_trans hlo hk.size⟩, hk.msg hM (by simp [q1]), hk.lit hB (by simp [q2]), hk⟩
end Go.Proofs.YtdjephmkpebnhaaDoor
