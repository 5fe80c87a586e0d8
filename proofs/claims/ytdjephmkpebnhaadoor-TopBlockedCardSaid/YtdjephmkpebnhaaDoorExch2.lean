/- The exchange's steps. -/
import Derived.Test.YtdjephmkpebnhaaDoorExch
namespace Go.Proofs.YtdjephmkpebnhaaDoor
open Go.RowKit

theorem Pts.ok.ne {p : Pts} {lo : Nat} (h : p.ok lo) :
    (p.da ≠ p.ga ∧ p.da ≠ p.ta ∧ p.da ≠ p.ca ∧ p.da ≠ p.db ∧ p.da ≠ p.gb ∧ p.da ≠ p.tb ∧ p.da ≠ p.cb) ∧ (p.ga ≠ p.ta ∧ p.ga ≠ p.ca ∧ p.ga ≠ p.db ∧ p.ga ≠ p.gb ∧ p.ga ≠ p.tb ∧ p.ga ≠ p.cb) ∧
    (p.ta ≠ p.ca ∧ p.ta ≠ p.db ∧ p.ta ≠ p.gb ∧ p.ta ≠ p.tb ∧ p.ta ≠ p.cb) ∧ (p.ca ≠ p.db ∧ p.ca ≠ p.gb ∧ p.ca ≠ p.tb ∧ p.ca ≠ p.cb) ∧ (p.db ≠ p.gb ∧ p.db ≠ p.tb ∧ p.db ≠ p.cb) ∧ (p.gb ≠ p.tb ∧ p.gb ≠ p.cb) ∧ p.tb ≠ p.cb := by
  have h1 := h.1
  simp only [Pts.all, List.nodup_cons, List.mem_cons, List.not_mem_nil, or_false, not_or] at h1
  obtain ⟨⟨a1, a2, a3, a4, a5, a6, a7⟩, ⟨b1, b2, b3, b4, b5, b6⟩, ⟨c1, c2, c3, c4, c5⟩, ⟨d1, d2, d3, d4⟩, ⟨e1, e2, e3⟩, ⟨f1, f2⟩, g1, _⟩ := h1
  exact ⟨⟨a1, a2, a3, a4, a5, a6, a7⟩, ⟨b1, b2, b3, b4, b5, b6⟩, ⟨c1, c2, c3, c4, c5⟩, ⟨d1, d2, d3, d4⟩, ⟨e1, e2, e3⟩, ⟨f1, f2⟩, g1⟩
theorem Pts.ok.lt {p : Pts} {lo : Nat} (h : p.ok lo) : p.da < lo ∧ p.ga < lo ∧ p.ta < lo ∧ p.ca < lo ∧ p.db < lo ∧ p.gb < lo ∧ p.tb < lo ∧ p.cb < lo := by
  have h2 := h.2
  simp [Pts.all] at h2
  exact h2

/-- b hears a's open message. -/
theorem b_hears (p : Pts) (lo n f k ml mb r : Nat) (age last : Int) (opA : Value) (mk on : Value) (L T T0 : Nat → Bool) (S C S2 C2 : Nat → Int) (w : World) (hp : p.ok lo) (hn : 1 ≤ n ∧ n ≤ 100) (hl : 1 ≤ last ∧ last ≤ 1000)
    (hE : Ends w p lo n age last (last - 1) opA (.slice none 0 0) (.slice none 0 0) L T T0 S C S2 C2) (hO : Opened w p lo n last L T T0 f k ml mb r mk on) :
    Calls Tryd.prog 10 #[.pointer (some ⟨p.db, 0, none⟩), .agg #[.int .u8 1, .int .u32 last, .int .i64 (f : Int), mk, on]] w (fun e w' => (∃ v, e = .returned v) ∧ ∃ r2 cap, 1 ≤ cap ∧ Ends w' p lo n age last last opA (.slice none 0 0) (.slice (some ⟨r2, 0, none⟩) 1 cap) L T T S C S2 C2 ∧ MsgAt w' r2 2 last 0 (.slice none 0 0) (.slice none 0 0) ∧ lo ≤ r2 ∧
      (∃ mv ov, Lit0 w' mb 42 #[.int .u8 1, .int .u32 last, .int .i64 f, mv, ov]) ∧ Kept w w' [p.db, p.cb]) := by
  obtain ⟨ma, rfl, hma⟩ := hO.mask
  obtain ⟨oa, rfl, hoa⟩ := hO.ons
  obtain ⟨mv, ov, hbx⟩ := hO.box
  have hd := hO.done
  have hml : 1 ≤ ml ∧ ml ≤ 32 := ⟨hd.2.2.2.2.2.1, hd.2.2.2.2.2.2.1⟩
  have hfm : f + ml ≤ n := Nat.le_trans hd.2.2.2.2.2.2.2.1 hd.2.1
  obtain ⟨hm0, hm1, hom⟩ := marks_of hd
  have hlt := hp.lt
  have n1 : ma ≠ p.db := bools_ne hma hml.1 hE.db.l0 (by intro x hx; cases hx)
  have n2 : ma ≠ p.cb := bools_ne hma hml.1 (hE.gb.2.1.c0 (i := 0) (by omega)) (by intro x hx; cases hx)
  have n3 : oa ≠ p.db := bools_ne hoa hml.1 hE.db.l0 (by intro x hx; cases hx)
  have n4 : oa ≠ p.cb := bools_ne hoa hml.1 (hE.gb.2.1.c0 (i := 0) (by omega)) (by intro x hx; cases hx)
  have k1 : last - 1 < last ∧ 0 ≤ last - 1 ∧ last ≤ 2000 := by omega
  have hlo := hE.lo
  have hmg := hO.mbge
  have m1 : mb ≠ p.db := by omega
  have m2 : mb ≠ p.cb := by omega
  have hge : ∀ x, w.heap.size ≤ x → lo ≤ x := fun x hx => by omega
  obtain ⟨⟨_, _, _, dD, dG, dT, dC⟩, ⟨_, _, gD, gG, gT, gC⟩, ⟨_, tD, tG, tT, tC⟩, ⟨cD, cG, cT, cC⟩, ⟨DG, DT, DC⟩, ⟨GT, GC⟩, TC⟩ := hp.ne
  refine (hear_set p.db p.gb p.cb p.tb n f ml ma oa 2 1 5 0 0 (last - 1) last (.pointer none) (fun _ => false) S2 C2 T0 (MkF L T0 f) (OnF L T0 f) w hE.db hE.gb k1 hml hfm hn.2 hma hoa hm0 hm1 hom ⟨n1, n2, n3, n4, DC, TC, DG.symm, DC.symm⟩).mono ?_
  rintro e w' ⟨hv, r2, cap, hcap, hdk, hmsg, hg, hr2, hk⟩
  rw [heard_told hd, ← hO.told] at hg
  refine ⟨hv, r2, cap, hcap, ⟨hk.dk hE.da (by simp [dD, dC]) (by simp [tD, tC]), hk.grp hE.ga (by simp [gD, gC]) (by simp [cD, cC]), hdk, hg, Nat.le_trans hlo hk.size⟩, hmsg, hge r2 hr2, ⟨mv, ov, hk.lit hbx (by simp [m1, m2])⟩, hk⟩
end Go.Proofs.YtdjephmkpebnhaaDoor
