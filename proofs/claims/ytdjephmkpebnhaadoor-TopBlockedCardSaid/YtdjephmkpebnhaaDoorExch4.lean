/- The exchange's steps: next. -/
import Derived.Test.YtdjephmkpebnhaaDoorExch3
import Derived.Test.YtdjephmkpebnhaaDoorNext
namespace Go.Proofs.YtdjephmkpebnhaaDoor
open Go.RowKit

/-- Behind next: at rest, or one message open. -/
def NextState (w : World) (p : Pts) (lo n : Nat) (last : Int) (L T : Nat → Bool) (S C S2 C2 : Nat → Int) : Prop :=
  (eqTo L T n = true ∧ ∃ age, Ends w p lo n age last last (.pointer none) (.slice none 0 0) (.slice none 0 0) L T T S C S2 C2) ∨
  (∃ f k ml mb r cap mk on, 1 ≤ cap ∧ Ends w p lo n 0 (last + 1) last (.pointer (some ⟨mb, 0, none⟩)) (.slice (some ⟨r, 0, none⟩) 1 cap) (.slice none 0 0) L (toldTo L T k) T S C S2 C2 ∧ Opened w p lo n (last + 1) L (toldTo L T k) T f k ml mb r mk on)

theorem next_step (p : Pts) (lo n : Nat) (age last : Int) (L T : Nat → Bool) (S C S2 C2 : Nat → Int) (w : World) (hp : p.ok lo) (hn : 1 ≤ n ∧ n ≤ 100) (hl : 0 ≤ last ∧ last ≤ 999)
    (hE : Ends w p lo n age last last (.pointer none) (.slice none 0 0) (.slice none 0 0) L T T S C S2 C2) :
    Calls Tryd.prog 24 #[.pointer (some ⟨p.da, 0, none⟩)] w (fun e w' => (∃ v, e = .returned v) ∧ NextState w' p lo n last L T S C S2 C2 ∧ Kept w w' [p.da, p.ta]) := by
  have hlo := hE.lo
  by_cases he : eqTo L T n = true
  · refine (next_rest p.da p.ga p.ta n p.ca 1 2 5 age last 0 (.slice none 0 0) S C L T w hE.da hE.ga ⟨hn.1, by omega⟩ he).mono ?_
    rintro e w' ⟨hv, hb⟩
    exact ⟨hv, .inl ⟨he, age, hE.da.kept hb, hE.ga.kept hb, hE.db.kept hb, hE.gb.kept hb, Nat.le_trans hlo hb.size⟩, Kept.below hb⟩
  · refine (next_any p.da p.ga p.ta n p.ca 1 2 5 age last 0 S C L T w hE.da hE.ga hn (by simpa using he) (by omega)).mono ?_
    rintro e w' ⟨hv, f, k, ml, mb, r, cap, mk, on, mv, ov, hd, hcap, hdk, hmsg, h1, h2, hbx, hmb, hr, hk⟩
    obtain ⟨⟨dg, dt, dc, dD, dG, dT, dC⟩, ⟨gt, gc, gD, gG, gT, gC⟩, ⟨tc, tD, tG, tT, tC⟩, _⟩ := hp.ne
    exact ⟨hv, .inr ⟨f, k, ml, mb, r, cap, mk, on, hcap, ⟨hdk, hk.grp hE.ga (by simp [dg.symm, gt]) (by simp [dc.symm, tc.symm]), hk.dk hE.db (by simp [dD.symm, tD.symm]) (by simp [dT.symm, tT.symm]), hk.grp hE.gb (by simp [dG.symm, tG.symm]) (by simp [dC.symm, tC.symm]), Nat.le_trans hlo hk.size⟩,
      ⟨hd, rfl, hmsg, h1, h2, ⟨mv, ov, hbx⟩, Nat.le_trans hlo hmb, Nat.le_trans hlo hr⟩⟩, hk⟩

/-- a hears the Ack of its open message. -/
theorem a_hears (p : Pts) (lo n mb : Nat) (age last F : Int) (mv ov : Value) (L T : Nat → Bool) (S C S2 C2 : Nat → Int) (w : World) (hp : p.ok lo) (hn : 1 ≤ n ∧ n ≤ 100) (hl : 1 ≤ last ∧ last ≤ 999)
    (hE : Ends w p lo n age last last (.pointer (some ⟨mb, 0, none⟩)) (.slice none 0 0) (.slice none 0 0) L T T S C S2 C2) (hB : Lit0 w mb 42 #[.int .u8 1, .int .u32 last, .int .i64 F, mv, ov]) (hb2 : lo ≤ mb) :
    Calls Tryd.prog 10 #[.pointer (some ⟨p.da, 0, none⟩), .agg #[.int .u8 2, .int .u32 last, .int .i64 0, .slice none 0 0, .slice none 0 0]] w (fun e w' => (∃ v, e = .returned v) ∧ NextState w' p lo n last L T S C S2 C2 ∧ Kept w w' [p.da, p.ta]) := by
  have hlt := hp.lt
  have q : mb ≠ p.da := by omega
  have hlo := hE.lo
  obtain ⟨⟨dg, dt, dc, dD, dG, dT, dC⟩, _⟩ := hp.ne
  refine (hear_ack p.da p.ga p.ca p.ta n mb 1 2 5 age last 0 last (.int .i64 F) mv ov T S (fun i => locI (L i)) C (fun w1 _ w' => NextState w' p lo n last L T S C S2 C2 ∧ Kept w1 w' [p.da, p.ta]) w hE.da hE.ga (by omega) hB ⟨dg.symm, dc.symm, q⟩ (fun w1 hdk hg hk => next_step p lo n age last L T S C S2 C2 w1 hp hn ⟨by omega, hl.2⟩
    ⟨hdk, hg, hk.dk hE.db (by simp [dD.symm]) (by simp [dT.symm]), hk.grp hE.gb (by simp [dG.symm]) (by simp [dC.symm]), Nat.le_trans hlo hk.size⟩)).mono ?_
  rintro e w' ⟨hv, w1, e1, hk, _, _, hs, hk2⟩
  exact ⟨hv, hs, (hk.more (by simp)).trans hk2⟩

/-- SetAll at a, at rest. -/
theorem a_sets (p : Pts) (lo n l cp : Nat) (age last : Int) (on : Bool) (A : Option Addr) (X : Nat → Nat) (L T : Nat → Bool) (S C S2 C2 : Nat → Int) (w : World) (hp : p.ok lo) (hn : 1 ≤ n ∧ n ≤ 100) (hl : 0 ≤ last ∧ last ≤ 999)
    (hE : Ends w p lo n age last last (.pointer none) (.slice none 0 0) (.slice none 0 0) L T T S C S2 C2) (hs : ∀ w', Kept w w' [p.ca] → Sees w' w'.heap.size A l (fun i => .int .i64 (X i : Nat))) (hX : ∀ i, i < l → X i < n) (hl2 : l ≤ 1000) :
    Calls Tryd.prog 7 #[.pointer (some ⟨p.da, 0, none⟩), .slice A l cp, .bool on] w (fun e w' => e = .returned (.int .i64 0) ∧ NextState w' p lo n last (allTo L X on l) T S C S2 C2 ∧ Kept w w' [p.da, p.ta, p.ca]) := by
  have hlo := hE.lo
  obtain ⟨⟨dg, dt, dc, dD, dG, dT, dC⟩, _, ⟨tc, _⟩, ⟨cD, cG, cT, cC⟩, _⟩ := hp.ne
  refine (set_all p.da p.ga p.ca p.ta n l cp 1 2 5 age last 0 (.pointer none) (.slice none 0 0) T L S C on A X (fun w1 _ w' => NextState w' p lo n last (allTo L X on l) T S C S2 C2 ∧ Kept w1 w' [p.da, p.ta]) w hE.da hE.ga hs hX hl2 ⟨dc, tc⟩ (fun w1 hdk hg hk => next_step p lo n age last (allTo L X on l) T S C S2 C2 w1 hp hn hl
    ⟨hdk, hg, hk.dk hE.db (by simp [cD.symm]) (by simp [cT.symm]), hk.grp hE.gb (by simp [cG.symm]) (by simp [cC.symm]), Nat.le_trans hlo hk.size⟩)).mono ?_
  rintro e w' ⟨rfl, w1, e1, hk, _, _, hs, hk2⟩
  exact ⟨rfl, hs, (hk.more (by simp)).trans (hk2.more (by simp))⟩
end Go.Proofs.YtdjephmkpebnhaaDoor
