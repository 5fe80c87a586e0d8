/- FlowsScript: the flow control and the law's model go together. -/
import Derived.Test.YtbcalbkficbppaaModel
import Derived.Test.YtbcalbkficbppaaKeep
namespace Go.Proofs.Ytbcalbkficbppaa
open Go.RowKit

/-- A time that runs, told in two ways. -/
def Runs (mb sb : Int) : Prop := (mb = -1 ∧ sb = 0) ∨ ((1 ≤ mb ∧ mb ≤ 20) ∧ sb = mb)

structure Rel (i : Nat) (s : Fs) (m : Ms) : Prop where
  hag : m.ag = s.ag
  hmo : m.mo = s.mo
  hwa : m.wa = s.wa
  hfd : m.fd = s.fd
  hou : m.ou = s.ou
  hfa : m.fa = s.fa
  hco : s.co = decide (0 ≤ m.bg)
  hok : s.ok
  h20 : s.ag ≤ 20 ∧ s.mo ≤ 20 ∧ s.wa ≤ 20
  hbg : (-1 ≤ m.bg ∧ m.bg ≤ m.nw) ∧ 0 ≤ m.nw ∧ m.nw ≤ i
  hsi : 0 ≤ m.bg → s.si = (m.nw - m.bg) % s.ag
  hbu : s.fd = false → Runs m.bu s.bu
  hwt : s.fd = false → Runs m.wt s.wt

theorem Rel.later {i : Nat} {s : Fs} {m : Ms} (h : Rel i s m) : Rel (i + 1) s m := { h with hbg := by have := h.hbg; omega }

theorem next_sub (ag nw bg : Int) (hag : 1 ≤ ag) (h : bg ≤ nw) : nextSi ag ((nw - bg) % ag) = (nw + 1 - bg) % ag := by
  obtain ⟨k, hk⟩ : ∃ k : Nat, (k : Int) = nw - bg := ⟨(nw - bg).toNat, by omega⟩
  have := next_mod ag k hag
  rw [← hk, this]
  congr 1
  omega

theorem runs_tick {mb sb : Int} (h : Runs mb sb) : mb = -1 ∧ sb = 0 ∨ mb = 1 ∧ sb = 1 ∨ (2 ≤ mb ∧ mb ≤ 20) ∧ sb = mb := by
  rcases h with h | ⟨h, e⟩
  · exact .inl h
  · rcases (show mb = 1 ∨ 2 ≤ mb by omega) with h1 | h1
    · exact .inr (.inl ⟨h1, by omega⟩)
    · exact .inr (.inr ⟨by omega, e⟩)

/-- What the model answers to an act, and what it is then. -/
def ActTo (m : Ms) (a n : Int) (m' : Ms) : Prop := ∀ (g : Nat) (w : World), Ml w g m → Calls Try.prog 25 #[.pointer (some ⟨g, 0, none⟩), .int .u8 a] w (RetM w g n m')

theorem rel_tick {i : Nat} {s : Fs} {m : Ms} (h : Rel i s m) (hi : i ≤ 200) (hd : s.fd = false) : ∃ m', Rel (i + 1) s.tick m' ∧ ActTo m 8 0 m' := by
  obtain ⟨ag, mo, wa, co, si, ou, fa, bu, wt, fd⟩ := s
  obtain ⟨ag', mo', wa', bg, nw, ou', fa', mbu, mwt, fd'⟩ := m
  obtain ⟨hag, hmo, hwa, hfd, hou, hfa, hco, hok, h20, hbg, hsi, hbu, hwt⟩ := h
  simp only at hag hmo hwa hfd hou hfa hco h20 hbg hsi hbu hwt hd
  subst hag hmo hwa hfd hou hfa hd
  have hok' := hok.tick
  have hn : 0 ≤ nw ∧ nw ≤ 1000 := by omega
  have h1 := runs_tick (hbu rfl)
  have h2 := runs_tick (hwt rfl)
  have hsi' : 0 ≤ bg → nextSi ag' si = (nw + 1 - bg) % ag' := fun hb => by
    rw [hsi hb]
    exact next_sub ag' nw bg hok.1.1 hbg.1.2
  have hbg' : (-1 ≤ bg ∧ bg ≤ nw + 1) ∧ 0 ≤ nw + 1 ∧ nw + 1 ≤ ((i + 1 : Nat) : Int) := by omega
  rcases h1 with ⟨rfl, rfl⟩ | ⟨rfl, rfl⟩ | ⟨hb, rfl⟩
  · rcases h2 with ⟨rfl, rfl⟩ | ⟨rfl, rfl⟩ | ⟨hw, rfl⟩
    · refine ⟨_, ?_, fun g w hm => act_8neg_neg g ag' mo' wa' bg nw ou' fa' w hm hn⟩
      refine ⟨rfl, rfl, rfl, ?_, rfl, rfl, hco, hok', h20, hbg', hsi', fun _ => ?_, fun _ => ?_⟩
      · cases ou' <;> cases fa' <;> rfl
      · exact .inl ⟨rfl, rfl⟩
      · cases ou' <;> cases fa' <;> exact .inl ⟨rfl, rfl⟩
    · cases ou'
      · cases fa'
        · refine ⟨_, ?_, fun g w hm => act_8neg_one g ag' mo' wa' bg nw w hm hn⟩
          exact ⟨rfl, rfl, rfl, rfl, rfl, rfl, hco, hok', h20, hbg', hsi', fun hx => (by cases hx), fun hx => (by cases hx)⟩
        · refine ⟨_, ?_, fun g w hm => act_8neg_fa g ag' mo' wa' bg nw 1 w hm hn (by omega)⟩
          exact ⟨rfl, rfl, rfl, rfl, rfl, rfl, hco, hok', h20, hbg', hsi', fun _ => .inl ⟨rfl, rfl⟩, fun _ => .inr ⟨by simp, rfl⟩⟩
      · refine ⟨_, ?_, fun g w hm => act_8neg_ou g ag' mo' wa' bg nw 1 fa' w hm hn (by omega)⟩
        exact ⟨rfl, rfl, rfl, rfl, rfl, rfl, hco, hok', h20, hbg', hsi', fun _ => .inl ⟨rfl, rfl⟩, fun _ => .inr ⟨by simp, rfl⟩⟩
    · have hl : late wt = false := by simp [late]; omega
      have hdn : down wt = wt - 1 := by unfold down; rw [if_neg (by omega)]
      cases ou'
      · cases fa'
        · refine ⟨_, ?_, fun g w hm => act_8neg_big g ag' mo' wa' bg nw wt w hm hn (by omega)⟩
          refine ⟨rfl, rfl, rfl, ?_, rfl, rfl, hco, hok', h20, hbg', hsi', fun _ => .inl ⟨rfl, rfl⟩, fun _ => .inr ⟨by simp only; omega, ?_⟩⟩
          · show false = (late 0 || (!(false || false) && late wt)); rw [hl]; rfl
          · show (if (false || false) = true then wt else down wt) = wt - 1; rw [hdn]; rfl
        · refine ⟨_, ?_, fun g w hm => act_8neg_fa g ag' mo' wa' bg nw wt w hm hn (by omega)⟩
          exact ⟨rfl, rfl, rfl, rfl, rfl, rfl, hco, hok', h20, hbg', hsi', fun _ => .inl ⟨rfl, rfl⟩, fun _ => .inr ⟨by simp only; omega, rfl⟩⟩
      · refine ⟨_, ?_, fun g w hm => act_8neg_ou g ag' mo' wa' bg nw wt fa' w hm hn (by omega)⟩
        exact ⟨rfl, rfl, rfl, rfl, rfl, rfl, hco, hok', h20, hbg', hsi', fun _ => .inl ⟨rfl, rfl⟩, fun _ => .inr ⟨by simp only; omega, rfl⟩⟩
  · rcases h2 with ⟨rfl, rfl⟩ | ⟨rfl, rfl⟩ | ⟨hw, rfl⟩
    · refine ⟨_, ?_, fun g w hm => act_8one_neg g ag' mo' wa' bg nw ou' fa' w hm hn⟩
      refine ⟨rfl, rfl, rfl, rfl, rfl, rfl, hco, hok', h20, hbg', hsi', fun hx => (by cases hx), fun hx => (by cases hx)⟩
    · cases ou'
      · cases fa'
        · refine ⟨_, ?_, fun g w hm => act_8one_one g ag' mo' wa' bg nw w hm hn⟩
          exact ⟨rfl, rfl, rfl, rfl, rfl, rfl, hco, hok', h20, hbg', hsi', fun hx => (by cases hx), fun hx => (by cases hx)⟩
        · refine ⟨_, ?_, fun g w hm => act_8one_fa g ag' mo' wa' bg nw 1 w hm hn (by omega)⟩
          exact ⟨rfl, rfl, rfl, rfl, rfl, rfl, hco, hok', h20, hbg', hsi', fun hx => (by cases hx), fun hx => (by cases hx)⟩
      · refine ⟨_, ?_, fun g w hm => act_8one_ou g ag' mo' wa' bg nw 1 fa' w hm hn (by omega)⟩
        exact ⟨rfl, rfl, rfl, rfl, rfl, rfl, hco, hok', h20, hbg', hsi', fun hx => (by cases hx), fun hx => (by cases hx)⟩
    · cases ou'
      · cases fa'
        · refine ⟨_, ?_, fun g w hm => act_8one_big g ag' mo' wa' bg nw wt w hm hn (by omega)⟩
          exact ⟨rfl, rfl, rfl, rfl, rfl, rfl, hco, hok', h20, hbg', hsi', fun hx => (by cases hx), fun hx => (by cases hx)⟩
        · refine ⟨_, ?_, fun g w hm => act_8one_fa g ag' mo' wa' bg nw wt w hm hn (by omega)⟩
          exact ⟨rfl, rfl, rfl, rfl, rfl, rfl, hco, hok', h20, hbg', hsi', fun hx => (by cases hx), fun hx => (by cases hx)⟩
      · refine ⟨_, ?_, fun g w hm => act_8one_ou g ag' mo' wa' bg nw wt fa' w hm hn (by omega)⟩
        exact ⟨rfl, rfl, rfl, rfl, rfl, rfl, hco, hok', h20, hbg', hsi', fun hx => (by cases hx), fun hx => (by cases hx)⟩
  · have kl : late bu = false := by simp [late]; omega
    have kd : down bu = bu - 1 := by unfold down; rw [if_neg (by omega)]
    have hbb : 2 ≤ bu ∧ bu ≤ 1000 := by omega
    rcases h2 with ⟨rfl, rfl⟩ | ⟨rfl, rfl⟩ | ⟨hw, rfl⟩
    · refine ⟨_, ?_, fun g w hm => act_8big_neg g ag' mo' wa' bg nw bu ou' fa' w hm hn hbb⟩
      refine ⟨rfl, rfl, rfl, ?_, rfl, rfl, hco, hok', h20, hbg', hsi', fun _ => .inr ⟨by simp only; omega, kd⟩, fun _ => ?_⟩
      · show false = (late bu || (!(ou' || fa') && late 0)); rw [kl]; cases ou' <;> cases fa' <;> rfl
      · cases ou' <;> cases fa' <;> exact .inl ⟨rfl, rfl⟩
    · cases ou'
      · cases fa'
        · refine ⟨_, ?_, fun g w hm => act_8big_one g ag' mo' wa' bg nw bu w hm hn hbb⟩
          have hx : (late bu || (!(false || false) && late 1)) = true := by rw [kl]; rfl
          refine ⟨rfl, rfl, rfl, hx.symm, rfl, rfl, hco, hok', h20, hbg', hsi', fun hy => ?_, fun hy => ?_⟩
          · exact absurd (hx.symm.trans hy) (by decide)
          · exact absurd (hx.symm.trans hy) (by decide)
        · refine ⟨_, ?_, fun g w hm => act_8big_fa g ag' mo' wa' bg nw bu 1 w hm hn hbb (by omega)⟩
          refine ⟨rfl, rfl, rfl, ?_, rfl, rfl, hco, hok', h20, hbg', hsi', fun _ => .inr ⟨by simp only; omega, kd⟩, fun _ => .inr ⟨by simp, rfl⟩⟩
          show false = (late bu || (!(false || true) && late 1)); rw [kl]; rfl
      · refine ⟨_, ?_, fun g w hm => act_8big_ou g ag' mo' wa' bg nw bu 1 fa' w hm hn hbb (by omega)⟩
        refine ⟨rfl, rfl, rfl, ?_, rfl, rfl, hco, hok', h20, hbg', hsi', fun _ => .inr ⟨by simp only; omega, kd⟩, fun _ => .inr ⟨by simp, rfl⟩⟩
        show false = (late bu || (!(true || fa') && late 1)); rw [kl]; rfl
    · have hl : late wt = false := by simp [late]; omega
      have hdn : down wt = wt - 1 := by unfold down; rw [if_neg (by omega)]
      cases ou'
      · cases fa'
        · refine ⟨_, ?_, fun g w hm => act_8big_big g ag' mo' wa' bg nw bu wt w hm hn hbb (by omega)⟩
          refine ⟨rfl, rfl, rfl, ?_, rfl, rfl, hco, hok', h20, hbg', hsi', fun _ => .inr ⟨by simp only; omega, kd⟩, fun _ => .inr ⟨by simp only; omega, ?_⟩⟩
          · show false = (late bu || (!(false || false) && late wt)); rw [kl, hl]; rfl
          · show (if (false || false) = true then wt else down wt) = wt - 1; rw [hdn]; rfl
        · refine ⟨_, ?_, fun g w hm => act_8big_fa g ag' mo' wa' bg nw bu wt w hm hn hbb (by omega)⟩
          refine ⟨rfl, rfl, rfl, ?_, rfl, rfl, hco, hok', h20, hbg', hsi', fun _ => .inr ⟨by simp only; omega, kd⟩, fun _ => .inr ⟨by simp only; omega, rfl⟩⟩
          show false = (late bu || (!(false || true) && late wt)); rw [kl]; rfl
      · refine ⟨_, ?_, fun g w hm => act_8big_ou g ag' mo' wa' bg nw bu wt fa' w hm hn hbb (by omega)⟩
        refine ⟨rfl, rfl, rfl, ?_, rfl, rfl, hco, hok', h20, hbg', hsi', fun _ => .inr ⟨by simp only; omega, kd⟩, fun _ => .inr ⟨by simp only; omega, rfl⟩⟩
        show false = (late bu || (!(true || fa') && late wt)); rw [kl]; rfl

theorem rel_act {i : Nat} {s : Fs} {m : Ms} (h : Rel i s m) (hi : i ≤ 200) (hd : s.fd = false) (a : Int) (ha : 0 ≤ a ∧ a ≤ 255) : ∃ m', Rel (i + 1) (s.perform a) m' ∧ ActTo m a (performE a) m' := by
  by_cases h8 : a = 8
  · subst h8
    exact rel_tick h hi hd
  obtain ⟨ag, mo, wa, co, si, ou, fa, bu, wt, fd⟩ := s
  obtain ⟨ag', mo', wa', bg, nw, ou', fa', mbu, mwt, fd'⟩ := m
  obtain ⟨hag, hmo, hwa, hfd, hou, hfa, hco, hok, h20, hbg, hsi, hbu, hwt⟩ := h
  simp only at hag hmo hwa hfd hou hfa hco h20 hbg hsi hbu hwt hd
  subst hag hmo hwa hfd hou hfa hd
  have hbg' : (-1 ≤ bg ∧ bg ≤ nw) ∧ 0 ≤ nw ∧ nw ≤ ((i + 1 : Nat) : Int) := by omega
  have hb1 := hbu rfl
  have hw1 := hwt rfl
  have hwa1 := hok.2.2.1
  have hmo1 := hok.2.1
  simp only at hwa1 hmo1
  rcases (show a = 0 ∨ a = 1 ∨ a = 2 ∨ a = 3 ∨ a = 4 ∨ a = 5 ∨ a = 6 ∨ a = 7 ∨ a = 9 ∨ 10 ≤ a by omega) with rfl | rfl | rfl | rfl | rfl | rfl | rfl | rfl | rfl | h10
  · refine ⟨_, ?_, fun g w hm => act_0 g ag' mo' wa' bg nw mbu mwt ou' fa' w hm⟩
    refine ⟨rfl, rfl, rfl, rfl, rfl, rfl, rfl, hok.congest false, h20, by simp only; omega, fun hx => absurd hx (by simp), hbu, hwt⟩
  · by_cases hb : bg < 0
    · refine ⟨_, ?_, fun g w hm => act_1n g ag' mo' wa' bg nw mbu mwt ou' fa' w hm hb⟩
      have hc : co = false := by rw [hco]; simp; omega
      refine ⟨rfl, rfl, rfl, rfl, rfl, rfl, ?_, hok.congest true, h20, by simp only; omega, fun _ => ?_, hbu, hwt⟩
      · show true = decide (0 ≤ nw); simp; omega
      · show (if co then si else 0) = (nw - nw) % ag'
        rw [hc]; simp
    · refine ⟨_, ?_, fun g w hm => act_1y g ag' mo' wa' bg nw mbu mwt ou' fa' w hm hb⟩
      have hc : co = true := by rw [hco]; simp; omega
      refine ⟨rfl, rfl, rfl, rfl, rfl, rfl, ?_, hok.congest true, h20, hbg', fun hx => ?_, hbu, hwt⟩
      · show true = decide (0 ≤ bg); simp; omega
      · show (if co then si else 0) = (nw - bg) % ag'
        rw [hc]; exact hsi hx
  · refine ⟨_, ?_, fun g w hm => act_2 g ag' mo' wa' bg nw mbu mwt ou' fa' w hm⟩
    exact ⟨rfl, rfl, rfl, rfl, rfl, rfl, hco, hok.outage false, h20, hbg', hsi, hbu, hwt⟩
  · refine ⟨_, ?_, fun g w hm => act_3 g ag' mo' wa' bg nw mbu mwt ou' fa' w hm⟩
    exact ⟨rfl, rfl, rfl, rfl, rfl, rfl, hco, hok.outage true, h20, hbg', hsi, hbu, hwt⟩
  · refine ⟨_, ?_, fun g w hm => act_4 g ag' mo' wa' bg nw mbu mwt ou' fa' w hm⟩
    exact ⟨rfl, rfl, rfl, rfl, rfl, rfl, hco, hok.open_ false false, h20, hbg', hsi, hbu, fun _ => .inl ⟨rfl, rfl⟩⟩
  · by_cases hb : mwt < 0
    · refine ⟨_, ?_, fun g w hm => act_5n g ag' mo' wa' bg nw mbu mwt ou' fa' w hm hb⟩
      have h0 : wt = 0 := by rcases hw1 with hx | hx <;> omega
      subst h0
      exact ⟨rfl, rfl, rfl, rfl, rfl, rfl, hco, hok.open_ true false, h20, hbg', hsi, hbu, fun _ => .inr ⟨by simp only; omega, rfl⟩⟩
    · refine ⟨_, ?_, fun g w hm => act_5y g ag' mo' wa' bg nw mbu mwt ou' fa' w hm hb⟩
      have h0 : (wt == 0) = false := by rw [beq_eq_false_iff_ne]; rcases hw1 with hx | hx <;> omega
      refine ⟨rfl, rfl, rfl, rfl, rfl, rfl, hco, hok.open_ true false, h20, hbg', hsi, hbu, fun _ => ?_⟩
      show Runs mwt (if (false || wt == 0) = true then wa' else wt)
      rw [h0]
      exact hw1
  · refine ⟨_, ?_, fun g w hm => act_6 g ag' mo' wa' bg nw mbu mwt ou' fa' w hm⟩
    exact ⟨rfl, rfl, rfl, rfl, rfl, rfl, hco, hok.open_ false true, h20, hbg', hsi, fun _ => .inl ⟨rfl, rfl⟩, fun _ => .inl ⟨rfl, rfl⟩⟩
  · refine ⟨_, ?_, fun g w hm => act_7 g ag' mo' wa' bg nw mbu mwt ou' fa' w hm⟩
    exact ⟨rfl, rfl, rfl, rfl, rfl, rfl, hco, hok.open_ true true, h20, hbg', hsi, fun _ => .inl ⟨rfl, rfl⟩, fun _ => .inr ⟨by simp only; omega, rfl⟩⟩
  · refine ⟨_, ?_, fun g w hm => act_9 g ag' mo' wa' bg nw mbu mwt ou' fa' w hm⟩
    exact ⟨rfl, rfl, rfl, rfl, rfl, rfl, hco, hok.hear 200 false, h20, hbg', hsi, hbu, hwt⟩
  · by_cases h16 : 16 ≤ a
    · have hp : Fs.perform ⟨ag', mo', wa', co, si, ou', fa', bu, wt, false⟩ a = ⟨ag', mo', wa', co, si, ou', fa', bu, wt, false⟩ := by
        unfold Fs.perform Fs.hear
        rw [if_neg (by omega), if_neg (by omega), if_neg (by omega), if_neg (by omega), if_neg (by omega), if_pos rfl, if_pos (by omega)]
      have he : performE a = 1 := by unfold performE; rw [if_neg (by omega), if_pos (by omega)]
      rw [hp, he]
      refine ⟨_, ?_, fun g w hm => act_big g ag' mo' wa' bg nw mbu mwt ou' fa' a w hm ⟨h16, ha.2⟩⟩
      exact ⟨rfl, rfl, rfl, rfl, rfl, rfl, hco, hok, h20, hbg', hsi, hbu, hwt⟩
    · rcases (show a = 10 ∨ a = 11 ∨ a = 12 ∨ a = 13 ∨ a = 14 ∨ a = 15 by omega) with rfl | rfl | rfl | rfl | rfl | rfl
      · refine ⟨_, ?_, fun g w hm => act_10 g ag' mo' wa' bg nw mbu mwt ou' fa' w hm⟩
        exact ⟨rfl, rfl, rfl, rfl, rfl, rfl, hco, hok.hear 0 true, h20, hbg', hsi, fun hx => (by cases hx), fun hx => (by cases hx)⟩
      · refine ⟨_, ?_, fun g w hm => act_11 g ag' mo' wa' bg nw mbu mwt ou' fa' w hm⟩
        exact ⟨rfl, rfl, rfl, rfl, rfl, rfl, hco, hok.hear 1 true, h20, hbg', hsi, fun hx => (by cases hx), fun hx => (by cases hx)⟩
      · refine ⟨_, ?_, fun g w hm => act_12 g ag' mo' wa' bg nw mbu mwt ou' fa' w hm⟩
        exact ⟨rfl, rfl, rfl, rfl, rfl, rfl, hco, hok.hear 2 true, h20, hbg', hsi, fun hx => (by cases hx), fun hx => (by cases hx)⟩
      · refine ⟨_, ?_, fun g w hm => act_13 g ag' mo' wa' bg nw mbu mwt ou' fa' w hm⟩
        exact ⟨rfl, rfl, rfl, rfl, rfl, rfl, hco, hok.hear 3 true, h20, hbg', hsi, fun hx => (by cases hx), fun hx => (by cases hx)⟩
      · refine ⟨_, ?_, fun g w hm => act_14 g ag' mo' wa' bg nw mbu mwt ou' fa' w hm⟩
        exact ⟨rfl, rfl, rfl, rfl, rfl, rfl, hco, hok.hear 4 true, h20, hbg', hsi, hbu, hwt⟩
      · have hs : Fs.perform ⟨ag', mo', wa', co, si, ou', fa', bu, wt, false⟩ 15 = ⟨ag', mo', wa', co, si, ou', fa', if bu = 0 then mo' else bu, if 0 < wt then wa' else wt, false⟩ := rfl
        have hok' := hok.perform 15
        rw [hs] at hok' ⊢
        rcases hb1 with ⟨rfl, rfl⟩ | ⟨hb, rfl⟩
        · rcases hw1 with ⟨rfl, rfl⟩ | ⟨hw, rfl⟩
          · refine ⟨_, ?_, fun g w hm => act_15ny g ag' mo' wa' bg nw (-1) (-1) ou' fa' w hm (by omega) (by omega)⟩
            exact ⟨rfl, rfl, rfl, rfl, rfl, rfl, hco, hok', h20, hbg', hsi, fun _ => .inr ⟨by simp only; omega, rfl⟩, fun _ => .inl ⟨rfl, rfl⟩⟩
          · refine ⟨_, ?_, fun g w hm => act_15nn g ag' mo' wa' bg nw (-1) wt ou' fa' w hm (by omega) (by omega)⟩
            refine ⟨rfl, rfl, rfl, rfl, rfl, rfl, hco, hok', h20, hbg', hsi, fun _ => .inr ⟨by simp only; omega, rfl⟩, fun _ => .inr ⟨by simp only; omega, ?_⟩⟩
            exact if_pos (by omega)
        · rcases hw1 with ⟨rfl, rfl⟩ | ⟨hw, rfl⟩
          · refine ⟨_, ?_, fun g w hm => act_15yy g ag' mo' wa' bg nw bu (-1) ou' fa' w hm (by omega) (by omega)⟩
            exact ⟨rfl, rfl, rfl, rfl, rfl, rfl, hco, hok', h20, hbg', hsi, fun _ => .inr ⟨hb, if_neg (by omega)⟩, fun _ => .inl ⟨rfl, rfl⟩⟩
          · refine ⟨_, ?_, fun g w hm => act_15yn g ag' mo' wa' bg nw bu wt ou' fa' w hm (by omega) (by omega)⟩
            exact ⟨rfl, rfl, rfl, rfl, rfl, rfl, hco, hok', h20, hbg', hsi, fun _ => .inr ⟨hb, if_neg (by omega)⟩, fun _ => .inr ⟨by simp only; omega, if_pos (by omega)⟩⟩

/-- Every act, the flow control failed or not. -/
theorem rel_any {i : Nat} {s : Fs} {m : Ms} (h : Rel i s m) (hi : i ≤ 200) (a : Int) (ha : 0 ≤ a ∧ a ≤ 255) :
    ∃ m', Rel (i + 1) (if s.fd then s else s.perform a) m' ∧ ActTo m a (if s.fd then 6 else performE a) m' := by
  by_cases hd : s.fd = true
  · rw [if_pos hd, if_pos hd]
    exact ⟨m, h.later, fun g w hm => act_failed g m a w hm (h.hfd.trans hd)⟩
  · rw [if_neg hd, if_neg hd]
    exact rel_act h hi (by simpa using hd) a ha
end Go.Proofs.Ytbcalbkficbppaa
