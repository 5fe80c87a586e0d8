/- FlowsPair: what the other end keeps. -/
import Derived.Test.YtbcalbkficbppaaBusyWalk
namespace Go.Proofs.Ytbcalbkficbppaa
open Go.RowKit

/-- The other end behind k ticks. -/
def PB (ag mo wb : Int) (k : Nat) (s : Fs) : Prop :=
  s.ok ∧ s.mo = mo ∧ s.wa = wb ∧ s.ou = false ∧ s.fa = false ∧
    ((s.fd = true ∧ mo ≤ k) ∨ (s.fd = false ∧ (k : Int) < mo ∧ (k = 0 → s.bu = 0) ∧ (0 < k → s.bu = mo - k) ∧ ((k : Int) % ag = 0 → 1 ≤ s.wt ∧ s.wt ≤ wb) ∧ ((k : Int) % ag ≠ 0 → s.wt = wb - (k : Int) % ag)))

/-- .. and once it has heard. -/
def PM (ag mo wb : Int) (k : Nat) (s : Fs) : Prop :=
  s.ok ∧ s.mo = mo ∧ s.wa = wb ∧ s.ou = false ∧ s.fa = false ∧
    ((s.fd = true ∧ mo ≤ k) ∨ (s.fd = false ∧ (k : Int) < mo ∧ s.bu = mo - k ∧ s.wt = wb - (k : Int) % ag))

/-- What an act leaves. -/
def RetAct (w : World) (g : Nat) (R : Fs → Prop) (e : Ending) (w' : World) : Prop := ∃ n s, e = .returned (.int .i64 n) ∧ Fl w' g s ∧ w.grownBy w' (some g) ∧ R s

theorem PB.busy {ag mo wb : Int} {k : Nat} {s : Fs} (h : PB ag mo wb k s) (hk : (k : Int) % ag = 0) : PM ag mo wb k (if s.fd then s else s.hear 5 true) := by
  obtain ⟨hok, hm, hw, ho, hf, h⟩ := h
  rcases h with ⟨hd, hkm⟩ | ⟨hd, hkm, hb0, hb1, hw0, _⟩
  · rw [if_pos hd]
    exact ⟨hok, hm, hw, ho, hf, .inl ⟨hd, hkm⟩⟩
  · rw [if_neg (by simp [hd])]
    have hb : s.bu = 0 ∨ s.bu = mo - k := by
      rcases Nat.eq_zero_or_pos k with h0 | h0
      · exact .inl (hb0 h0)
      · exact .inr (hb1 h0)
    refine ⟨hok.hear 5 true, ?_, ?_, ?_, ?_, .inr ⟨?_, hkm, ?_, ?_⟩⟩
    · simpa [Fs.hear] using hm
    · simpa [Fs.hear] using hw
    · simpa [Fs.hear] using ho
    · simpa [Fs.hear] using hf
    · simpa [Fs.hear] using hd
    · have : (s.hear 5 true).bu = if s.bu = 0 then s.mo else s.bu := by simp [Fs.hear]
      rw [this, hm]
      rcases Nat.eq_zero_or_pos k with h0 | h0
      · rw [if_pos (hb0 h0)]; omega
      · have := hb1 h0
        rw [if_neg (by omega)]; exact this
    · have : (s.hear 5 true).wt = if 0 < s.wt then s.wa else s.wt := by simp [Fs.hear]
      rw [this, if_pos (by have := hw0 hk; omega), hw, hk]
      omega

theorem PB.calm {ag mo wb : Int} {k : Nat} {s : Fs} (h : PB ag mo wb k s) (hk : ¬ (k : Int) % ag = 0) : PM ag mo wb k s := by
  obtain ⟨hok, hm, hw, ho, hf, h⟩ := h
  refine ⟨hok, hm, hw, ho, hf, ?_⟩
  rcases h with ⟨hd, hkm⟩ | ⟨hd, hkm, _, hb1, _, hw1⟩
  · exact .inl ⟨hd, hkm⟩
  · have h0 : 0 < k := by
      rcases Nat.eq_zero_or_pos k with h0 | h0
      · subst h0; exact absurd (by simp) hk
      · exact h0
    exact .inr ⟨hd, hkm, hb1 h0, hw1 hk⟩

theorem PM.tick {ag mo wb : Int} {k : Nat} {s : Fs} (h : PM ag mo wb k s) (hag : 1 ≤ ag) (hwb : ag + 1 ≤ wb) : PB ag mo wb (k + 1) (if s.fd then s else s.tick) := by
  obtain ⟨hok, hm, hw, ho, hf, h⟩ := h
  rcases h with ⟨hd, hkm⟩ | ⟨hd, hkm, hb, hwt⟩
  · rw [if_pos hd]
    exact ⟨hok, hm, hw, ho, hf, .inl ⟨hd, by omega⟩⟩
  · rw [if_neg (by simp [hd])]
    have hr := mod_range ag k hag
    have hn := next_mod ag k hag
    have hbu : s.tick.bu = mo - k - 1 := by
      show down s.bu = _
      unfold down
      rw [hb, if_neg (by omega)]
    have hwt' : s.tick.wt = wb - (k : Int) % ag - 1 := by
      show (if s.ou || s.fa then s.wt else down s.wt) = _
      rw [ho, hf]
      unfold down
      rw [hwt]
      simp only [Bool.or_self, Bool.false_eq_true, if_false]
      rw [if_neg (by omega)]
    have hfd : s.tick.fd = decide (mo ≤ ((k + 1 : Nat) : Int)) := by
      show (late s.bu || (!(s.ou || s.fa) && late s.wt)) = _
      rw [ho, hf, hb, hwt]
      unfold late
      have h1 : decide (wb - (k : Int) % ag = 1) = false := by simp; omega
      rw [h1]
      simp only [Bool.or_self, Bool.not_false, Bool.true_and, Bool.or_false]
      rw [decide_eq_decide]
      omega
    refine ⟨hok.tick, hm, hw, ho, hf, ?_⟩
    by_cases hlast : mo ≤ ((k + 1 : Nat) : Int)
    · exact .inl ⟨by rw [hfd]; simpa using hlast, hlast⟩
    · refine .inr ⟨by rw [hfd]; simpa using hlast, by omega, fun h0 => by omega, fun _ => by rw [hbu]; omega, fun h0 => ?_, fun h0 => ?_⟩
      · rw [hwt']
        unfold nextSi at hn
        split at hn <;> omega
      · rw [hwt']
        unfold nextSi at hn
        split at hn <;> omega

theorem PB.hear {ag mo wb : Int} {k : Nat} {s : Fs} {g : Nat} {w : World} (h : PB ag mo wb k s) (hf : Fl w g s) (hk : (k : Int) % ag = 0) : Calls Try.prog 19 #[.pointer (some ⟨g, 0, none⟩), .int .u8 5, .bool true] w (RetAct w g (PM ag mo wb k)) :=
  (hear_any g s 5 true w hf h.1 (by decide)).mono fun _ _ ⟨he, hl, hg⟩ => ⟨_, _, he, hl, hg, h.busy hk⟩

theorem PM.ticks {ag mo wb : Int} {k : Nat} {s : Fs} {g : Nat} {w : World} (h : PM ag mo wb k s) (hf : Fl w g s) (hag : 1 ≤ ag) (hwb : ag + 1 ≤ wb) : Calls Try.prog 14 #[.pointer (some ⟨g, 0, none⟩)] w (RetAct w g (PB ag mo wb (k + 1))) :=
  (tick_any g s w hf h.1).mono fun _ _ ⟨he, hl, hg⟩ => ⟨_, _, he, hl, hg, h.tick hag hwb⟩

theorem PB.fails {ag mo wb : Int} {k : Nat} {s : Fs} (h : PB ag mo wb k s) : s.fd = decide (mo ≤ (k : Int)) := by
  obtain ⟨_, _, _, _, _, h⟩ := h
  rcases h with ⟨hd, hkm⟩ | ⟨hd, hkm, _⟩
  · rw [hd]; simpa using hkm
  · rw [hd]; simp; omega

/-- Acknowledged, and nothing waits. -/
def PR (s : Fs) : Prop := s.ok ∧ s.bu = 0 ∧ s.wt = 0 ∧ s.fd = false

theorem PB.opens {ag mo wb : Int} {k : Nat} {s : Fs} {g : Nat} {w : World} (h : PB ag mo wb k s) (hf : Fl w g s) (hk : ¬ mo ≤ (k : Int)) : Calls Try.prog 17 #[.pointer (some ⟨g, 0, none⟩), .bool false, .bool true] w (RetAct w g PR) := by
  have hd : s.fd = false := by rw [h.fails]; simpa using hk
  refine (open_any g s false true w hf h.1).mono fun _ _ ⟨he, hl, hg⟩ => ⟨_, _, he, hl, hg, ?_⟩
  rw [if_neg (by simp [hd])]
  exact ⟨h.1.open_ false true, rfl, rfl, hd⟩

theorem PR.ticks {s : Fs} {g : Nat} {w : World} (h : PR s) (hf : Fl w g s) : Calls Try.prog 14 #[.pointer (some ⟨g, 0, none⟩)] w (RetAct w g PR) := by
  obtain ⟨hok, hb, hw, hd⟩ := h
  refine (tick_any g s w hf hok).mono fun _ _ ⟨he, hl, hg⟩ => ⟨_, _, he, hl, hg, ?_⟩
  rw [if_neg (by simp [hd])]
  refine ⟨hok.tick, ?_, ?_, ?_⟩
  · show down s.bu = 0
    rw [hb]; rfl
  · show (if s.ou || s.fa then s.wt else down s.wt) = 0
    rw [hw]
    split <;> rfl
  · show (late s.bu || (!(s.ou || s.fa) && late s.wt)) = false
    rw [hb, hw]
    show (false || (!(s.ou || s.fa) && false)) = false
    simp

theorem pair_start (ag mo wb ag2 : Int) (h : (1 ≤ ag2 ∧ ag2 ≤ 20) ∧ (1 ≤ mo ∧ mo ≤ 20) ∧ 1 ≤ wb ∧ wb ≤ 21) (g : Nat) (w : World) (hf : Fl w g (Fs.start ag2 mo wb)) : Calls Try.prog 17 #[.pointer (some ⟨g, 0, none⟩), .bool true, .bool false] w (fun e w' => e = .returned (.int .i64 0) ∧ ∃ s, Fl w' g s ∧ w.grownBy w' (some g) ∧ PB ag mo wb 0 s) := by
  have hok : (Fs.start ag2 mo wb).ok := by unfold Fs.ok Fs.start; simp only; omega
  refine (open_any g _ true false w hf hok).mono fun _ _ ⟨he, hl, hg⟩ => ⟨he, _, hl, hg, ?_⟩
  exact ⟨hok.open_ true false, rfl, rfl, rfl, rfl, .inr ⟨rfl, by omega, fun _ => rfl, fun h => by omega, fun _ => by show 1 ≤ wb ∧ wb ≤ wb; omega, fun h => absurd (by simp) h⟩⟩
end Go.Proofs.Ytbcalbkficbppaa
