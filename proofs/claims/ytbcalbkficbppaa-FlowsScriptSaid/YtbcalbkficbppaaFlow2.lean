/- The flow control: Hear, Tick, Sends, Held, Failed, New. -/
import Derived.Test.YtbcalbkficbppaaFlow
namespace Go.Proofs.Ytbcalbkficbppaa
open Go.RowKit

theorem Fl.drewN {w : World} {g : Nat} {s : Fs} (h : Fl w g s) (n : Nat) : Fl (w.drewN n) g s := h

theorem hear_any (g : Nat) (s : Fs) (st : Int) (is : Bool) (w : World) (h : Fl w g s) (hok : s.ok) (hs0 : 0 ≤ st ∧ st ≤ 255) :
    Calls Try.prog 19 #[.pointer (some ⟨g, 0, none⟩), .int .u8 st, .bool is] w (RetStep w g (if s.fd then 6 else Fs.hearE st is) (if s.fd then s else s.hear st is)) := by
  obtain ⟨ag, mo, wa, co, si, ou, fa, bu, wt, fd⟩ := s
  have c0 := h.cell 0
  have c1 := h.cell 1
  have c2 := h.cell 2
  have c3 := h.cell 3
  have c4 := h.cell 4
  have c5 := h.cell 5
  have c6 := h.cell 6
  have c7 := h.cell 7
  have c8 := h.cell 8
  have c9 := h.cell 9
  have fr : ∀ j, w.frozen? ⟨g, j, none⟩ = false := fun j => h.free j
  simp only [Fs.cells, List.getElem?_toArray, List.getElem?_cons_zero, List.getElem?_cons_succ] at c0 c1 c2 c3 c4 c5 c6 c7 c8 c9
  have hst := state_any g _ w h hok.1.1
  have HST := Lib.hid hst
  have H := Lib.hid h
  have HOK := Lib.hid hok
  clear hst h hok
  have f6 := fr 6
  have f7 := fr 7
  have f8 := fr 8
  have f9 := fr 9
  clear fr
  cases fd
  · cases is
    · go_enter Try.func19, Try.ntmps19
      go_wp2_with fail
      refine HST.out.mono ?_
      rintro e w' ⟨rfl, rfl⟩
      go_wp2_with fail
      go_ret
      exact ⟨rfl, H.out.set6 false, grown_one _ _ _ _⟩
    · by_cases h5 : 5 < st
      · have d5 : decide (5 < st) = true := by simpa using h5
        have hn : Fs.hearE st true = 1 := by simp [Fs.hearE, h5]
        have hs : Fs.hear ⟨ag, mo, wa, co, si, ou, fa, bu, wt, false⟩ st true = ⟨ag, mo, wa, co, si, ou, fa, bu, wt, false⟩ := by simp [Fs.hear, h5]
        rw [if_neg (by simp), if_neg (by simp), hn, hs]
        clear hn hs
        go_enter Try.func19, Try.ntmps19
        go_wp2_with fail
        refine HST.out.mono ?_
        rintro e w' ⟨rfl, rfl⟩
        go_wp2_with fail
        go_ret
        exact ⟨rfl, H.out, grown_refl _ _⟩
      · have d5 : decide (5 < st) = false := by simpa using h5
        have hn : Fs.hearE st true = 0 := by simp [Fs.hearE, h5]
        by_cases e5 : st = 5
        · subst e5
          have hs : Fs.hear ⟨ag, mo, wa, co, si, ou, fa, bu, wt, false⟩ 5 true = ⟨ag, mo, wa, co, si, ou, fa, if bu = 0 then mo else bu, if 0 < wt then wa else wt, false⟩ := by simp [Fs.hear]
          rw [if_neg (by simp), if_neg (by simp), hn, hs]
          clear hn hs
          by_cases hb : bu = 0
          · rw [if_pos hb]
            subst hb
            by_cases hw : 0 < wt
            · rw [if_pos hw]
              have dw : decide (0 < wt) = true := by simpa using hw
              go_enter Try.func19, Try.ntmps19
              go_wp2_with fail
              refine HST.out.mono ?_
              rintro e w' ⟨rfl, rfl⟩
              go_wp2_with fail
              go_ret
              exact ⟨rfl, (H.out.set7 mo).set8 wa, grown_two _ _ _ _ _ _⟩
            · rw [if_neg hw]
              have dw : decide (0 < wt) = false := by simpa using hw
              go_enter Try.func19, Try.ntmps19
              go_wp2_with fail
              refine HST.out.mono ?_
              rintro e w' ⟨rfl, rfl⟩
              go_wp2_with fail
              go_ret
              exact ⟨rfl, H.out.set7 mo, grown_one _ _ _ _⟩
          · rw [if_neg hb]
            have db : (bu == 0) = false := by simpa using hb
            by_cases hw : 0 < wt
            · rw [if_pos hw]
              have dw : decide (0 < wt) = true := by simpa using hw
              go_enter Try.func19, Try.ntmps19
              go_wp2_with fail
              refine HST.out.mono ?_
              rintro e w' ⟨rfl, rfl⟩
              go_wp2_with fail
              go_ret
              exact ⟨rfl, H.out.set8 wa, grown_one _ _ _ _⟩
            · rw [if_neg hw]
              have dw : decide (0 < wt) = false := by simpa using hw
              go_enter Try.func19, Try.ntmps19
              go_wp2_with fail
              refine HST.out.mono ?_
              rintro e w' ⟨rfl, rfl⟩
              go_wp2_with fail
              go_ret
              exact ⟨rfl, H.out, grown_refl _ _⟩
        · have x5 : (st == 5) = false := by simpa using e5
          by_cases e4 : st = 4
          · subst e4
            have hs : Fs.hear ⟨ag, mo, wa, co, si, ou, fa, bu, wt, false⟩ 4 true = ⟨ag, mo, wa, co, si, ou, true, bu, wt, false⟩ := by simp [Fs.hear]
            rw [if_neg (by simp), if_neg (by simp), hn, hs]
            clear hn hs
            go_enter Try.func19, Try.ntmps19
            go_wp2_with fail
            refine HST.out.mono ?_
            rintro e w' ⟨rfl, rfl⟩
            go_wp2_with fail
            go_ret
            exact ⟨rfl, H.out.set6 true, grown_one _ _ _ _⟩
          · have x4 : (st == 4) = false := by simpa using e4
            have hs : Fs.hear ⟨ag, mo, wa, co, si, ou, fa, bu, wt, false⟩ st true = ⟨ag, mo, wa, co, si, ou, fa, bu, wt, true⟩ := by simp [Fs.hear, h5, e5, e4]
            rw [if_neg (by simp), if_neg (by simp), hn, hs]
            clear hn hs
            go_enter Try.func19, Try.ntmps19
            go_wp2_with fail
            refine HST.out.mono ?_
            rintro e w' ⟨rfl, rfl⟩
            go_wp2_with fail
            go_ret
            exact ⟨rfl, H.out.set9 true, grown_one _ _ _ _⟩
  · go_enter Try.func19, Try.ntmps19
    go_wp2_with fail
    refine HST.out.mono ?_
    rintro e w' ⟨rfl, rfl⟩
    go_wp2_with fail
    go_ret
    exact ⟨rfl, H.out, grown_refl _ _⟩

/-- What passed leaves. -/
def RetPassed (w : World) (g j : Nat) (n : Int) (e : Ending) (w' : World) : Prop := e = .returned (.bool (late n)) ∧ ((n = 0 ∧ w' = w) ∨ (n ≠ 0 ∧ w' = w.setCell ⟨g, j, none⟩ (.int .i64 (n - 1))))

theorem passed_any (g j : Nat) (n : Int) (w : World) (h : w.cell? ⟨g, j, none⟩ = some (.int .i64 n)) (hf : w.frozen? ⟨g, j, none⟩ = false) (hn : 0 ≤ n ∧ n ≤ 1048576) :
    Calls Try.prog 30 #[.pointer (some ⟨g, j, none⟩)] w (RetPassed w g j n) := by
  by_cases h0 : n = 0
  · subst h0
    go_enter Try.func30, Try.ntmps30
    go_wp2_with fail
    go_ret
    exact ⟨rfl, .inl ⟨rfl, rfl⟩⟩
  · have e0 : (n == 0) = false := by simpa using h0
    by_cases h1 : n = 1
    · subst h1
      go_enter Try.func30, Try.ntmps30
      go_wp2_with fail
      go_ret
      exact ⟨rfl, .inr ⟨by decide, rfl⟩⟩
    · have e1 : (n - 1 == 0) = false := by rw [beq_eq_false_iff_ne]; omega
      have hl : late n = false := by simp [late, h1]
      have HL := Lib.hid hl
      clear hl
      go_enter Try.func30, Try.ntmps30
      go_wp2_with fail
      go_ret
      exact ⟨by rw [HL.out]; rfl, .inr ⟨h0, rfl⟩⟩

theorem passed_bu (g : Nat) (s : Fs) (w : World) (h : Fl w g s) (hok : s.ok) :
    Calls Try.prog 30 #[.pointer (some ⟨g, 7, none⟩)] w fun e w' => e = .returned (.bool (late s.bu)) ∧ Fl w' g { s with bu := down s.bu } ∧ w.grownBy w' (some g) :=
  (passed_any g 7 s.bu w (h.cell 7) (h.free 7) hok.2.2.2.2.1).mono fun e w' ⟨h1, h2⟩ => by
    rcases h2 with ⟨h0, rfl⟩ | ⟨h0, rfl⟩
    · refine ⟨h1, ?_, grown_refl _ _⟩
      have : down s.bu = s.bu := by unfold down; rw [if_pos h0, h0]
      rw [this]
      exact h
    · refine ⟨h1, ?_, grown_one _ _ _ _⟩
      have : down s.bu = s.bu - 1 := by unfold down; rw [if_neg h0]
      rw [this]
      exact h.set7 _

theorem passed_wt (g : Nat) (s : Fs) (w : World) (h : Fl w g s) (hok : s.ok) :
    Calls Try.prog 30 #[.pointer (some ⟨g, 8, none⟩)] w fun e w' => e = .returned (.bool (late s.wt)) ∧ Fl w' g { s with wt := down s.wt } ∧ w.grownBy w' (some g) :=
  (passed_any g 8 s.wt w (h.cell 8) (h.free 8) hok.2.2.2.2.2).mono fun e w' ⟨h1, h2⟩ => by
    rcases h2 with ⟨h0, rfl⟩ | ⟨h0, rfl⟩
    · refine ⟨h1, ?_, grown_refl _ _⟩
      have : down s.wt = s.wt := by unfold down; rw [if_pos h0, h0]
      rw [this]
      exact h
    · refine ⟨h1, ?_, grown_one _ _ _ _⟩
      have : down s.wt = s.wt - 1 := by unfold down; rw [if_neg h0]
      rw [this]
      exact h.set8 _

theorem failed_nil (w : World) : Calls Try.prog 15 #[.pointer none] w fun e w' => e = .returned (.bool false) ∧ w = w' := by
  go_enter Try.func15, Try.ntmps15
  go_wp2_with fail
  go_ret
  exact ⟨rfl, rfl⟩

theorem failed_any (g : Nat) (s : Fs) (w : World) (h : Fl w g s) : Calls Try.prog 15 #[.pointer (some ⟨g, 0, none⟩)] w fun e w' => e = .returned (.bool s.fd) ∧ w = w' := by
  have c9 : w.cell? ⟨g, 9, none⟩ = some (.bool s.fd) := h.cell 9
  clear h
  go_enter Try.func15, Try.ntmps15
  go_wp2_with fail
  go_ret
  exact ⟨rfl, rfl⟩

theorem held_nil (w : World) : Calls Try.prog 20 #[.pointer none] w fun e w' => e = .returned (.tuple #[.bool false, .bool false]) ∧ w = w' := by
  go_enter Try.func20, Try.ntmps20
  go_wp2_with fail
  go_ret2
  exact ⟨rfl, rfl⟩

theorem held_any (g : Nat) (s : Fs) (w : World) (h : Fl w g s) : Calls Try.prog 20 #[.pointer (some ⟨g, 0, none⟩)] w fun e w' => e = .returned (.tuple #[.bool s.co, .bool (s.ou || s.fa)]) ∧ Below w.heap.size w w' := by
  have c3 : w.cell? ⟨g, 3, none⟩ = some (.bool s.co) := h.cell 3
  have c5 : w.cell? ⟨g, 5, none⟩ = some (.bool s.ou) := h.cell 5
  have c6 : w.cell? ⟨g, 6, none⟩ = some (.bool s.fa) := h.cell 6
  clear h
  obtain ⟨ag, mo, wa, co, si, ou, fa, bu, wt, fd⟩ := s
  simp only at c3 c5 c6 ⊢
  cases ou
  all_goals
    go_enter Try.func20, Try.ntmps20
    go_wp2_with fail
    go_quiet (fail)
    go_wp2_with fail
    go_ret2
    exact ⟨rfl, Below.drewN' (Below.refl _ _) _⟩
end Go.Proofs.Ytbcalbkficbppaa
