/- The flow control: Sends, New, T.Of, sends, perform. -/
import Derived.Test.YtbcalbkficbppaaFlow3
namespace Go.Proofs.Ytbcalbkficbppaa
open Go.RowKit

theorem of_any (x y z : Int) (w : World) (hx : 0 ≤ x ∧ x ≤ 255) (hy : 0 ≤ y ∧ y ≤ 255) (hz : 0 ≤ z ∧ z ≤ 255) :
    Calls Try.prog 10 #[.agg #[.int .u8 x, .int .u8 y, .int .u8 z]] w fun e w' => e = .returned (.agg #[.int .i64 (1 + x % 20), .int .i64 (1 + y % 20), .int .i64 (1 + z % 20)]) ∧ Below w.heap.size w w' := by
  go_enter Try.func10, Try.ntmps10
  go_wp2_with fail
  have hb1 := ((Below.refl _ w).alloc (Nat.le_refl _) (.cells #[.int .u8 x, .int .u8 y, .int .u8 z] 23)).alloc (by simp) (.cells #[.int .i64 (1 + x % 20), .int .i64 (1 + y % 20), .int .i64 (1 + z % 20)] 25)
  have hl := Lit0.new (w.alloc (.cells #[.int .u8 x, .int .u8 y, .int .u8 z] 23)) 25 #[.int .i64 (1 + x % 20), .int .i64 (1 + y % 20), .int .i64 (1 + z % 20)]
  simp only [World.size_alloc] at hl
  have q0 := hl.cell 0
  have q1 := hl.cell 1
  have q2 := hl.cell 2
  simp only [List.getElem?_toArray, List.getElem?_cons_zero, List.getElem?_cons_succ] at q0 q1 q2
  refine bodyPost_ret (v := .agg #[.int .i64 (1 + x % 20), .int .i64 (1 + y % 20), .int .i64 (1 + z % 20)]) (by simp [results, Try.results10, go_sem, q0, q1, q2]) rfl ⟨rfl, hb1⟩

/-- Are durations valid? -/
def okT (a b c : Int) : Bool := (decide (1 ≤ a) && decide (a ≤ 1048576)) && ((decide (1 ≤ b) && decide (b ≤ 1048576)) && (decide (1 ≤ c) && decide (c ≤ 1048576)))

theorem ok_start {a b c : Int} (h : okT a b c = true) : (Fs.start a b c).ok := by
  unfold okT at h
  simp at h
  unfold Fs.ok Fs.start
  simp only
  omega

/-- What New leaves. -/
def RetNew (w : World) (a b c : Int) (e : Ending) (w' : World) : Prop :=
  (okT a b c = false ∧ e = .returned (.tuple #[.pointer none, .int .i64 1]) ∧ Below w.heap.size w w') ∨
  (okT a b c = true ∧ ∃ g, e = .returned (.tuple #[.pointer (some ⟨g, 0, none⟩), .int .i64 0]) ∧ w.heap.size ≤ g ∧ Fl w' g (Fs.start a b c) ∧ Below w.heap.size w w')

theorem new_any (a b c : Int) (w : World) : Calls Try.prog 11 #[.agg #[.int .i64 a, .int .i64 b, .int .i64 c]] w (RetNew w a b c) := by
  have hb0 := (Below.refl _ w).alloc (Nat.le_refl _) (.cells #[.int .i64 a, .int .i64 b, .int .i64 c] 25)
  obtain ⟨x, hx⟩ : ∃ x, x = (decide (1 ≤ a) && decide (a ≤ 1048576)) := ⟨_, rfl⟩
  obtain ⟨y, hy⟩ : ∃ y, y = (decide (1 ≤ b) && decide (b ≤ 1048576)) := ⟨_, rfl⟩
  obtain ⟨z, hz⟩ : ∃ z, z = (decide (1 ≤ c) && decide (c ≤ 1048576)) := ⟨_, rfl⟩
  have va := fun w => valid_any a w
  have vb := fun w => valid_any b w
  have vc := fun w => valid_any c w
  rw [← hx] at va
  rw [← hy] at vb
  rw [← hz] at vc
  have ho : okT a b c = (x && (y && z)) := by unfold okT; rw [hx, hy, hz]
  have VA := Lib.hid va
  have VB := Lib.hid vb
  have VC := Lib.hid vc
  have HO := Lib.hid ho
  have HB0 := Lib.hid hb0
  clear va vb vc ho hx hy hz hb0
  cases x
  · go_enter Try.func11, Try.ntmps11
    go_wp2_with fail
    refine (VA.out _).mono ?_
    rintro e w1 ⟨rfl, rfl⟩
    go_wp2_with fail
    go_ret2
    exact .inl ⟨by rw [HO.out]; rfl, rfl, HB0.out⟩
  · cases y
    · go_enter Try.func11, Try.ntmps11
      go_wp2_with fail
      refine (VA.out _).mono ?_
      rintro e w1 ⟨rfl, rfl⟩
      go_wp2_with fail
      refine (VB.out _).mono ?_
      rintro e w1 ⟨rfl, rfl⟩
      go_wp2_with fail
      go_ret2
      exact .inl ⟨by rw [HO.out]; rfl, rfl, HB0.out⟩
    · cases z
      · go_enter Try.func11, Try.ntmps11
        go_wp2_with fail
        refine (VA.out _).mono ?_
        rintro e w1 ⟨rfl, rfl⟩
        go_wp2_with fail
        refine (VB.out _).mono ?_
        rintro e w1 ⟨rfl, rfl⟩
        go_wp2_with fail
        refine (VC.out _).mono ?_
        rintro e w1 ⟨rfl, rfl⟩
        go_wp2_with fail
        go_ret2
        exact .inl ⟨by rw [HO.out]; rfl, rfl, HB0.out⟩
      · go_enter Try.func11, Try.ntmps11
        go_wp2_with fail
        refine (VA.out _).mono ?_
        rintro e w1 ⟨rfl, rfl⟩
        go_wp2_with fail
        refine (VB.out _).mono ?_
        rintro e w1 ⟨rfl, rfl⟩
        go_wp2_with fail
        refine (VC.out _).mono ?_
        rintro e w1 ⟨rfl, rfl⟩
        go_wp2_with fail
        have hm := Lit0.new (w.alloc (.cells #[.int .i64 a, .int .i64 b, .int .i64 c] 25)) 62 (Fs.start a b c).cells
        simp only [World.size_alloc] at hm
        go_ret2
        exact .inr ⟨by rw [HO.out]; rfl, w.heap.size + 1, rfl, by omega, hm, HB0.out.alloc HB0.out.size _⟩

/-- What Sends answers with, as a value. -/
def Fs.told (s : Fs) : Value := .tuple #[.int .u8 s.sends.1, .bool s.sends.2]

theorem sends_nil (w : World) : Calls Try.prog 18 #[.pointer none] w fun e w' => e = .returned (.tuple #[.int .u8 0, .bool false]) ∧ w = w' := by
  go_enter Try.func18, Try.ntmps18
  go_wp2_with fail
  refine (state_nil w).mono ?_
  rintro e w1 ⟨rfl, rfl⟩
  go_wp2_with fail
  go_ret2
  exact ⟨rfl, rfl⟩

theorem sends_zero (g : Nat) (w : World) (h : Fl w g (Fs.start 0 0 0)) : Calls Try.prog 18 #[.pointer (some ⟨g, 0, none⟩)] w fun e w' => e = .returned (.tuple #[.int .u8 0, .bool false]) ∧ w = w' := by
  have HST := Lib.hid (state_zero g w h)
  clear h
  go_enter Try.func18, Try.ntmps18
  go_wp2_with fail
  refine HST.out.mono ?_
  rintro e w1 ⟨rfl, rfl⟩
  go_wp2_with fail
  go_ret2
  exact ⟨rfl, rfl⟩

theorem sends_any (g : Nat) (s : Fs) (w : World) (h : Fl w g s) (hag : 1 ≤ s.ag) : Calls Try.prog 18 #[.pointer (some ⟨g, 0, none⟩)] w fun e w' => e = .returned s.told ∧ w = w' := by
  have hst := state_any g s w h hag
  obtain ⟨ag, mo, wa, co, si, ou, fa, bu, wt, fd⟩ := s
  have c3 : w.cell? ⟨g, 3, none⟩ = some (.bool co) := h.cell 3
  have c4 : w.cell? ⟨g, 4, none⟩ = some (.int .i64 si) := h.cell 4
  have c5 : w.cell? ⟨g, 5, none⟩ = some (.bool ou) := h.cell 5
  have HST := Lib.hid hst
  clear h hst hag
  cases fd
  · cases ou
    · cases co
      · go_enter Try.func18, Try.ntmps18
        go_wp2_with fail
        refine HST.out.mono ?_
        rintro e w1 ⟨rfl, rfl⟩
        go_wp2_with fail
        go_ret2
        exact ⟨rfl, rfl⟩
      · by_cases hsi : si = 0
        · subst hsi
          go_enter Try.func18, Try.ntmps18
          go_wp2_with fail
          refine HST.out.mono ?_
          rintro e w1 ⟨rfl, rfl⟩
          go_wp2_with fail
          go_ret2
          exact ⟨rfl, rfl⟩
        · have d0 : (si == 0) = false := by simpa using hsi
          have ht : Fs.told ⟨ag, mo, wa, true, si, false, fa, bu, wt, false⟩ = .tuple #[.int .u8 0, .bool false] := by simp [Fs.told, Fs.sends, hsi]
          rw [ht]
          clear ht
          go_enter Try.func18, Try.ntmps18
          go_wp2_with fail
          refine HST.out.mono ?_
          rintro e w1 ⟨rfl, rfl⟩
          go_wp2_with fail
          go_ret2
          exact ⟨rfl, rfl⟩
    · go_enter Try.func18, Try.ntmps18
      go_wp2_with fail
      refine HST.out.mono ?_
      rintro e w1 ⟨rfl, rfl⟩
      go_wp2_with fail
      go_ret2
      exact ⟨rfl, rfl⟩
  · go_enter Try.func18, Try.ntmps18
    go_wp2_with fail
    refine HST.out.mono ?_
    rintro e w1 ⟨rfl, rfl⟩
    go_wp2_with fail
    go_ret2
    exact ⟨rfl, rfl⟩

/-- The status that is sent, or 9. -/
def Fs.says (s : Fs) : Int := if s.sends.2 then s.sends.1 else 9

theorem says_step (P : Value) (a : Int) (is : Bool) (w : World) (hc : Calls Try.prog 18 #[P] w fun e w' => e = .returned (.tuple #[.int .u8 a, .bool is]) ∧ w = w') (h : is = true ∨ a = 0) :
    Calls Try.prog 13 #[P] w fun e w' => e = .returned (.int .u8 (if is then a else 9)) ∧ w = w' := by
  have HC := Lib.hid hc
  clear hc
  cases is
  · obtain rfl : a = 0 := by simpa using h
    go_enter Try.func13, Try.ntmps13
    go_wp2_with fail
    refine HC.out.mono ?_
    rintro e w1 ⟨rfl, rfl⟩
    go_wp2_with fail
    go_ret
    exact ⟨rfl, rfl⟩
  · go_enter Try.func13, Try.ntmps13
    go_wp2_with fail
    refine HC.out.mono ?_
    rintro e w1 ⟨rfl, rfl⟩
    go_wp2_with fail
    go_ret
    exact ⟨rfl, rfl⟩

theorem says_nil (w : World) : Calls Try.prog 13 #[.pointer none] w fun e w' => e = .returned (.int .u8 9) ∧ w = w' := says_step _ 0 false w (sends_nil w) (.inr rfl)
theorem says_zero (g : Nat) (w : World) (h : Fl w g (Fs.start 0 0 0)) : Calls Try.prog 13 #[.pointer (some ⟨g, 0, none⟩)] w fun e w' => e = .returned (.int .u8 9) ∧ w = w' := says_step _ 0 false w (sends_zero g w h) (.inr rfl)
theorem says_any (g : Nat) (s : Fs) (w : World) (h : Fl w g s) (hag : 1 ≤ s.ag) : Calls Try.prog 13 #[.pointer (some ⟨g, 0, none⟩)] w fun e w' => e = .returned (.int .u8 s.says) ∧ w = w' :=
  says_step _ s.sends.1 s.sends.2 w (sends_any g s w h hag) (by
    unfold Fs.sends
    repeat' split
    all_goals simp)

/-- An act on a flow control. -/
def Fs.perform (s : Fs) (a : Int) : Fs :=
  if a < 2 then s.congest (a == 1) else if a < 4 then s.outage (a == 3) else if a < 8 then s.open_ (a % 2 == 1) (decide (6 ≤ a)) else if a = 8 then s.tick else if a = 9 then s.hear 200 false else s.hear (a - 10) true
def performE (a : Int) : Int := if a ≤ 9 then 0 else if 15 < a then 1 else 0

/-- A method's error, and what it leaves. -/
def RetInt (R : Int → World → Prop) (e : Ending) (w' : World) : Prop := ∃ n, e = .returned (.int .i64 n) ∧ R n w'
theorem RetInt.of_step {w : World} {g : Nat} {n : Int} {s : Fs} {e : Ending} {w' : World} (h : RetStep w g n s e w') : RetInt (fun m w' => m = n ∧ Fl w' g s ∧ w.grownBy w' (some g)) e w' := ⟨n, h.1, rfl, h.2⟩
theorem RetInt.to_step {w : World} {g : Nat} {n : Int} {s : Fs} {e : Ending} {w' : World} (h : RetInt (fun m w' => m = n ∧ Fl w' g s ∧ w.grownBy w' (some g)) e w') : RetStep w g n s e w' := by
  obtain ⟨m, h1, rfl, h2⟩ := h
  exact ⟨h1, h2⟩

theorem perform_congest (P : Value) (a : Int) (w : World) (R : Int → World → Prop) (h : a < 2) (hc : Calls Try.prog 12 #[P, .bool (a == 1)] w (RetInt R)) : Calls Try.prog 24 #[P, .int .u8 a] w (RetInt R) := by
  have HC := Lib.hid hc
  clear hc
  have d2 : decide (a < 2) = true := by simpa using h
  go_enter Try.func24, Try.ntmps24
  go_wp2_with fail
  refine HC.out.mono ?_
  rintro e w1 ⟨n, rfl, hr⟩
  have HR := Lib.hid hr
  clear hr
  go_wp2_with fail
  go_ret
  exact ⟨n, rfl, HR.out⟩

theorem perform_outage (P : Value) (a : Int) (w : World) (R : Int → World → Prop) (ha : 0 ≤ a ∧ a ≤ 255) (h : ¬ a < 2 ∧ a < 4) (hc : Calls Try.prog 27 #[P, .bool (a == 3)] w (RetInt R)) : Calls Try.prog 24 #[P, .int .u8 a] w (RetInt R) := by
  have HC := Lib.hid hc
  clear hc
  have d2 : decide (a < 2) = false := by simp; omega
  have d4 : decide (a < 4) = true := by simp; omega
  go_enter Try.func24, Try.ntmps24
  go_wp2_with fail
  refine HC.out.mono ?_
  rintro e w1 ⟨n, rfl, hr⟩
  have HR := Lib.hid hr
  clear hr
  go_wp2_with fail
  go_ret
  exact ⟨n, rfl, HR.out⟩

theorem perform_open (P : Value) (a : Int) (w : World) (R : Int → World → Prop) (ha : 0 ≤ a ∧ a ≤ 255) (h : ¬ a < 4 ∧ a < 8) (hc : Calls Try.prog 17 #[P, .bool (a % 2 == 1), .bool (decide (6 ≤ a))] w (RetInt R)) : Calls Try.prog 24 #[P, .int .u8 a] w (RetInt R) := by
  have HC := Lib.hid hc
  clear hc
  have d2 : decide (a < 2) = false := by simp; omega
  have d4 : decide (a < 4) = false := by simp; omega
  have d8 : decide (a < 8) = true := by simp; omega
  go_enter Try.func24, Try.ntmps24
  go_wp2_with fail
  refine HC.out.mono ?_
  rintro e w1 ⟨n, rfl, hr⟩
  have HR := Lib.hid hr
  clear hr
  go_wp2_with fail
  go_ret
  exact ⟨n, rfl, HR.out⟩

theorem perform_tick (P : Value) (a : Int) (w : World) (R : Int → World → Prop) (h : a = 8) (hc : Calls Try.prog 14 #[P] w (RetInt R)) : Calls Try.prog 24 #[P, .int .u8 a] w (RetInt R) := by
  have HC := Lib.hid hc
  clear hc
  subst h
  go_enter Try.func24, Try.ntmps24
  go_wp2_with fail
  refine HC.out.mono ?_
  rintro e w1 ⟨n, rfl, hr⟩
  have HR := Lib.hid hr
  clear hr
  go_wp2_with fail
  go_ret
  exact ⟨n, rfl, HR.out⟩

theorem perform_unit (P : Value) (a : Int) (w : World) (R : Int → World → Prop) (h : a = 9) (hc : Calls Try.prog 19 #[P, .int .u8 200, .bool false] w (RetInt R)) : Calls Try.prog 24 #[P, .int .u8 a] w (RetInt R) := by
  have HC := Lib.hid hc
  clear hc
  subst h
  go_enter Try.func24, Try.ntmps24
  go_wp2_with fail
  refine HC.out.mono ?_
  rintro e w1 ⟨n, rfl, hr⟩
  have HR := Lib.hid hr
  clear hr
  go_wp2_with fail
  go_ret
  exact ⟨n, rfl, HR.out⟩

theorem perform_hear (P : Value) (a : Int) (w : World) (R : Int → World → Prop) (h : 9 < a ∧ a ≤ 255) (hc : Calls Try.prog 19 #[P, .int .u8 (a - 10), .bool true] w (RetInt R)) : Calls Try.prog 24 #[P, .int .u8 a] w (RetInt R) := by
  have HC := Lib.hid hc
  clear hc
  have d2 : decide (a < 2) = false := by simp; omega
  have d4 : decide (a < 4) = false := by simp; omega
  have d8 : decide (a < 8) = false := by simp; omega
  have x8 : (a == 8) = false := by rw [beq_eq_false_iff_ne]; omega
  have x9 : (a == 9) = false := by rw [beq_eq_false_iff_ne]; omega
  go_enter Try.func24, Try.ntmps24
  go_wp2_with fail
  refine HC.out.mono ?_
  rintro e w1 ⟨n, rfl, hr⟩
  have HR := Lib.hid hr
  clear hr
  go_wp2_with fail
  go_ret
  exact ⟨n, rfl, HR.out⟩

theorem perform_any (g : Nat) (s : Fs) (a : Int) (w : World) (h : Fl w g s) (hok : s.ok) (ha : 0 ≤ a ∧ a ≤ 255) :
    Calls Try.prog 24 #[.pointer (some ⟨g, 0, none⟩), .int .u8 a] w (RetStep w g (if s.fd then 6 else performE a) (if s.fd then s else s.perform a)) := by
  refine Calls.mono ?_ (fun e w' => RetInt.to_step)
  by_cases h2 : a < 2
  · have hp : s.perform a = s.congest (a == 1) := by unfold Fs.perform; rw [if_pos h2]
    have he : performE a = 0 := by unfold performE; rw [if_pos (by omega)]
    rw [hp, he]
    exact perform_congest _ a w _ h2 ((congest_any g s (a == 1) w h hok).mono fun e w' => RetInt.of_step)
  by_cases h4 : a < 4
  · have hp : s.perform a = s.outage (a == 3) := by unfold Fs.perform; rw [if_neg h2, if_pos h4]
    have he : performE a = 0 := by unfold performE; rw [if_pos (by omega)]
    rw [hp, he]
    exact perform_outage _ a w _ ha ⟨h2, h4⟩ ((outage_any g s (a == 3) w h hok).mono fun e w' => RetInt.of_step)
  by_cases h8 : a < 8
  · have hp : s.perform a = s.open_ (a % 2 == 1) (decide (6 ≤ a)) := by unfold Fs.perform; rw [if_neg h2, if_neg h4, if_pos h8]
    have he : performE a = 0 := by unfold performE; rw [if_pos (by omega)]
    rw [hp, he]
    exact perform_open _ a w _ ha ⟨h4, h8⟩ ((open_any g s (a % 2 == 1) (decide (6 ≤ a)) w h hok).mono fun e w' => RetInt.of_step)
  by_cases e8 : a = 8
  · have hp : s.perform a = s.tick := by subst e8; rfl
    have he : performE a = 0 := by subst e8; rfl
    rw [hp, he]
    exact perform_tick _ a w _ e8 ((tick_any g s w h hok).mono fun e w' => RetInt.of_step)
  by_cases e9 : a = 9
  · have hp : s.perform a = s.hear 200 false := by subst e9; rfl
    have he : performE a = 0 := by subst e9; rfl
    rw [hp, he]
    exact perform_unit _ a w _ e9 ((hear_any g s 200 false w h hok (by decide)).mono fun e w' => RetInt.of_step)
  have hp : s.perform a = s.hear (a - 10) true := by unfold Fs.perform; rw [if_neg h2, if_neg h4, if_neg h8, if_neg e8, if_neg e9]
  have he : performE a = Fs.hearE (a - 10) true := by
    unfold performE Fs.hearE
    rw [if_neg (by omega)]
    by_cases h15 : 15 < a
    · rw [if_pos h15, if_pos (by simp; omega)]
    · rw [if_neg h15, if_neg (by simp; omega)]
  rw [hp, he]
  exact perform_hear _ a w _ (by omega) ((hear_any g s (a - 10) true w h hok (by omega)).mono fun e w' => RetInt.of_step)
end Go.Proofs.Ytbcalbkficbppaa
