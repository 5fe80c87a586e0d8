/- The level of a queue: level and Level. -/
import Derived.Test.YtbcalbkficbppaaMarks
namespace Go.Proofs.Ytbcalbkficbppaa
open Go.RowKit

/-- How many of three marks fulfil a condition. -/
def cnt3 (p : Int → Bool) (a b c : Int) : Int := (if p a then 1 else 0) + (if p b then 1 else 0) + (if p c then 1 else 0)
theorem cnt3_le (p : Int → Bool) (a b c : Int) : 0 ≤ cnt3 p a b c ∧ cnt3 p a b c ≤ 3 := by unfold cnt3; split <;> split <;> split <;> omega

/-- .. of the first k marks. -/
def cntTo (p : Int → Bool) (a b c : Int) (k : Int) : Int := (if 1 ≤ k ∧ p a then 1 else 0) + (if 2 ≤ k ∧ p b then 1 else 0) + (if 3 ≤ k ∧ p c then 1 else 0)
theorem cntTo_le (p : Int → Bool) (a b c k : Int) : 0 ≤ cntTo p a b c k ∧ cntTo p a b c k ≤ 3 := by unfold cntTo; split <;> split <;> split <;> omega

theorem cntTo_1 (p : Int → Bool) (a b c : Int) : cntTo p a b c 1 = cntTo p a b c 0 + (if p a then 1 else 0) := by
  unfold cntTo
  cases p a <;> cases p b <;> cases p c <;> rfl
theorem cntTo_2 (p : Int → Bool) (a b c : Int) : cntTo p a b c 2 = cntTo p a b c 1 + (if p b then 1 else 0) := by
  unfold cntTo
  cases p a <;> cases p b <;> cases p c <;> rfl
theorem cntTo_3 (p : Int → Bool) (a b c : Int) : cntTo p a b c 3 = cntTo p a b c 2 + (if p c then 1 else 0) := by
  unfold cntTo
  cases p a <;> cases p b <;> cases p c <;> rfl

/-- The lowest and the highest level that a length allows; the level. -/
def lowOf (b0 b1 b2 l : Int) : Int := cnt3 (fun x => decide (x ≤ l)) b0 b1 b2
def highOf (e0 e1 e2 l : Int) : Int := cnt3 (fun x => decide (x < l)) e0 e1 e2
def levelOf (b0 b1 b2 e0 e1 e2 last l : Int) : Int := max (lowOf b0 b1 b2 l) (min last (highOf e0 e1 e2 l))

theorem levelOf_range (b0 b1 b2 e0 e1 e2 last l : Int) : 0 ≤ levelOf b0 b1 b2 e0 e1 e2 last l ∧ levelOf b0 b1 b2 e0 e1 e2 last l ≤ 3 := by
  have h1 := cnt3_le (fun x => decide (x ≤ l)) b0 b1 b2
  have h2 := cnt3_le (fun x => decide (x < l)) e0 e1 e2
  unfold levelOf lowOf highOf
  omega

set_option maxRecDepth 100000 in
set_option maxHeartbeats 2000000 in
theorem level_any (b0 b1 b2 e0 e1 e2 last l : Int) (w : World) : Calls Try.prog 34 #[.agg #[.int .i64 b0, .int .i64 b1, .int .i64 b2, .int .i64 e0, .int .i64 e1, .int .i64 e2], .int .i64 last, .int .i64 l] w fun e w' => e = .returned (.int .i64 (levelOf b0 b1 b2 e0 e1 e2 last l)) ∧ Below w.heap.size w w' := by
  have hb0 := (Below.refl _ w).alloc (Nat.le_refl _) (.cells #[.int .i64 b0, .int .i64 b1, .int .i64 b2, .int .i64 e0, .int .i64 e1, .int .i64 e2] 45)
  have HL := Lit0.new w 45 #[.int .i64 b0, .int .i64 b1, .int .i64 b2, .int .i64 e0, .int .i64 e1, .int .i64 e2]
  have HB0 := Lib.hid hb0
  have c0 := HL.cell 0
  have c1 := HL.cell 1
  have c2 := HL.cell 2
  have c3 := HL.cell 3
  have c4 := HL.cell 4
  have c5 := HL.cell 5
  simp only [List.getElem?_toArray, List.getElem?_cons_zero, List.getElem?_cons_succ] at c0 c1 c2 c3 c4 c5
  obtain ⟨P, hP⟩ : ∃ P : Int → Bool, ∀ m, P m = decide (m ≤ l) := ⟨_, fun _ => rfl⟩
  obtain ⟨Q, hQ⟩ : ∃ Q : Int → Bool, ∀ m, Q m = decide (m < l) := ⟨_, fun _ => rfl⟩
  have HPP := Lib.hid (show P = fun m => decide (m ≤ l) from funext hP)
  have HQQ := Lib.hid (show Q = fun m => decide (m < l) from funext hQ)
  have HP := Lib.hid hP
  have HQ := Lib.hid hQ
  clear hP hQ hb0 HL
  go_enter Try.func34, Try.ntmps34
  go_wp2_with fail
  generalize w.alloc (.cells #[.int .i64 b0, .int .i64 b1, .int .i64 b2, .int .i64 e0, .int .i64 e1, .int .i64 e2] 45) = w1 at HB0 c0 c1 c2 c3 c4 c5 ⊢
  go_loopw [7, 8, 10] (fun v7 v8 v10 wr => ∃ k : Int, (k = 0 ∨ k = 1 ∨ k = 2 ∨ k = 3) ∧ w1 = wr ∧ v10 = .int .i64 k ∧ v7 = .int .i64 (cntTo P b0 b1 b2 k) ∧ v8 = .int .i64 (cntTo Q e0 e1 e2 k)) (fun _ _ v _ => 3 - (intOf v).toNat)
  case atStart => exact ⟨0, .inl rfl, rfl, rfl, by simp [cntTo], by simp [cntTo]⟩
  case round =>
    obtain ⟨k, hk, rfl, rfl, rfl, rfl⟩ := hrel
    rcases hk with rfl | rfl | rfl | rfl
    · have e1' := cntTo_1 P b0 b1 b2
      have e2' := cntTo_1 Q e0 e1 e2
      cases hp : P b0 <;> cases hq : Q e0
      all_goals
        rw [hp] at e1'
        rw [hq] at e2'
        have dp := (HP.out b0).symm.trans hp
        have dq := (HQ.out e0).symm.trans hq
        have E1 := Lib.hid e1'
        have E2 := Lib.hid e2'
        have BP := Lib.hid (cntTo_le P b0 b1 b2 0)
        have BQ := Lib.hid (cntTo_le Q e0 e1 e2 0)
        obtain ⟨t, ht⟩ : ∃ t, t = cntTo P b0 b1 b2 0 := ⟨_, rfl⟩
        obtain ⟨u, hu⟩ : ∃ u, u = cntTo Q e0 e1 e2 0 := ⟨_, rfl⟩
        have bt : 0 ≤ t ∧ t ≤ 3 := by rw [ht]; exact BP.out
        have bu : 0 ≤ u ∧ u ≤ 3 := by rw [hu]; exact BQ.out
        rw [← ht] at E1 ⊢
        rw [← hu] at E2 ⊢
        clear e1' e2' ht hu hp hq
        go_wp2_with fail
        go_roundw
        case rel => exact ⟨1, by omega, by trivial, rfl, by rw [E1.out]; simp, by rw [E2.out]; simp⟩
        case measure => simp [intOf]
    · have e1' := cntTo_2 P b0 b1 b2
      have e2' := cntTo_2 Q e0 e1 e2
      cases hp : P b1 <;> cases hq : Q e1
      all_goals
        rw [hp] at e1'
        rw [hq] at e2'
        have dp := (HP.out b1).symm.trans hp
        have dq := (HQ.out e1).symm.trans hq
        have E1 := Lib.hid e1'
        have E2 := Lib.hid e2'
        have BP := Lib.hid (cntTo_le P b0 b1 b2 1)
        have BQ := Lib.hid (cntTo_le Q e0 e1 e2 1)
        obtain ⟨t, ht⟩ : ∃ t, t = cntTo P b0 b1 b2 1 := ⟨_, rfl⟩
        obtain ⟨u, hu⟩ : ∃ u, u = cntTo Q e0 e1 e2 1 := ⟨_, rfl⟩
        have bt : 0 ≤ t ∧ t ≤ 3 := by rw [ht]; exact BP.out
        have bu : 0 ≤ u ∧ u ≤ 3 := by rw [hu]; exact BQ.out
        rw [← ht] at E1 ⊢
        rw [← hu] at E2 ⊢
        clear e1' e2' ht hu hp hq
        go_wp2_with fail
        go_roundw
        case rel => exact ⟨2, by omega, by trivial, rfl, by rw [E1.out]; simp, by rw [E2.out]; simp⟩
        case measure => simp [intOf]
    · have e1' := cntTo_3 P b0 b1 b2
      have e2' := cntTo_3 Q e0 e1 e2
      cases hp : P b2 <;> cases hq : Q e2
      all_goals
        rw [hp] at e1'
        rw [hq] at e2'
        have dp := (HP.out b2).symm.trans hp
        have dq := (HQ.out e2).symm.trans hq
        have E1 := Lib.hid e1'
        have E2 := Lib.hid e2'
        have BP := Lib.hid (cntTo_le P b0 b1 b2 2)
        have BQ := Lib.hid (cntTo_le Q e0 e1 e2 2)
        obtain ⟨t, ht⟩ : ∃ t, t = cntTo P b0 b1 b2 2 := ⟨_, rfl⟩
        obtain ⟨u, hu⟩ : ∃ u, u = cntTo Q e0 e1 e2 2 := ⟨_, rfl⟩
        have bt : 0 ≤ t ∧ t ≤ 3 := by rw [ht]; exact BP.out
        have bu : 0 ≤ u ∧ u ≤ 3 := by rw [hu]; exact BQ.out
        rw [← ht] at E1 ⊢
        rw [← hu] at E2 ⊢
        clear e1' e2' ht hu hp hq
        go_wp2_with fail
        go_roundw
        case rel => exact ⟨3, by omega, by trivial, rfl, by rw [E1.out]; simp, by rw [E2.out]; simp⟩
        case measure => simp [intOf]
    · have hR : cntTo P b0 b1 b2 3 = lowOf b0 b1 b2 l := by rw [HPP.out]; unfold cntTo lowOf cnt3; simp
      have hK : cntTo Q e0 e1 e2 3 = highOf e0 e1 e2 l := by rw [HQQ.out]; unfold cntTo highOf cnt3; simp
      have hv : levelOf b0 b1 b2 e0 e1 e2 last l = max (cntTo P b0 b1 b2 3) (min last (cntTo Q e0 e1 e2 3)) := by rw [hR, hK]; rfl
      generalize cntTo P b0 b1 b2 3 = R at hv ⊢
      generalize cntTo Q e0 e1 e2 3 = K at hv ⊢
      have HV := Lib.hid hv
      clear hR hK hv
      by_cases x1 : last < K
      · by_cases x2 : R < last
        · go_wp2_with fail
          all_goals
            go_ret
            exact ⟨congrArg (fun x => Ending.returned (.int .i64 x)) (by rw [HV.out]; omega), HB0.out⟩
        · go_wp2_with fail
          all_goals
            go_ret
            exact ⟨congrArg (fun x => Ending.returned (.int .i64 x)) (by rw [HV.out]; omega), HB0.out⟩
      · by_cases x2 : R < K
        · go_wp2_with fail
          all_goals
            go_ret
            exact ⟨congrArg (fun x => Ending.returned (.int .i64 x)) (by rw [HV.out]; omega), HB0.out⟩
        · go_wp2_with fail
          all_goals
            go_ret
            exact ⟨congrArg (fun x => Ending.returned (.int .i64 x)) (by rw [HV.out]; omega), HB0.out⟩

/-- Does Level answer without an error? -/
def levelOk (b0 b1 b2 e0 e1 e2 last l : Int) : Bool := rightOf b0 b1 b2 e0 e1 e2 && (decide (0 ≤ last) && (decide (last ≤ 3) && decide (0 ≤ l)))

def RetLevel (w : World) (b0 b1 b2 e0 e1 e2 last l : Int) (e : Ending) (w' : World) : Prop :=
  (levelOk b0 b1 b2 e0 e1 e2 last l = false ∧ e = .returned (.tuple #[.int .i64 0, .int .i64 1]) ∧ Below w.heap.size w w') ∨
  (levelOk b0 b1 b2 e0 e1 e2 last l = true ∧ e = .returned (.tuple #[.int .i64 (levelOf b0 b1 b2 e0 e1 e2 last l), .int .i64 0]) ∧ Below w.heap.size w w')

theorem Level_any (b0 b1 b2 e0 e1 e2 last l : Int) (w : World) : Calls Try.prog 21 #[.agg #[.int .i64 b0, .int .i64 b1, .int .i64 b2, .int .i64 e0, .int .i64 e1, .int .i64 e2], .int .i64 last, .int .i64 l] w (RetLevel w b0 b1 b2 e0 e1 e2 last l) := by
  have hb0 := (Below.refl _ w).alloc (Nat.le_refl _) (.cells #[.int .i64 b0, .int .i64 b1, .int .i64 b2, .int .i64 e0, .int .i64 e1, .int .i64 e2] 45)
  have HL := Lib.hid (Lit0.new w 45 #[.int .i64 b0, .int .i64 b1, .int .i64 b2, .int .i64 e0, .int .i64 e1, .int .i64 e2])
  have HB0 := Lib.hid hb0
  have hr := fun w => right_any b0 b1 b2 e0 e1 e2 w
  obtain ⟨r, hrr⟩ : ∃ r, r = rightOf b0 b1 b2 e0 e1 e2 := ⟨_, rfl⟩
  rw [← hrr] at hr
  have hok : levelOk b0 b1 b2 e0 e1 e2 last l = (r && (decide (0 ≤ last) && (decide (last ≤ 3) && decide (0 ≤ l)))) := by rw [hrr]; rfl
  have HR := Lib.hid hr
  have HOK := Lib.hid hok
  have hlev := fun w => level_any b0 b1 b2 e0 e1 e2 last l w
  obtain ⟨v, hv⟩ : ∃ v, v = levelOf b0 b1 b2 e0 e1 e2 last l := ⟨_, rfl⟩
  rw [← hv] at hlev
  have HV := Lib.hid hv
  have HLEV := Lib.hid hlev
  clear hr hrr hok hb0 hv hlev
  cases r
  · go_enter Try.func21, Try.ntmps21
    go_wp2_with fail
    refine (HR.out _).mono ?_
    rintro e w1 ⟨rfl, hb1⟩
    go_wp2_with fail
    go_ret2
    exact .inl ⟨by rw [HOK.out]; rfl, rfl, HB0.out.trans (hb1.mono HB0.out.size)⟩
  · by_cases h1 : last < 0
    · have d1 : decide (last < 0) = true := by simpa using h1
      go_enter Try.func21, Try.ntmps21
      go_wp2_with fail
      refine (HR.out _).mono ?_
      rintro e w1 ⟨rfl, hb1⟩
      go_wp2_with fail
      go_ret2
      exact .inl ⟨by rw [HOK.out]; simp; omega, rfl, HB0.out.trans (hb1.mono HB0.out.size)⟩
    have d1 : decide (last < 0) = false := by simpa using h1
    by_cases h2 : 3 < last
    · have d2 : decide (3 < last) = true := by simpa using h2
      go_enter Try.func21, Try.ntmps21
      go_wp2_with fail
      refine (HR.out _).mono ?_
      rintro e w1 ⟨rfl, hb1⟩
      go_wp2_with fail
      go_ret2
      exact .inl ⟨by rw [HOK.out]; simp; omega, rfl, HB0.out.trans (hb1.mono HB0.out.size)⟩
    have d2 : decide (3 < last) = false := by simpa using h2
    by_cases h3 : l < 0
    · have d3 : decide (l < 0) = true := by simpa using h3
      go_enter Try.func21, Try.ntmps21
      go_wp2_with fail
      refine (HR.out _).mono ?_
      rintro e w1 ⟨rfl, hb1⟩
      go_wp2_with fail
      go_ret2
      exact .inl ⟨by rw [HOK.out]; simp; omega, rfl, HB0.out.trans (hb1.mono HB0.out.size)⟩
    have d3 : decide (l < 0) = false := by simpa using h3
    have hfin : levelOk b0 b1 b2 e0 e1 e2 last l = true := by rw [HOK.out]; simp; omega
    have HFIN := Lib.hid hfin
    clear hfin
    go_enter Try.func21, Try.ntmps21
    go_wp2_with fail
    refine (HR.out _).mono ?_
    rintro e w1 ⟨rfl, hb1⟩
    have HB1 := Lib.hid (HB0.out.trans (hb1.mono HB0.out.size))
    have HL1 := HL.out.kept hb1
    have c0 := HL1.cell 0
    have c1 := HL1.cell 1
    have c2 := HL1.cell 2
    have c3 := HL1.cell 3
    have c4 := HL1.cell 4
    have c5 := HL1.cell 5
    simp only [List.getElem?_toArray, List.getElem?_cons_zero, List.getElem?_cons_succ] at c0 c1 c2 c3 c4 c5
    clear hb1 HL1
    go_wp2_with fail
    refine (HLEV.out _).mono ?_
    rintro e w2 ⟨rfl, hb2⟩
    have HB2 := Lib.hid (HB1.out.trans (hb2.mono HB1.out.size))
    clear hb2
    go_wp2_with fail
    go_ret2
    exact .inr ⟨HFIN.out, by rw [← HV.out]; rfl, HB2.out⟩
end Go.Proofs.Ytbcalbkficbppaa
