/- The law FlowsLevel: the plain law and the walk. -/
import Derived.Test.YtbcalbkficbppaaValid
import Derived.Test.YtbcalbkficbppaaLives
namespace Go.Proofs.Ytbcalbkficbppaa
open Go.RowKit

theorem low_le_high (b0 b1 b2 e0 e1 e2 l : Int) (h : rightOf b0 b1 b2 e0 e1 e2 = true) : lowOf b0 b1 b2 l ≤ highOf e0 e1 e2 l := by
  unfold rightOf at h
  simp only [decide_eq_true_eq] at h
  unfold lowOf highOf cnt3
  simp only [decide_eq_true_eq]
  (repeat' split) <;> omega

theorem sq_range (a : Int) (h : -3 ≤ a ∧ a ≤ 3) : 0 ≤ a * a ∧ a * a ≤ 9 := by
  have : a = -3 ∨ a = -2 ∨ a = -1 ∨ a = 0 ∨ a = 1 ∨ a = 2 ∨ a = 3 := by omega
  rcases this with rfl | rfl | rfl | rfl | rfl | rfl | rfl <;> decide

theorem sq_le (a b : Int) (ha : -3 ≤ a ∧ a ≤ 3) (hb : -3 ≤ b ∧ b ≤ 3) (h : (b ≤ a ∧ -a ≤ b) ∨ (b ≤ -a ∧ a ≤ b)) : b * b ≤ a * a := by
  have h1 : a = -3 ∨ a = -2 ∨ a = -1 ∨ a = 0 ∨ a = 1 ∨ a = 2 ∨ a = 3 := by omega
  have h2 : b = -3 ∨ b = -2 ∨ b = -1 ∨ b = 0 ∨ b = 1 ∨ b = 2 ∨ b = 3 := by omega
  rcases h1 with rfl | rfl | rfl | rfl | rfl | rfl | rfl <;> rcases h2 with rfl | rfl | rfl | rfl | rfl | rfl | rfl <;> first | decide | omega

set_option maxRecDepth 100000 in
set_option maxHeartbeats 4000000 in
theorem level_law (b0 b1 b2 e0 e1 e2 last l : Int) (w : World) :
    Calls Try.prog 5 #[.agg #[.int .i64 b0, .int .i64 b1, .int .i64 b2, .int .i64 e0, .int .i64 e1, .int .i64 e2], .int .i64 last, .int .i64 l] w (RetBool w true) := by
  have hb0 := (Below.refl _ w).alloc (Nat.le_refl _) (.cells #[.int .i64 b0, .int .i64 b1, .int .i64 b2, .int .i64 e0, .int .i64 e1, .int .i64 e2] 45)
  have hl0 := Lit0.new w 45 #[.int .i64 b0, .int .i64 b1, .int .i64 b2, .int .i64 e0, .int .i64 e1, .int .i64 e2]
  have HB0 := Lib.hid hb0
  have HL0 := Lib.hid hl0
  have HLEV := Lib.hid (fun last w => Level_any b0 b1 b2 e0 e1 e2 last l w)
  have hval := fun w => valid2_any b0 b1 b2 e0 e1 e2 w
  obtain ⟨r, hr⟩ : ∃ r, r = rightOf b0 b1 b2 e0 e1 e2 := ⟨_, rfl⟩
  rw [← hr] at hval
  have HVAL := Lib.hid hval
  have HR := Lib.hid hr
  clear hval hr hb0 hl0
  go_enter Try.func5, Try.ntmps5
  go_wp2_with fail
  generalize w.alloc (.cells #[.int .i64 b0, .int .i64 b1, .int .i64 b2, .int .i64 e0, .int .i64 e1, .int .i64 e2] 45) = w1 at HB0 HL0 ⊢
  refine (HLEV.out last w1).mono ?_
  rintro e w2 (⟨hbad, rfl, hb2⟩ | ⟨hgood, rfl, hb2⟩)
  · have HBAD := Lib.hid hbad
    have HB2 := Lib.hid (HB0.out.trans (hb2.mono HB0.out.size))
    have L2 := HL0.out.kept hb2
    have c0 := L2.cell 0
    have c1 := L2.cell 1
    have c2 := L2.cell 2
    have c3 := L2.cell 3
    have c4 := L2.cell 4
    have c5 := L2.cell 5
    simp only [List.getElem?_toArray, List.getElem?_cons_zero, List.getElem?_cons_succ] at c0 c1 c2 c3 c4 c5
    clear hbad hb2 L2
    go_wp2_with fail
    refine (HVAL.out w2).mono ?_
    rintro e w3 ⟨rfl, hb3⟩
    have HB3 := Lib.hid (HB2.out.trans (hb3.mono HB2.out.size))
    clear hb3 c0 c1 c2 c3 c4 c5
    cases r
    · go_wp2_with fail
      refine (lives_any w3).mono ?_
      rintro e w4 ⟨rfl, hb4⟩
      go_wp2_with fail
      go_ret
      exact ⟨rfl, HB3.out.trans (hb4.mono HB3.out.size)⟩
    · have hb := HBAD.out
      unfold levelOk at hb
      rw [← HR.out] at hb
      by_cases h1 : last < 0
      · have d1 : decide (last < 0) = true := by simpa using h1
        clear hb
        go_wp2_with fail
        refine (lives_any w3).mono ?_
        rintro e w4 ⟨rfl, hb4⟩
        go_wp2_with fail
        go_ret
        exact ⟨rfl, HB3.out.trans (hb4.mono HB3.out.size)⟩
      have d1 : decide (last < 0) = false := by simpa using h1
      by_cases h2 : 3 < last
      · have d2 : decide (3 < last) = true := by simpa using h2
        clear hb
        go_wp2_with fail
        refine (lives_any w3).mono ?_
        rintro e w4 ⟨rfl, hb4⟩
        go_wp2_with fail
        go_ret
        exact ⟨rfl, HB3.out.trans (hb4.mono HB3.out.size)⟩
      have d2 : decide (3 < last) = false := by simpa using h2
      have h3 : l < 0 := by simp at hb; omega
      have d3 : decide (l < 0) = true := by simpa using h3
      clear hb
      go_wp2_with fail
      refine (lives_any w3).mono ?_
      rintro e w4 ⟨rfl, hb4⟩
      go_wp2_with fail
      go_ret
      exact ⟨rfl, HB3.out.trans (hb4.mono HB3.out.size)⟩
  · have HB2 := Lib.hid (HB0.out.trans (hb2.mono HB0.out.size))
    have L2 := HL0.out.kept hb2
    have c0 := L2.cell 0
    have c1 := L2.cell 1
    have c2 := L2.cell 2
    have c3 := L2.cell 3
    have c4 := L2.cell 4
    have c5 := L2.cell 5
    simp only [List.getElem?_toArray, List.getElem?_cons_zero, List.getElem?_cons_succ] at c0 c1 c2 c3 c4 c5
    have hg := hgood
    unfold levelOk at hg
    rw [← HR.out] at hg
    have hrr : r = true := by simp at hg; exact hg.1
    have hlast : 0 ≤ last ∧ last ≤ 3 := by simp at hg; omega
    have hll : 0 ≤ l := by simp at hg; omega
    subst hrr
    obtain ⟨N, hN⟩ : ∃ N, N = levelOf b0 b1 b2 e0 e1 e2 last l := ⟨_, rfl⟩
    have hN' : N = max (lowOf b0 b1 b2 l) (min last (highOf e0 e1 e2 l)) := hN
    have hlh := low_le_high b0 b1 b2 e0 e1 e2 l HR.out.symm
    have bN : 0 ≤ N ∧ N ≤ 3 := by rw [hN]; exact levelOf_range _ _ _ _ _ _ _ _
    rw [← hN]
    have HN := Lib.hid hN'
    have HLH := Lib.hid hlh
    have HL2 := Lib.hid L2
    clear hg hgood hN hN' hlh hb2 L2
    go_wp2_with fail
    refine (HVAL.out w2).mono ?_
    rintro e w3 ⟨rfl, hb3⟩
    have HB3 := Lib.hid (HB2.out.trans (hb3.mono HB2.out.size))
    have L3 := HL2.out.kept hb3
    clear hb3 c0 c1 c2 c3 c4 c5
    have c0 := L3.cell 0
    have c1 := L3.cell 1
    have c2 := L3.cell 2
    have c3 := L3.cell 3
    have c4 := L3.cell 4
    have c5 := L3.cell 5
    simp only [List.getElem?_toArray, List.getElem?_cons_zero, List.getElem?_cons_succ] at c0 c1 c2 c3 c4 c5
    have d1 : decide (last < 0) = false := by simp; omega
    have d2 : decide (3 < last) = false := by simp; omega
    have d3 : decide (l < 0) = false := by simp; omega
    have HL3 := Lib.hid L3
    obtain ⟨P, hP⟩ : ∃ P : Int → Bool, ∀ m, P m = decide (m ≤ l) := ⟨_, fun _ => rfl⟩
    obtain ⟨Q, hQ⟩ : ∃ Q : Int → Bool, ∀ m, Q m = decide (m < l) := ⟨_, fun _ => rfl⟩
    have HPP := Lib.hid (show P = fun m => decide (m ≤ l) from funext hP)
    have HQQ := Lib.hid (show Q = fun m => decide (m < l) from funext hQ)
    have HP := Lib.hid hP
    have HQ := Lib.hid hQ
    clear hP hQ L3
    go_wp2_with fail
    go_loopw [9, 10, 11] (fun v7 v8 v10 wr => ∃ k : Int, (k = 0 ∨ k = 1 ∨ k = 2 ∨ k = 3) ∧ w3 = wr ∧ v10 = .int .i64 k ∧ v7 = .int .i64 (cntTo P b0 b1 b2 k) ∧ v8 = .int .i64 (cntTo Q e0 e1 e2 k)) (fun _ _ v _ => 3 - (intOf v).toNat)
    case atStart => exact ⟨0, .inl rfl, rfl, rfl, by simp [cntTo], by simp [cntTo]⟩
    case round =>
      obtain ⟨k, hk, rfl, rfl, rfl, rfl⟩ := hrel
      rcases hk with rfl | rfl | rfl | rfl
      · have e1' := cntTo_1 P b0 b1 b2
        have e2' := cntTo_1 Q e0 e1 e2
        cases hp : P b0 <;> cases hq : Q e0
        all_goals
          rw [hp] at e1'
          rw [hq] at e2'
          have dp := (HP.out b0).symm.trans hp
          have dq := (HQ.out e0).symm.trans hq
          have E1 := Lib.hid e1'
          have E2 := Lib.hid e2'
          have BP := Lib.hid (cntTo_le P b0 b1 b2 0)
          have BQ := Lib.hid (cntTo_le Q e0 e1 e2 0)
          obtain ⟨t, ht⟩ : ∃ t, t = cntTo P b0 b1 b2 0 := ⟨_, rfl⟩
          obtain ⟨u, hu⟩ : ∃ u, u = cntTo Q e0 e1 e2 0 := ⟨_, rfl⟩
          have bt : 0 ≤ t ∧ t ≤ 3 := by rw [ht]; exact BP.out
          have bu : 0 ≤ u ∧ u ≤ 3 := by rw [hu]; exact BQ.out
          rw [← ht] at E1 ⊢
          rw [← hu] at E2 ⊢
          clear e1' e2' ht hu hp hq
          go_wp2_with fail
          go_roundw
          case rel => exact ⟨1, by omega, by trivial, rfl, by rw [E1.out]; simp, by rw [E2.out]; simp⟩
          case measure => simp [intOf]
      · have e1' := cntTo_2 P b0 b1 b2
        have e2' := cntTo_2 Q e0 e1 e2
        cases hp : P b1 <;> cases hq : Q e1
        all_goals
          rw [hp] at e1'
          rw [hq] at e2'
          have dp := (HP.out b1).symm.trans hp
          have dq := (HQ.out e1).symm.trans hq
          have E1 := Lib.hid e1'
          have E2 := Lib.hid e2'
          have BP := Lib.hid (cntTo_le P b0 b1 b2 1)
          have BQ := Lib.hid (cntTo_le Q e0 e1 e2 1)
          obtain ⟨t, ht⟩ : ∃ t, t = cntTo P b0 b1 b2 1 := ⟨_, rfl⟩
          obtain ⟨u, hu⟩ : ∃ u, u = cntTo Q e0 e1 e2 1 := ⟨_, rfl⟩
          have bt : 0 ≤ t ∧ t ≤ 3 := by rw [ht]; exact BP.out
          have bu : 0 ≤ u ∧ u ≤ 3 := by rw [hu]; exact BQ.out
          rw [← ht] at E1 ⊢
          rw [← hu] at E2 ⊢
          clear e1' e2' ht hu hp hq
          go_wp2_with fail
          go_roundw
          case rel => exact ⟨2, by omega, by trivial, rfl, by rw [E1.out]; simp, by rw [E2.out]; simp⟩
          case measure => simp [intOf]
      · have e1' := cntTo_3 P b0 b1 b2
        have e2' := cntTo_3 Q e0 e1 e2
        cases hp : P b2 <;> cases hq : Q e2
        all_goals
          rw [hp] at e1'
          rw [hq] at e2'
          have dp := (HP.out b2).symm.trans hp
          have dq := (HQ.out e2).symm.trans hq
          have E1 := Lib.hid e1'
          have E2 := Lib.hid e2'
          have BP := Lib.hid (cntTo_le P b0 b1 b2 2)
          have BQ := Lib.hid (cntTo_le Q e0 e1 e2 2)
          obtain ⟨t, ht⟩ : ∃ t, t = cntTo P b0 b1 b2 2 := ⟨_, rfl⟩
          obtain ⟨u, hu⟩ : ∃ u, u = cntTo Q e0 e1 e2 2 := ⟨_, rfl⟩
          have bt : 0 ≤ t ∧ t ≤ 3 := by rw [ht]; exact BP.out
          have bu : 0 ≤ u ∧ u ≤ 3 := by rw [hu]; exact BQ.out
          rw [← ht] at E1 ⊢
          rw [← hu] at E2 ⊢
          clear e1' e2' ht hu hp hq
          go_wp2_with fail
          go_roundw
          case rel => exact ⟨3, by omega, by trivial, rfl, by rw [E1.out]; simp, by rw [E2.out]; simp⟩
          case measure => simp [intOf]
      · have hR : cntTo P b0 b1 b2 3 = lowOf b0 b1 b2 l := by rw [HPP.out]; unfold cntTo lowOf cnt3; simp
        have hK : cntTo Q e0 e1 e2 3 = highOf e0 e1 e2 l := by rw [HQQ.out]; unfold cntTo highOf cnt3; simp
        rw [hR, hK]
        have bR := cnt3_le (fun x => decide (x ≤ l)) b0 b1 b2
        have bK := cnt3_le (fun x => decide (x < l)) e0 e1 e2
        have hn := HN.out
        have hlh := HLH.out
        obtain ⟨R, hRR⟩ : ∃ R, R = lowOf b0 b1 b2 l := ⟨_, rfl⟩
        obtain ⟨K, hKK⟩ : ∃ K, K = highOf e0 e1 e2 l := ⟨_, rfl⟩
        have bR' : 0 ≤ R ∧ R ≤ 3 := by rw [hRR]; exact bR
        have bK' : 0 ≤ K ∧ K ≤ 3 := by rw [hKK]; exact bK
        have again : levelOf b0 b1 b2 e0 e1 e2 N l = N := by
          unfold levelOf
          rw [← hRR, ← hKK]
          rw [← hRR, ← hKK] at hn
          rw [← hRR, ← hKK] at hlh
          omega
        have hok2 : levelOk b0 b1 b2 e0 e1 e2 N l = true := by
          unfold levelOk
          rw [← HR.out]
          simp
          omega
        rw [← hRR, ← hKK] at hn hlh
        rw [← hRR, ← hKK]
        have AGAIN := Lib.hid again
        have HOK2 := Lib.hid hok2
        have HN2 := Lib.hid hn
        have q1 : decide (N < R) = false := by simp; omega
        have q2 : decide (K < N) = false := by simp; omega
        have q3 : decide (K < R) = false := by simp; omega
        clear hR hK bR bK hRR hKK again hok2 hn
        go_wp2_with fail
        go_loopw [12] (fun v wr => ∃ k : Int, R ≤ k ∧ k ≤ K + 1 ∧ w3 = wr ∧ v = .int .i64 k) (fun v _ => 5 - (intOf v).toNat)
        case atStart => exact ⟨R, by omega, by omega, rfl, rfl⟩
        case round =>
          obtain ⟨k, hk0, hk1, rfl, rfl⟩ := hrel
          by_cases hkK : k ≤ K
          · have dk : decide (k ≤ K) = true := by simpa using hkK
            obtain ⟨s1, hs1⟩ : ∃ s, (k - last) * (k - last) = s := ⟨_, rfl⟩
            obtain ⟨s2, hs2⟩ : ∃ s, (N - last) * (N - last) = s := ⟨_, rfl⟩
            have b1 : 0 ≤ s1 ∧ s1 ≤ 9 := by rw [← hs1]; exact sq_range _ (by omega)
            have b2 : 0 ≤ s2 ∧ s2 ≤ 9 := by rw [← hs2]; exact sq_range _ (by omega)
            have hle : s2 ≤ s1 := by
              rw [← hs1, ← hs2]
              exact sq_le _ _ (by omega) (by omega) (by have := HN2.out; omega)
            have ds : decide (s1 < s2) = false := by simp; omega
            go_wp2_with fail
            go_roundw
            case rel => exact ⟨k + 1, by omega, by omega, by trivial, rfl⟩
            case measure => simp [intOf]; omega
          · have dk : decide (k ≤ K) = false := by simpa using hkK
            clear q1 q2 q3
            go_wp2_with fail
            refine (HLEV.out N w3).mono ?_
            rintro e w4 (⟨h, _⟩ | ⟨_, rfl, hb4⟩)
            · rw [HOK2.out] at h; cases h
            rw [AGAIN.out]
            have HB4 := Lib.hid (HB3.out.trans (hb4.mono HB3.out.size))
            clear hb4
            go_wp2_with fail
            refine (lives_any w4).mono ?_
            rintro e w5 ⟨rfl, hb5⟩
            go_wp2_with fail
            go_ret
            exact ⟨rfl, HB4.out.trans (hb5.mono HB4.out.size)⟩
end Go.Proofs.Ytbcalbkficbppaa
