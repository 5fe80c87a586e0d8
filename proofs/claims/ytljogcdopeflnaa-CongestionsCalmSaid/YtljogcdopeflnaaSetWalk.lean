/- The law CongestionsSet: the walk. -/
import Derived.Test.YtljogcdopeflnaaMarks
import Derived.Test.YtljogcdopeflnaaErrorsWalk
namespace Go.Proofs.Ytljogcdopeflnaa
open Go.RowKit

theorem cntTo_1 (p : Int → Bool) (a b c : Int) : cntTo p a b c 1 = cntTo p a b c 0 + (if p a then 1 else 0) := by
  unfold cntTo
  cases p a <;> cases p b <;> cases p c <;> rfl
theorem cntTo_2 (p : Int → Bool) (a b c : Int) : cntTo p a b c 2 = cntTo p a b c 1 + (if p b then 1 else 0) := by
  unfold cntTo
  cases p a <;> cases p b <;> cases p c <;> rfl
theorem cntTo_3 (p : Int → Bool) (a b c : Int) : cntTo p a b c 3 = cntTo p a b c 2 + (if p c then 1 else 0) := by
  unfold cntTo
  cases p a <;> cases p b <;> cases p c <;> rfl

theorem set_many (A : Option Addr) (n cp : Nat) (x y z : Int) (w : World) (hn : 200 < n) :
    Calls Try.prog 3 #[.agg #[.int .u8 x, .int .u8 y, .int .u8 z], .slice A n cp] w (RetBool w true) := by
  have hb0 := (Below.refl _ w).alloc (Nat.le_refl _) (.cells #[.int .u8 x, .int .u8 y, .int .u8 z] 23)
  have dn : decide (200 < (n : Int)) = true := by simp; omega
  clear hn
  go_enter Try.func3, Try.ntmps3
  go_wp2_with fail
  refine (lives_any _).mono ?_
  rintro e w1 ⟨rfl, hb1⟩
  go_wp2_with fail
  go_ret
  exact ⟨rfl, hb0.trans (hb1.mono hb0.size)⟩

set_option maxRecDepth 100000 in
set_option maxHeartbeats 4000000 in
theorem set_law (A : Option Addr) (n cp : Nat) (x y z : Int) (S : Nat → Int) (w : World) (hn : n ≤ 200) (hx : 0 ≤ x ∧ x ≤ 255) (hy : 0 ≤ y ∧ y ≤ 255) (hz : 0 ≤ z ∧ z ≤ 255)
    (hS : Sees w w.heap.size A n (fun i => .int .i8 (S i))) (hSb : ∀ i, i < n → -128 ≤ S i ∧ S i ≤ 127) :
    Calls Try.prog 3 #[.agg #[.int .u8 x, .int .u8 y, .int .u8 z], .slice A n cp] w (RetBool w true) := by
  have dn : decide (200 < (n : Int)) = false := by simp; omega
  have la := Lit0.new w 23 #[.int .u8 x, .int .u8 y, .int .u8 z]
  have hb0 := (Below.refl _ w).alloc (Nat.le_refl _) (.cells #[.int .u8 x, .int .u8 y, .int .u8 z] 23)
  have c0 := la.cell 0
  have c1 := la.cell 1
  have c2 := la.cell 2
  simp only [List.getElem?_toArray, List.getElem?_cons_zero, List.getElem?_cons_succ] at c0 c1 c2
  have HS := Lib.hid hS
  have HSB := Lib.hid hSb
  have HB0 := Lib.hid hb0
  clear la hb0 hS hSb
  have hof := fun w' => of_any x y z w' hx hy hz
  obtain ⟨a, ha⟩ : ∃ a, a = 1 + x % 20 := ⟨_, rfl⟩
  obtain ⟨b, hb⟩ : ∃ b, b = a + 1 + y % 20 := ⟨_, rfl⟩
  obtain ⟨c, hc⟩ : ∃ c, c = b + 1 + z % 20 := ⟨_, rfl⟩
  have hr : 1 ≤ a ∧ a < b ∧ b < c ∧ c ≤ 60 := by omega
  rw [← ha, ← hb, ← hc] at hof
  have HOF := Lib.hid hof
  clear hof ha hb hc hx hy hz
  go_enter Try.func3, Try.ntmps3
  go_wp2_with fail
  refine (HOF.out _).mono ?_
  rintro e w1 ⟨rfl, hb1⟩
  have HB1 := Lib.hid (HB0.out.trans (hb1.mono HB0.out.size))
  clear hb1 c0 c1 c2 HB0
  go_wp2_with fail
  have lm := Lit0.new w1 26 #[.int .i64 a, .int .i64 b, .int .i64 c]
  have hb2 := HB1.out.alloc HB1.out.size (.cells #[.int .i64 a, .int .i64 b, .int .i64 c] 26)
  generalize hgm : w1.heap.size = gm at lm ⊢
  generalize w1.alloc (.cells #[.int .i64 a, .int .i64 b, .int .i64 c] 26) = w2 at lm hb2 ⊢
  refine (newMeter_good a b c w2 (by unfold good; simp; omega)).mono ?_
  rintro e w3 ⟨g, rfl, hg, hm, hb3⟩
  have HM3 := Lib.hid hm
  have LM3 := Lib.hid (lm.kept hb3)
  have HB3 := Lib.hid (hb2.trans (hb3.mono hb2.size))
  have hg0 : Hid (w.heap.size ≤ g) := Lib.hid (Nat.le_trans hb2.size hg)
  have hgne : Hid (gm ≠ g) := Lib.hid (by have := lm.lt; omega)
  clear hm lm hb3 hb2 hg hgm HB1
  go_wp2_with fail
  refine (level_any g a b c 0 w3 HM3.out).mono ?_
  rintro e w4 ⟨rfl, rfl⟩
  go_wp2_with fail
  go_loopw [8, 9] (fun v8 v9 wr => ∃ (lv : Int) (i : Nat), i ≤ n ∧ v8 = .int .i64 lv ∧ v9 = .int .i64 i ∧ (0 ≤ lv ∧ lv ≤ 3) ∧ Hid (Meter wr g a b c lv) ∧ Hid (w3.grownBy wr (some g))) (fun _ v _ => n - (intOf v).toNat)
  case atStart => exact ⟨0, 0, by omega, rfl, rfl, by omega, HM3, Lib.hid (grown_refl _ _)⟩
  case round =>
    obtain ⟨lv, i, hi, rfl, rfl, hlv, HMr, HGr⟩ := hrel
    have HBr := Lib.hid (below_grown (grown_trans (grown_below (HB3.out.mono (Nat.le_refl _)) _) HGr.out) hg0.out (Nat.le_refl _))
    by_cases hin : i < n
    · have din : decide ((i : Int) < (n : Int)) = true := by simp; omega
      have din' : decide (i < n) = true := by simpa using hin
      obtain ⟨bs, off, rfl⟩ := HS.out.form (by omega)
      have cS := (HS.out.below HBr.out).cell hin
      have hSi := HSB.out i hin
      obtain ⟨s, hs⟩ : ∃ s, s = S i := ⟨_, rfl⟩
      rw [← hs] at cS hSi
      have HSS := Lib.hid hs
      clear hs
      obtain ⟨P, hP⟩ : ∃ P : Int → Bool, ∀ m, P m = decide (m ≤ nn s) := ⟨_, fun _ => rfl⟩
      obtain ⟨Q, hQ⟩ : ∃ Q : Int → Bool, ∀ m, Q m = decide (m.tdiv 2 < nn s) := ⟨_, fun _ => rfl⟩
      have HP := Lib.hid hP
      have HQ := Lib.hid hQ
      have LMr := Lib.hid (LM3.out.grown HGr.out (by simpa using hgne.out))
      have m0 := LMr.out.cell 0
      have m1 := LMr.out.cell 1
      have m2 := LMr.out.cell 2
      simp only [List.getElem?_toArray, List.getElem?_cons_zero, List.getElem?_cons_succ] at m0 m1 m2
      have hPP : P = fun m => decide (m ≤ nn s) := funext HP.out
      have hQQ : Q = fun m => decide (m.tdiv 2 < nn s) := funext HQ.out
      have HPP := Lib.hid hPP
      have HQQ := Lib.hid hQQ
      have ta : 0 ≤ a.tdiv 2 ∧ 0 ≤ b.tdiv 2 ∧ 0 ≤ c.tdiv 2 := ⟨Int.tdiv_nonneg (by omega) (by omega), Int.tdiv_nonneg (by omega) (by omega), Int.tdiv_nonneg (by omega) (by omega)⟩
      obtain ⟨N, hN⟩ : ∃ N, N = nn s := ⟨_, rfl⟩
      have bN : 0 ≤ N ∧ N ≤ 127 := by rw [hN]; unfold nn; split <;> omega
      rw [← hN] at HP HQ
      have HN := Lib.hid hN
      clear hP hQ hPP hQQ
      obtain ⟨wo, rfl⟩ : ∃ wo : World, wo = wr := ⟨_, rfl⟩
      have hmax : (s < 0 ∧ N = 0) ∨ (0 ≤ s ∧ N = s) := by rw [hN]; unfold nn; split <;> omega
      clear hN
      rcases hmax with ⟨hs0, hN0⟩ | ⟨hs0, hN0⟩
      all_goals
        have hN0' := hN0.symm
        subst hN0'
        clear hN0
        go_wp2_with fail
        go_loopw [11, 12, 13] (fun v11 v12 v13 wr => ∃ k : Int, (k = 0 ∨ k = 1 ∨ k = 2 ∨ k = 3) ∧ wo = wr ∧ v13 = .int .i64 k ∧ v11 = .int .i64 (cntTo P a b c k) ∧ v12 = .int .i64 (cntTo Q a b c k)) (fun _ _ v _ => 3 - (intOf v).toNat)
        case atStart => exact ⟨0, .inl rfl, rfl, rfl, by simp [cntTo], by simp [cntTo]⟩
        case round =>
          obtain ⟨k, hk, rfl, rfl, rfl, rfl⟩ := hrel
          rcases hk with rfl | rfl | rfl | rfl
          · have e1 : cntTo P a b c 1 = cntTo P a b c 0 + (if P a then 1 else 0) := cntTo_1 P a b c
            have e2 : cntTo Q a b c 1 = cntTo Q a b c 0 + (if Q a then 1 else 0) := cntTo_1 Q a b c
            cases hp : P a <;> cases hq : Q a
            all_goals
              rw [hp] at e1
              rw [hq] at e2
              have dp := (HP.out a).symm.trans hp
              have dq := (HQ.out a).symm.trans hq
              rw [Int.tdiv_eq_ediv_of_nonneg (show 0 ≤ a by omega)] at dq
            all_goals try (exfalso; simp only [decide_eq_true_eq] at dp; omega)
            all_goals try (exfalso; simp only [decide_eq_true_eq] at dq; omega)
            all_goals
              have E1 := Lib.hid e1
              have E2 := Lib.hid e2
              have BP := Lib.hid (cntTo_le P a b c 0)
              have BQ := Lib.hid (cntTo_le Q a b c 0)
              obtain ⟨t, ht⟩ : ∃ t, t = cntTo P a b c 0 := ⟨_, rfl⟩
              obtain ⟨u, hu⟩ : ∃ u, u = cntTo Q a b c 0 := ⟨_, rfl⟩
              have bt : 0 ≤ t ∧ t ≤ 3 := by rw [ht]; exact BP.out
              have bu : 0 ≤ u ∧ u ≤ 3 := by rw [hu]; exact BQ.out
              rw [← ht] at E1 ⊢
              rw [← hu] at E2 ⊢
              clear e1 e2 ht hu hp hq
              go_wp2_with fail
              go_roundw
              case rel => exact ⟨1, by omega, by trivial, rfl, by rw [E1.out]; simp, by rw [E2.out]; simp⟩
              case measure => simp [intOf]
          · have e1 : cntTo P a b c 2 = cntTo P a b c 1 + (if P b then 1 else 0) := cntTo_2 P a b c
            have e2 : cntTo Q a b c 2 = cntTo Q a b c 1 + (if Q b then 1 else 0) := cntTo_2 Q a b c
            cases hp : P b <;> cases hq : Q b
            all_goals
              rw [hp] at e1
              rw [hq] at e2
              have dp := (HP.out b).symm.trans hp
              have dq := (HQ.out b).symm.trans hq
              rw [Int.tdiv_eq_ediv_of_nonneg (show 0 ≤ b by omega)] at dq
            all_goals try (exfalso; simp only [decide_eq_true_eq] at dp; omega)
            all_goals try (exfalso; simp only [decide_eq_true_eq] at dq; omega)
            all_goals
              have E1 := Lib.hid e1
              have E2 := Lib.hid e2
              have BP := Lib.hid (cntTo_le P a b c 1)
              have BQ := Lib.hid (cntTo_le Q a b c 1)
              obtain ⟨t, ht⟩ : ∃ t, t = cntTo P a b c 1 := ⟨_, rfl⟩
              obtain ⟨u, hu⟩ : ∃ u, u = cntTo Q a b c 1 := ⟨_, rfl⟩
              have bt : 0 ≤ t ∧ t ≤ 3 := by rw [ht]; exact BP.out
              have bu : 0 ≤ u ∧ u ≤ 3 := by rw [hu]; exact BQ.out
              rw [← ht] at E1 ⊢
              rw [← hu] at E2 ⊢
              clear e1 e2 ht hu hp hq
              go_wp2_with fail
              go_roundw
              case rel => exact ⟨2, by omega, by trivial, rfl, by rw [E1.out]; simp, by rw [E2.out]; simp⟩
              case measure => simp [intOf]
          · have e1 : cntTo P a b c 3 = cntTo P a b c 2 + (if P c then 1 else 0) := cntTo_3 P a b c
            have e2 : cntTo Q a b c 3 = cntTo Q a b c 2 + (if Q c then 1 else 0) := cntTo_3 Q a b c
            cases hp : P c <;> cases hq : Q c
            all_goals
              rw [hp] at e1
              rw [hq] at e2
              have dp := (HP.out c).symm.trans hp
              have dq := (HQ.out c).symm.trans hq
              rw [Int.tdiv_eq_ediv_of_nonneg (show 0 ≤ c by omega)] at dq
            all_goals try (exfalso; simp only [decide_eq_true_eq] at dp; omega)
            all_goals try (exfalso; simp only [decide_eq_true_eq] at dq; omega)
            all_goals
              have E1 := Lib.hid e1
              have E2 := Lib.hid e2
              have BP := Lib.hid (cntTo_le P a b c 2)
              have BQ := Lib.hid (cntTo_le Q a b c 2)
              obtain ⟨t, ht⟩ : ∃ t, t = cntTo P a b c 2 := ⟨_, rfl⟩
              obtain ⟨u, hu⟩ : ∃ u, u = cntTo Q a b c 2 := ⟨_, rfl⟩
              have bt : 0 ≤ t ∧ t ≤ 3 := by rw [ht]; exact BP.out
              have bu : 0 ≤ u ∧ u ≤ 3 := by rw [hu]; exact BQ.out
              rw [← ht] at E1 ⊢
              rw [← hu] at E2 ⊢
              clear e1 e2 ht hu hp hq
              go_wp2_with fail
              go_roundw
              case rel => exact ⟨3, by omega, by trivial, rfl, by rw [E1.out]; simp, by rw [E2.out]; simp⟩
              case measure => simp [intOf]
          · obtain ⟨R, hR⟩ : ∃ R, R = cntTo P a b c 3 := ⟨_, rfl⟩
            obtain ⟨K, hK⟩ : ∃ K, K = cntTo Q a b c 3 := ⟨_, rfl⟩
            have bR : 0 ≤ R ∧ R ≤ 3 := by rw [hR]; exact cntTo_le _ _ _ _ _
            have bK : 0 ≤ K ∧ K ≤ 3 := by rw [hK]; exact cntTo_le _ _ _ _ _
            rw [← hR, ← hK]
            have hR' : R = reachedOf a b c s := by rw [hR, HPP.out]; unfold cntTo reachedOf cnt3; simp
            have hK' : K = keptOf a b c s := by rw [hK, HQQ.out]; unfold cntTo keptOf cnt3; simp
            have HR := Lib.hid hR'
            have HK := Lib.hid hK'
            have hset := set_any g a b c lv s wo HMr.out (by omega) (by omega) (by omega) (by omega)
            unfold RetSet at hset
            clear hR hK hR' hK'
            by_cases r1 : lv < R
            · skip
              have hnew : newLevel a b c lv s = R := by unfold newLevel; rw [← HR.out, ← HK.out]; simp [r1]
              rw [hnew] at hset
              have HSET := Lib.hid hset
              clear hset hnew
              go_wp2_with fail
              refine HSET.out.mono ?_
              rintro e w5 ⟨rfl, hm5, hg5⟩
              have HM5 := Lib.hid hm5
              have HG5 := Lib.hid hg5
              clear hm5 hg5
              go_wp2_with fail
              refine (level_any g a b c R w5 HM5.out).mono ?_
              rintro e w6 ⟨rfl, rfl⟩
              go_wp2_with fail
              go_roundw
              case rel => exact ⟨R, i + 1, by omega, rfl, by simp, by omega, HM5, Lib.hid (grown_trans HGr.out HG5.out)⟩
              case measure => simp [intOf]; omega
            · by_cases r2 : K < lv
              · by_cases r3 : K < R
                · skip
                  have hnew : newLevel a b c lv s = R := by unfold newLevel; rw [← HR.out, ← HK.out]; simp [r1, r2, r3]
                  rw [hnew] at hset
                  have HSET := Lib.hid hset
                  clear hset hnew
                  go_wp2_with fail
                  refine HSET.out.mono ?_
                  rintro e w5 ⟨rfl, hm5, hg5⟩
                  have HM5 := Lib.hid hm5
                  have HG5 := Lib.hid hg5
                  clear hm5 hg5
                  go_wp2_with fail
                  refine (level_any g a b c R w5 HM5.out).mono ?_
                  rintro e w6 ⟨rfl, rfl⟩
                  go_wp2_with fail
                  go_roundw
                  case rel => exact ⟨R, i + 1, by omega, rfl, by simp, by omega, HM5, Lib.hid (grown_trans HGr.out HG5.out)⟩
                  case measure => simp [intOf]; omega
                · skip
                  have hnew : newLevel a b c lv s = K := by unfold newLevel; rw [← HR.out, ← HK.out]; simp [r1, r2, r3]
                  rw [hnew] at hset
                  have HSET := Lib.hid hset
                  clear hset hnew
                  go_wp2_with fail
                  refine HSET.out.mono ?_
                  rintro e w5 ⟨rfl, hm5, hg5⟩
                  have HM5 := Lib.hid hm5
                  have HG5 := Lib.hid hg5
                  clear hm5 hg5
                  go_wp2_with fail
                  refine (level_any g a b c K w5 HM5.out).mono ?_
                  rintro e w6 ⟨rfl, rfl⟩
                  go_wp2_with fail
                  go_roundw
                  case rel => exact ⟨K, i + 1, by omega, rfl, by simp, by omega, HM5, Lib.hid (grown_trans HGr.out HG5.out)⟩
                  case measure => simp [intOf]; omega
              · skip
                have hnew : newLevel a b c lv s = lv := by unfold newLevel; rw [← HR.out, ← HK.out]; simp [r1, r2]
                rw [hnew] at hset
                have HSET := Lib.hid hset
                clear hset hnew
                go_wp2_with fail
                refine HSET.out.mono ?_
                rintro e w5 ⟨rfl, hm5, hg5⟩
                have HM5 := Lib.hid hm5
                have HG5 := Lib.hid hg5
                clear hm5 hg5
                go_wp2_with fail
                refine (level_any g a b c lv w5 HM5.out).mono ?_
                rintro e w6 ⟨rfl, rfl⟩
                go_wp2_with fail
                go_roundw
                case rel => exact ⟨lv, i + 1, by omega, rfl, by simp, by omega, HM5, Lib.hid (grown_trans HGr.out HG5.out)⟩
                case measure => simp [intOf]; omega
    · have din : decide ((i : Int) < (n : Int)) = false := by simp; omega
      have din' : decide (i < n) = false := by simp; omega
      go_wp2_with fail
      refine (lives_any _).mono ?_
      rintro e w4 ⟨rfl, hb4⟩
      go_wp2_with fail
      go_ret
      exact ⟨rfl, HBr.out.trans (hb4.mono HBr.out.size)⟩
end Go.Proofs.Ytljogcdopeflnaa
