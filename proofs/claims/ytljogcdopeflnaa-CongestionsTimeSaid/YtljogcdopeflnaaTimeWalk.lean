/- The law CongestionsTime: the walk. -/
import Derived.Test.YtljogcdopeflnaaLives
namespace Go.Proofs.Ytljogcdopeflnaa
open Go.RowKit

/-- What is wanted behind k of the rounds. -/
def wantOf (base z0 z1 lv k : Int) : Int := if z1 ≤ z0 then lv else max (lv - min ((z1 - z0) / base) k) 0

theorem want_start (base z0 z1 lv : Int) (hlv : 0 ≤ lv) (hb : 1 ≤ base) : wantOf base z0 z1 lv 0 = lv := by
  unfold wantOf
  split
  · rfl
  · have : 0 ≤ (z1 - z0) / base := Int.ediv_nonneg (by omega) (by omega)
    omega

theorem want_end (base z0 z1 lv : Int) : wantOf base z0 z1 lv 3 = lowv base z1 z0 lv := rfl

theorem want_hit (base z0 z1 lv k m : Int) (hb : 1 ≤ base) (hm : m = z0 + (k + 1) * base) (h1 : m ≤ z1) (h2 : z0 < z1) : wantOf base z0 z1 lv (k + 1) = max (lv - k - 1) 0 := by
  unfold wantOf
  rw [if_neg (by omega)]
  have : k + 1 ≤ (z1 - z0) / base := (Int.le_ediv_iff_mul_le (by omega)).2 (by omega)
  generalize (z1 - z0) / base = q at *
  omega

theorem want_miss (base z0 z1 lv k m : Int) (hb : 1 ≤ base) (hm : m = z0 + (k + 1) * base) (h : ¬ (m ≤ z1 ∧ z0 < z1)) : wantOf base z0 z1 lv (k + 1) = wantOf base z0 z1 lv k := by
  unfold wantOf
  by_cases hz : z1 ≤ z0
  · rw [if_pos hz, if_pos hz]
  · rw [if_neg hz, if_neg hz]
    have : ¬ k + 1 ≤ (z1 - z0) / base := fun hh => by
      have := (Int.le_ediv_iff_mul_le (by omega)).1 hh
      omega
    generalize (z1 - z0) / base = q at *
    omega

theorem want_range (base z0 z1 lv k : Int) (hlv : 0 ≤ lv ∧ lv ≤ 3) (hb : 1 ≤ base) (hk : 0 ≤ k) : 0 ≤ wantOf base z0 z1 lv k ∧ wantOf base z0 z1 lv k ≤ 3 := by
  unfold wantOf
  split
  · exact hlv
  · have : 0 ≤ (z1 - z0) / base := Int.ediv_nonneg (by omega) (by omega)
    generalize (z1 - z0) / base = q at *
    omega

theorem level_none (base now : Int) (hb : 1 ≤ base) : levelOf base now none = 0 := by
  unfold levelOf lowv
  simp only [Option.getD_none]
  split
  · rfl
  · have : 0 ≤ (now - 0) / base := Int.ediv_nonneg (by omega) (by omega)
    omega

theorem time_low (base z0 z1 lv to_ : Int) (w : World) (h : base < 1) :
    Calls Try.prog 7 #[.int .i64 base, .agg #[.int .i64 z0, .int .i64 z1], .agg #[.int .u16 to_, .int .i64 lv]] w (RetBool w true) := by
  have hb0 := ((Below.refl _ w).alloc (Nat.le_refl _) (.cells #[.int .i64 z0, .int .i64 z1] 52)).alloc (by simp) (.cells #[.int .u16 to_, .int .i64 lv] 54)
  have HB0 := Lib.hid hb0
  have d1 : decide (base < 1) = true := by simpa using h
  clear hb0 h
  go_enter Try.func7, Try.ntmps7
  go_wp2_with fail
  refine (newControl_any base _).mono ?_
  rintro e w1 (⟨_, rfl, rfl⟩ | ⟨h, _⟩)
  · go_wp2_with fail
    refine (lives_any _).mono ?_
    rintro e w1 ⟨rfl, hb⟩
    go_wp2_with fail
    go_ret
    exact ⟨rfl, HB0.out.trans (hb.mono HB0.out.size)⟩
  · exact absurd (by simpa using d1) h

theorem time_bad (base z0 z1 lv to_ : Int) (w : World) (h : 1 ≤ base ∧ base ≤ 9223372036854775807) (hz0 : I64 z0) (ht : 0 ≤ to_ ∧ to_ ≤ 65535) (hbad : lv < 0 ∨ 3 < lv ∨ 16383 < to_) :
    Calls Try.prog 7 #[.int .i64 base, .agg #[.int .i64 z0, .int .i64 z1], .agg #[.int .u16 to_, .int .i64 lv]] w (RetBool w true) := by
  have hb0 := ((Below.refl _ w).alloc (Nat.le_refl _) (.cells #[.int .i64 z0, .int .i64 z1] 52)).alloc (by simp) (.cells #[.int .u16 to_, .int .i64 lv] 54)
  have la := (Lit0.new w 52 #[.int .i64 z0, .int .i64 z1]).alloc (.cells #[.int .u16 to_, .int .i64 lv] 54)
  have lb := Lit0.new (w.alloc (.cells #[.int .i64 z0, .int .i64 z1] 52)) 54 #[.int .u16 to_, .int .i64 lv]
  simp only [World.size_alloc] at lb
  have HB0 := Lib.hid hb0
  have LA := Lib.hid la
  have LB := Lib.hid lb
  have HH := Lib.hid h
  have d1 : decide (base < 1) = false := by simp; omega
  clear hb0 la lb h
  go_enter Try.func7, Try.ntmps7
  go_wp2_with fail
  generalize (w.alloc (.cells #[.int .i64 z0, .int .i64 z1] 52)).alloc (.cells #[.int .u16 to_, .int .i64 lv] 54) = w0 at HB0 LA LB ⊢
  refine (newControl_any base w0).mono ?_
  rintro e w1 (⟨h, _⟩ | ⟨_, g, b, rfl, hg, hb, hc, hb1⟩)
  · exact absurd h (by simpa using d1)
  have LA1 := Lib.hid (LA.out.kept hb1)
  have LB1 := Lib.hid (LB.out.kept hb1)
  have HC := Lib.hid hc
  have HB1 := Lib.hid (HB0.out.trans (hb1.mono HB0.out.size))
  clear hc hb1 LA LB HB0
  have c1 := LA1.out.cell 0
  have c2 := LB1.out.cell 0
  have c3 := LB1.out.cell 1
  simp only [List.getElem?_toArray, List.getElem?_cons_zero, List.getElem?_cons_succ] at c1 c2 c3
  have hne : levelOf base z0 none = 0 := level_none base z0 HH.out.1
  have hl := clevel_any g b 0 base z0 to_ (fun _ => none) w1 HC.out HH.out hz0 ht (fun p hp => by cases hp)
  rw [hne] at hl
  have HL := Lib.hid hl
  clear hl hne
  go_wp2_with fail
  refine (hear_bad g b base z0 to_ lv w1 HC.out.1 HH.out.1 hbad).mono ?_
  rintro e w2 ⟨rfl, rfl⟩
  have fin : ∀ (wx : World), Below w1.heap.size w1 wx → Below w.heap.size w wx := fun wx hx => HB1.out.trans (hx.mono HB1.out.size)
  have FIN := Lib.hid fin
  clear fin
  by_cases h1 : lv < 0
  · have d1 : decide (lv < 0) = true := by simpa using h1
    clear h1 hbad
    go_wp2_with fail
    refine HL.out.mono ?_
    rintro e w2 ⟨rfl, hb2⟩
    go_wp2_with fail
    refine (lives_any _).mono ?_
    rintro e w3 ⟨rfl, hb3⟩
    go_wp2_with fail
    go_ret
    exact ⟨rfl, FIN.out _ (hb2.trans (hb3.mono hb2.size))⟩
  · have d1 : decide (lv < 0) = false := by simpa using h1
    by_cases h2 : 3 < lv
    · have d2 : decide (3 < lv) = true := by simpa using h2
      clear h1 h2 hbad
      go_wp2_with fail
      refine HL.out.mono ?_
      rintro e w2 ⟨rfl, hb2⟩
      go_wp2_with fail
      refine (lives_any _).mono ?_
      rintro e w3 ⟨rfl, hb3⟩
      go_wp2_with fail
      go_ret
      exact ⟨rfl, FIN.out _ (hb2.trans (hb3.mono hb2.size))⟩
    · have d2 : decide (3 < lv) = false := by simpa using h2
      have d3 : decide (16383 < to_) = true := by rw [decide_eq_true_eq]; omega
      clear h1 h2 hbad
      go_wp2_with fail
      refine HL.out.mono ?_
      rintro e w2 ⟨rfl, hb2⟩
      go_wp2_with fail
      refine (lives_any _).mono ?_
      rintro e w3 ⟨rfl, hb3⟩
      go_wp2_with fail
      go_ret
      exact ⟨rfl, FIN.out _ (hb2.trans (hb3.mono hb2.size))⟩

theorem time_good (base z0 z1 lv to_ : Int) (w : World) (h : 1 ≤ base ∧ base ≤ 9223372036854775807) (hz0 : I64 z0) (hz1 : I64 z1) (ht : 0 ≤ to_ ∧ to_ ≤ 16383) (hlv : 0 ≤ lv ∧ lv ≤ 3) :
    Calls Try.prog 7 #[.int .i64 base, .agg #[.int .i64 z0, .int .i64 z1], .agg #[.int .u16 to_, .int .i64 lv]] w (RetBool w true) := by
  have hb0 := ((Below.refl _ w).alloc (Nat.le_refl _) (.cells #[.int .i64 z0, .int .i64 z1] 52)).alloc (by simp) (.cells #[.int .u16 to_, .int .i64 lv] 54)
  have la := (Lit0.new w 52 #[.int .i64 z0, .int .i64 z1]).alloc (.cells #[.int .u16 to_, .int .i64 lv] 54)
  have lb := Lit0.new (w.alloc (.cells #[.int .i64 z0, .int .i64 z1] 52)) 54 #[.int .u16 to_, .int .i64 lv]
  simp only [World.size_alloc] at lb
  have HB0 := Lib.hid hb0
  have LA := Lib.hid la
  have LB := Lib.hid lb
  have HH := Lib.hid h
  have d1 : decide (base < 1) = false := by simp; omega
  clear hb0 la lb
  go_enter Try.func7, Try.ntmps7
  go_wp2_with fail
  have ez : w.heap.size + 1 + 1 = ((w.alloc (.cells #[.int .i64 z0, .int .i64 z1] 52)).alloc (.cells #[.int .u16 to_, .int .i64 lv] 54)).heap.size := by simp
  generalize (w.alloc (.cells #[.int .i64 z0, .int .i64 z1] 52)).alloc (.cells #[.int .u16 to_, .int .i64 lv] 54) = w0 at HB0 LA LB ez ⊢
  refine (newControl_any base w0).mono ?_
  rintro e w1 (⟨h, _⟩ | ⟨_, g, b, rfl, hg, hb, hc, hb1⟩)
  · exact absurd h (by simpa using d1)
  have LA1 := Lib.hid (LA.out.kept hb1)
  have LB1 := Lib.hid (LB.out.kept hb1)
  have HC := Lib.hid hc
  have HB1 := Lib.hid (HB0.out.trans (hb1.mono HB0.out.size))
  clear hc hb1 LA LB
  have c1 := LA1.out.cell 0
  have c2 := LB1.out.cell 0
  have c3 := LB1.out.cell 1
  simp only [List.getElem?_toArray, List.getElem?_cons_zero, List.getElem?_cons_succ] at c1 c2 c3
  go_wp2_with fail
  refine (hear_any g b 0 base z0 to_ lv (fun _ => none) w1 HC.out HH.out hz0 ht hlv (by decide) (fun _ _ h => by cases h)).mono ?_
  rintro e w2 (⟨h, _⟩ | ⟨_, rfl, hc2, hg2⟩)
  · exact absurd h (by unfold others; rw [tot_none]; decide)
  have LA2 := Lib.hid (LA1.out.grown hg2 (by simp; omega))
  have LB2 := Lib.hid (LB1.out.grown hg2 (by simp; omega))
  have HB2 := Lib.hid (below_grown (grown_trans (grown_below (HB1.out.mono (Nat.le_refl _)) _) hg2) (by have := HB0.out.size; omega) (Nat.le_refl _))
  have HC2 := Lib.hid hc2
  clear hc2 hg2 c1 c2 c3 LA1 LB1 HB1 HC
  have c1 := LA2.out.cell 0
  have c1' := LA2.out.cell 1
  have c2 := LB2.out.cell 0
  have c3 := LB2.out.cell 1
  simp only [List.getElem?_toArray, List.getElem?_cons_zero, List.getElem?_cons_succ] at c1 c1' c2 c3
  have d2 : decide (lv < 0) = false := by simp; omega
  have d3 : decide (3 < lv) = false := by simp; omega
  have d4 : decide (16383 < to_) = false := by simp; omega
  have hm : -9223372036854775808 ≤ 9223372036854775807 - base ∧ 9223372036854775807 - base ≤ 9223372036854775807 := by omega
  go_wp2_with fail
  go_loopw [10, 11] (fun v10 v11 wr => ∃ (W : Int) (k : Nat), wr = w2 ∧ k ≤ 3 ∧ v10 = .int .i64 W ∧ v11 = .int .i64 k ∧ Hid (W = wantOf base z0 z1 lv k)) (fun _ v _ => 3 - (intOf v).toNat)
  case atStart => exact ⟨lv, 0, rfl, by decide, rfl, rfl, Lib.hid (want_start base z0 z1 lv hlv.1 HH.out.1).symm⟩
  case round =>
    obtain ⟨W, k, rfl, hk, rfl, rfl, HW⟩ := hrel
    by_cases hk3 : k < 3
    · have dk : decide ((k : Int) < 3) = true := by simp; omega
      obtain ⟨wo, rfl⟩ : ∃ wo : World, wo = wr := ⟨_, rfl⟩
      go_wp2_with fail
      go_loopw [12, 13, 14] (fun v12 v13 v14 wr => ∃ (D m : Int) (o : Bool) (i : Nat), wo = wr ∧ i ≤ k + 1 ∧ v12 = .int .i64 D ∧ v13 = .bool o ∧ v14 = .int .i64 i ∧ (-9223372036854775808 ≤ D ∧ D ≤ 9223372036854775807) ∧ Hid (m = z0 + i * base) ∧ Hid (o = false → D = m) ∧ Hid (o = true → 9223372036854775807 < m))
        (fun _ _ v _ => k + 1 - (intOf v).toNat)
      case atStart => exact ⟨z0, z0, false, 0, rfl, by omega, rfl, rfl, rfl, hz0, Lib.hid (by simp), Lib.hid (fun _ => rfl), Lib.hid (fun h => by cases h)⟩
      case round =>
        obtain ⟨D, m, o, i, rfl, hi, rfl, rfl, rfl, hD, HM, HF, HT⟩ := hrel
        obtain ⟨D', hD'⟩ : ∃ D', D' = wrap64 (D + base) := ⟨_, rfl⟩
        have hDr : -9223372036854775808 ≤ D' ∧ D' ≤ 9223372036854775807 := by rw [hD']; unfold wrap64; omega
        have hM' : m + base = z0 + ((i + 1 : Nat) : Int) * base := by
          rw [HM.out]
          have : ((i + 1 : Nat) : Int) * base = (i : Int) * base + base := by rw [Int.natCast_succ, Int.add_mul, Int.one_mul]
          omega
        have HM' := Lib.hid hM'
        clear hM'
        by_cases hi2 : i ≤ k
        · have di : decide ((i : Int) ≤ (k : Int)) = true := by simp; omega
          by_cases hov : 9223372036854775807 - base < D
          · have dov : decide (9223372036854775807 - base < D) = true := by simpa using hov
            have hT' : 9223372036854775807 < m + base := by
              cases o with
              | false => have := HF.out rfl; omega
              | true => have := HT.out rfl; omega
            have HT' := Lib.hid hT'
            have HDD := Lib.hid hD'
            clear hT' hD'
            go_wp2_with fail
            go_roundw
            case rel => exact ⟨D', m + base, true, i + 1, by trivial, by omega, by rw [HDD.out], rfl, by simp, hDr, HM', Lib.hid (fun h => by cases h), Lib.hid (fun _ => HT'.out)⟩
            case measure => simp [intOf]; omega
          · have dov : decide (9223372036854775807 - base < D) = false := by simpa using hov
            have hF' : o = false → D' = m + base := fun h => by
              have := HF.out h
              rw [hD', w64 _ (by omega)]
              omega
            have hT' : o = true → 9223372036854775807 < m + base := fun h => by have := HT.out h; omega
            have HT' := Lib.hid hT'
            have HF' := Lib.hid hF'
            have HDD := Lib.hid hD'
            clear hT' hD' hF'
            go_wp2_with fail
            go_roundw
            case rel => exact ⟨D', m + base, o, i + 1, by trivial, by omega, by rw [HDD.out]; first | rfl | rw [w64 _ (by omega)], rfl, by simp, hDr, HM', HF', HT'⟩
            case measure => simp [intOf]; omega
        · have di : decide ((i : Int) ≤ (k : Int)) = false := by simp; omega
          have hik : i = k + 1 := by omega
          clear hD' hDr HM'
          have hmk : m = z0 + ((k : Int) + 1) * base := by rw [HM.out, hik]; rfl
          have HMK := Lib.hid hmk
          clear hmk hik
          have hkk : (((k + 1 : Nat) : Int)) = (k : Int) + 1 := by omega
          by_cases hhit : m ≤ z1 ∧ z0 < z1
          · have ho : o = false := by
              cases o with
              | false => rfl
              | true => have := HT.out rfl; unfold I64 at hz1; omega
            subst ho
            have hDm := HF.out rfl
            subst hDm
            have dz1 : decide (D ≤ z1) = true := by simpa using hhit.1
            have dz2 : decide (z0 < z1) = true := by simpa using hhit.2
            have hw := want_hit base z0 z1 lv k D HH.out.1 HMK.out hhit.1 hhit.2
            have HWW := Lib.hid hw
            clear hw hhit
            by_cases h4 : 0 ≤ lv - k - 1
            · have d5 : decide (0 ≤ lv - k - 1) = true := by simpa using h4
              go_wp2_with fail
              all_goals
                go_roundw
                case rel => exact ⟨_, k + 1, by trivial, by omega, rfl, by simp, Lib.hid (by rw [hkk, HWW.out]; omega)⟩
                case measure => simp [intOf]; omega
            · go_wp2_with fail
              all_goals
                go_roundw
                case rel => exact ⟨_, k + 1, by trivial, by omega, rfl, by simp, Lib.hid (by rw [hkk, HWW.out]; omega)⟩
                case measure => simp [intOf]; omega
          · have hw := want_miss base z0 z1 lv k m HH.out.1 HMK.out hhit
            rw [← HW.out] at hw
            have HWW := Lib.hid hw
            clear hw
            cases o with
            | true =>
              clear hhit
              go_wp2_with fail
              go_roundw
              case rel => exact ⟨W, k + 1, by trivial, by omega, rfl, by simp, Lib.hid (by rw [hkk, HWW.out])⟩
              case measure => simp [intOf]; omega
            | false =>
              have hDm := HF.out rfl
              subst hDm
              by_cases hz : D ≤ z1
              · have dz1 : decide (D ≤ z1) = true := by simpa using hz
                have dz2 : decide (z0 < z1) = false := by simp; omega
                clear hhit
                go_wp2_with fail
                go_roundw
                case rel => exact ⟨W, k + 1, by trivial, by omega, rfl, by simp, Lib.hid (by rw [hkk, HWW.out])⟩
                case measure => simp [intOf]; omega
              · have dz1 : decide (D ≤ z1) = false := by simpa using hz
                clear hhit
                go_wp2_with fail
                go_roundw
                case rel => exact ⟨W, k + 1, by trivial, by omega, rfl, by simp, Lib.hid (by rw [hkk, HWW.out])⟩
                case measure => simp [intOf]; omega
    · have dk : decide ((k : Int) < 3) = false := by simp; omega
      have hk3' : k = 3 := by omega
      subst hk3'
      have hl := clevel_any g b 1 base z1 to_ (upd (fun _ => none) to_ (z0, lv)) wr HC2.out HH.out hz1 (by omega) (fun p hp => by
        simp [upd] at hp
        subst hp
        exact ⟨hz0, hlv⟩)
      have he : levelOf base z1 (upd (fun _ => none) to_ (z0, lv) to_) = W := by
        rw [HW.out]
        simp [levelOf, upd]
        rfl
      rw [he] at hl
      have HL := Lib.hid hl
      clear hl he
      go_wp2_with fail
      refine HL.out.mono ?_
      rintro e w3 ⟨rfl, hb3⟩
      have HB3 := Lib.hid (HB2.out.trans (hb3.mono HB2.out.size))
      clear hb3
      go_wp2_with fail
      refine (lives_any _).mono ?_
      rintro e w4 ⟨rfl, hb4⟩
      have HB4 := Lib.hid (HB3.out.trans (hb4.mono HB3.out.size))
      clear hb4
      go_wp2_with fail
      go_ret
      exact ⟨rfl, HB4.out⟩
end Go.Proofs.Ytljogcdopeflnaa
