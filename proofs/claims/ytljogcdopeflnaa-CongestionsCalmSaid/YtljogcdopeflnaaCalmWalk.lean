/- The law CongestionsCalm: the plain law and the walk. -/
import Derived.Test.YtljogcdopeflnaaSetWalk
namespace Go.Proofs.Ytljogcdopeflnaa
open Go.RowKit

/-- The level lies between what is reached and what is kept. -/
def Between (a b c len lv : Int) : Prop := reachedOf a b c len ≤ lv ∧ lv ≤ keptOf a b c len

theorem reached_is (a b c l : Int) (hl : 0 ≤ l) : reachedOf a b c l = (if a ≤ l then 1 else 0) + (if b ≤ l then 1 else 0) + (if c ≤ l then 1 else 0) := by
  have h : nn l = l := by unfold nn; rw [if_neg (show ¬ l < 0 by omega)]
  unfold reachedOf cnt3
  rw [h]
  simp

theorem kept_is (a b c l : Int) (hl : 0 ≤ l) (ha : 0 ≤ a) (hb : 0 ≤ b) (hc : 0 ≤ c) : keptOf a b c l = (if a / 2 < l then 1 else 0) + (if b / 2 < l then 1 else 0) + (if c / 2 < l then 1 else 0) := by
  have h : nn l = l := by unfold nn; rw [if_neg (show ¬ l < 0 by omega)]
  unfold keptOf cnt3
  simp only [h, Int.tdiv_eq_ediv_of_nonneg ha, Int.tdiv_eq_ediv_of_nonneg hb, Int.tdiv_eq_ediv_of_nonneg hc]
  simp

theorem reached_le_kept (a b c l : Int) (hl : 0 ≤ l) (ha : 1 ≤ a) (hb : 1 ≤ b) (hc : 1 ≤ c) : reachedOf a b c l ≤ keptOf a b c l := by
  rw [reached_is a b c l hl, kept_is a b c l hl (by omega) (by omega) (by omega)]
  split <;> split <;> split <;> split <;> split <;> split <;> omega

theorem between_new (a b c lv l : Int) (hl : 0 ≤ l) (ha : 1 ≤ a) (hb : 1 ≤ b) (hc : 1 ≤ c) : Between a b c l (newLevel a b c lv l) := by
  have h := reached_le_kept a b c l hl ha hb hc
  unfold Between newLevel
  generalize reachedOf a b c l = R at *
  generalize keptOf a b c l = K at *
  split
  · omega
  · split
    · split <;> omega
    · omega

theorem between_zero (a b c : Int) (ha : 1 ≤ a) (hb : 1 ≤ b) (hc : 1 ≤ c) : Between a b c 0 0 := by
  unfold Between
  rw [reached_is a b c 0 (by omega), kept_is a b c 0 (by omega) (by omega) (by omega) (by omega)]
  split <;> split <;> split <;> split <;> split <;> split <;> omega

theorem new_up (a b c lv len l : Int) (h0 : 0 ≤ len) (hl : len ≤ l) (ha : 1 ≤ a) (hb : 1 ≤ b) (hc : 1 ≤ c) (h : Between a b c len lv) : lv ≤ newLevel a b c lv l := by
  have hk : keptOf a b c len ≤ keptOf a b c l := by
    rw [kept_is a b c len h0 (by omega) (by omega) (by omega), kept_is a b c l (by omega) (by omega) (by omega) (by omega)]
    split <;> split <;> split <;> split <;> split <;> split <;> omega
  unfold Between at h
  unfold newLevel
  generalize reachedOf a b c l = R at *
  generalize keptOf a b c l = K at *
  split
  · omega
  · split
    · split <;> omega
    · omega

theorem new_down (a b c lv len l : Int) (h0 : 0 ≤ l) (hl : l ≤ len) (h : Between a b c len lv) : newLevel a b c lv l ≤ lv := by
  have hk : reachedOf a b c l ≤ reachedOf a b c len := by
    rw [reached_is a b c len (by omega), reached_is a b c l (by omega)]
    split <;> split <;> split <;> split <;> split <;> split <;> omega
  unfold Between at h
  unfold newLevel
  generalize reachedOf a b c l = R at *
  generalize keptOf a b c l = K at *
  split
  · omega
  · split
    · split <;> omega
    · omega

/-- Mark number k. -/
def mark (a b c : Int) (k : Int) : Int := if k = 0 then a else if k = 1 then b else c

theorem calm_reached (a b c l L k : Int) (hab : a < b) (hbc : b < c) (hl : 0 ≤ l) (hk : k = 0 ∨ k = 1 ∨ k = 2) (h : Between a b c l L) (hm : mark a b c k ≤ l) : k < L := by
  have h1 := h.1
  rw [reached_is a b c l hl] at h1
  unfold mark at hm
  rcases hk with rfl | rfl | rfl <;> simp at hm <;> revert h1 <;> (repeat' split) <;> omega

theorem calm_kept (a b c l L k : Int) (ha : 1 ≤ a) (hab : a < b) (hbc : b < c) (hl : 0 ≤ l) (hk : k = 0 ∨ k = 1 ∨ k = 2) (h : Between a b c l L) (hm : l ≤ mark a b c k / 2) : L ≤ k := by
  have h1 := h.2
  rw [kept_is a b c l hl (by omega) (by omega) (by omega)] at h1
  unfold mark at hm
  rcases hk with rfl | rfl | rfl <;> simp at hm <;> revert h1 <;> (repeat' split) <;> omega

theorem calm_many (A : Option Addr) (n cp : Nat) (x y z : Int) (w : World) (hn : 200 < n) :
    Calls Try.prog 4 #[.agg #[.int .u8 x, .int .u8 y, .int .u8 z], .slice A n cp] w (RetBool w true) := by
  have hb0 := (Below.refl _ w).alloc (Nat.le_refl _) (.cells #[.int .u8 x, .int .u8 y, .int .u8 z] 23)
  have dn : decide (200 < (n : Int)) = true := by simp; omega
  clear hn
  go_enter Try.func4, Try.ntmps4
  go_wp2_with fail
  refine (lives_any _).mono ?_
  rintro e w1 ⟨rfl, hb1⟩
  go_wp2_with fail
  go_ret
  exact ⟨rfl, hb0.trans (hb1.mono hb0.size)⟩

set_option maxRecDepth 100000 in
set_option maxHeartbeats 4000000 in
theorem calm_law (A : Option Addr) (n cp : Nat) (x y z : Int) (S : Nat → Int) (w : World) (hn : n ≤ 200) (hx : 0 ≤ x ∧ x ≤ 255) (hy : 0 ≤ y ∧ y ≤ 255) (hz : 0 ≤ z ∧ z ≤ 255)
    (hS : Sees w w.heap.size A n (fun i => .int .u8 (S i))) (hSb : ∀ i, i < n → 0 ≤ S i ∧ S i ≤ 255) :
    Calls Try.prog 4 #[.agg #[.int .u8 x, .int .u8 y, .int .u8 z], .slice A n cp] w (RetBool w true) := by
  have dn : decide (200 < (n : Int)) = false := by simp; omega
  have la := Lit0.new w 23 #[.int .u8 x, .int .u8 y, .int .u8 z]
  have hb0 := (Below.refl _ w).alloc (Nat.le_refl _) (.cells #[.int .u8 x, .int .u8 y, .int .u8 z] 23)
  have c0 := la.cell 0
  have c1 := la.cell 1
  have c2 := la.cell 2
  simp only [List.getElem?_toArray, List.getElem?_cons_zero, List.getElem?_cons_succ] at c0 c1 c2
  have HS := Lib.hid hS
  have HSB := Lib.hid hSb
  have HB0 := Lib.hid hb0
  clear la hb0 hS hSb
  have hof := fun w' => of_any x y z w' hx hy hz
  obtain ⟨a, ha⟩ : ∃ a, a = 1 + x % 20 := ⟨_, rfl⟩
  obtain ⟨b, hb⟩ : ∃ b, b = a + 1 + y % 20 := ⟨_, rfl⟩
  obtain ⟨c, hc⟩ : ∃ c, c = b + 1 + z % 20 := ⟨_, rfl⟩
  have hr : 1 ≤ a ∧ a < b ∧ b < c ∧ c ≤ 60 := by omega
  rw [← ha, ← hb, ← hc] at hof
  have HOF := Lib.hid hof
  clear hof ha hb hc hx hy hz
  go_enter Try.func4, Try.ntmps4
  go_wp2_with fail
  refine (HOF.out _).mono ?_
  rintro e w1 ⟨rfl, hb1⟩
  have HB1 := Lib.hid (HB0.out.trans (hb1.mono HB0.out.size))
  clear hb1 c0 c1 c2 HB0
  go_wp2_with fail
  have lm := Lit0.new w1 26 #[.int .i64 a, .int .i64 b, .int .i64 c]
  have hb2 := HB1.out.alloc HB1.out.size (.cells #[.int .i64 a, .int .i64 b, .int .i64 c] 26)
  generalize hgm : w1.heap.size = gm at lm ⊢
  generalize w1.alloc (.cells #[.int .i64 a, .int .i64 b, .int .i64 c] 26) = w2 at lm hb2 ⊢
  refine (newMeter_good a b c w2 (by unfold good; simp; omega)).mono ?_
  rintro e w3 ⟨g, rfl, hg, hm, hb3⟩
  have HM3 := Lib.hid hm
  have LM3 := Lib.hid (lm.kept hb3)
  have HB3 := Lib.hid (hb2.trans (hb3.mono hb2.size))
  have hg0 : Hid (w.heap.size ≤ g) := Lib.hid (Nat.le_trans hb2.size hg)
  have hgne : Hid (gm ≠ g) := Lib.hid (by have := lm.lt; omega)
  clear hm lm hb3 hb2 hg hgm HB1
  go_wp2_with fail
  go_loopw [8, 9, 10] (fun v8 v9 v10 wr => ∃ (lv len : Int) (i : Nat), i ≤ n ∧ v8 = .int .i64 lv ∧ v9 = .int .i64 len ∧ v10 = .int .i64 i ∧ (0 ≤ lv ∧ lv ≤ 3) ∧ (0 ≤ len ∧ len ≤ 69) ∧ Hid (Between a b c len lv) ∧ Hid (Meter wr g a b c lv) ∧ Hid (w3.grownBy wr (some g))) (fun _ _ v _ => n - (intOf v).toNat)
  case atStart => exact ⟨0, 0, 0, by omega, rfl, rfl, rfl, by omega, by omega, Lib.hid (between_zero a b c (by omega) (by omega) (by omega)), HM3, Lib.hid (grown_refl _ _)⟩
  case round =>
    obtain ⟨lv, len, i, hi, rfl, rfl, rfl, hlv, hlen, HBW, HMr, HGr⟩ := hrel
    have HBr := Lib.hid (below_grown (grown_trans (grown_below (HB3.out.mono (Nat.le_refl _)) _) HGr.out) hg0.out (Nat.le_refl _))
    by_cases hin : i < n
    · have din : decide ((i : Int) < (n : Int)) = true := by simp; omega
      have din' : decide (i < n) = true := by simpa using hin
      obtain ⟨bs, off, rfl⟩ := HS.out.form (by omega)
      have cS := (HS.out.below HBr.out).cell hin
      have hSi := HSB.out i hin
      generalize S i = s at cS hSi
      obtain ⟨t, ht⟩ : ∃ t, s % 70 = t := ⟨_, rfl⟩
      have bt : 0 ≤ t ∧ t ≤ 69 := by omega
      obtain ⟨L, hL⟩ : ∃ L, L = newLevel a b c lv t := ⟨_, rfl⟩
      have hbt : Between a b c t L := by rw [hL]; exact between_new a b c lv t bt.1 (by omega) (by omega) (by omega)
      have bL : 0 ≤ L ∧ L ≤ 3 := by
        have h1 := hbt.1
        have h2 := hbt.2
        have h3 := cnt3_le (fun x => decide (x ≤ nn t)) a b c
        have h4 := cnt3_le (fun x => decide (x.tdiv 2 < nn t)) a b c
        unfold reachedOf at h1
        unfold keptOf at h2
        omega
      have hup : len ≤ t → lv ≤ L := fun h => by rw [hL]; exact new_up a b c lv len t hlen.1 h (by omega) (by omega) (by omega) HBW.out
      have hdn : t ≤ len → L ≤ lv := fun h => by rw [hL]; exact new_down a b c lv len t bt.1 h HBW.out
      have hset := set_any g a b c lv t wr HMr.out (by omega) (by omega) (by omega) (by omega)
      unfold RetSet at hset
      rw [← hL] at hset
      have HSET := Lib.hid hset
      have HUP := Lib.hid hup
      have HDN := Lib.hid hdn
      have HBT := Lib.hid hbt
      clear hset hup hdn hbt hL
      go_wp2_with fail
      refine HSET.out.mono ?_
      rintro e w5 ⟨rfl, hm5, hg5⟩
      have HM5 := Lib.hid hm5
      have HG5 := Lib.hid hg5
      have LM5 := (LM3.out.grown HGr.out (by simpa using hgne.out)).grown hg5 (by simpa using hgne.out)
      have m0 := LM5.cell 0
      have m1 := LM5.cell 1
      have m2 := LM5.cell 2
      simp only [List.getElem?_toArray, List.getElem?_cons_zero, List.getElem?_cons_succ] at m0 m1 m2
      clear hm5 hg5 LM5 cS
      go_wp2_with fail
      go_loopw [14] (fun v wr => ∃ k : Int, (k = 0 ∨ k = 1 ∨ k = 2 ∨ k = 3) ∧ w5 = wr ∧ v = .int .i64 k) (fun v _ => 3 - (intOf v).toNat)
      case atStart => exact ⟨0, .inl rfl, rfl, rfl⟩
      case round =>
        obtain ⟨k, hk, rfl, rfl⟩ := hrel
        rcases hk with rfl | rfl | rfl | rfl
        · by_cases hm : a ≤ t
          · have x1 : 0 < L := calm_reached a b c t L 0 hr.2.1 hr.2.2.1 bt.1 (by omega) HBT.out (by simpa [mark] using hm)
            have y1 : decide (a ≤ t) = true := by simpa using hm
            have y2 : decide (L ≤ 0) = false := by simp; omega
            have y3 : decide (t ≤ a / 2) = false := by simp; omega
            go_wp2_with fail
            go_roundw
            case rel => exact ⟨1, by omega, by trivial, rfl⟩
            case measure => simp [intOf]
          · have y1 : decide (a ≤ t) = false := by simpa using hm
            by_cases hh : t ≤ a / 2
            · have x1 : L ≤ 0 := calm_kept a b c t L 0 hr.1 hr.2.1 hr.2.2.1 bt.1 (by omega) HBT.out (by simpa [mark] using hh)
              have y2 : decide (t ≤ a / 2) = true := by simpa using hh
              have y3 : decide (0 < L) = false := by simp; omega
              by_cases ha : t < a
              · have y4 : decide (t < a) = true := by simpa using ha
                go_wp2_with fail
                go_roundw
                case rel => exact ⟨1, by omega, by trivial, rfl⟩
                case measure => simp [intOf]
              · exfalso; omega
            · have y2 : decide (t ≤ a / 2) = false := by simpa using hh
              go_wp2_with fail
              go_roundw
              case rel => exact ⟨1, by omega, by trivial, rfl⟩
              case measure => simp [intOf]
        · by_cases hm : b ≤ t
          · have x1 : 1 < L := calm_reached a b c t L 1 hr.2.1 hr.2.2.1 bt.1 (by omega) HBT.out (by simpa [mark] using hm)
            have y1 : decide (b ≤ t) = true := by simpa using hm
            have y2 : decide (L ≤ 1) = false := by simp; omega
            have y3 : decide (t ≤ b / 2) = false := by simp; omega
            go_wp2_with fail
            go_roundw
            case rel => exact ⟨2, by omega, by trivial, rfl⟩
            case measure => simp [intOf]
          · have y1 : decide (b ≤ t) = false := by simpa using hm
            by_cases hh : t ≤ b / 2
            · have x1 : L ≤ 1 := calm_kept a b c t L 1 hr.1 hr.2.1 hr.2.2.1 bt.1 (by omega) HBT.out (by simpa [mark] using hh)
              have y2 : decide (t ≤ b / 2) = true := by simpa using hh
              have y3 : decide (1 < L) = false := by simp; omega
              by_cases ha : t < a
              · have y4 : decide (t < a) = true := by simpa using ha
                go_wp2_with fail
                go_roundw
                case rel => exact ⟨2, by omega, by trivial, rfl⟩
                case measure => simp [intOf]
              · have y4 : decide (t < a) = false := by simpa using ha
                go_wp2_with fail
                go_roundw
                case rel => exact ⟨2, by omega, by trivial, rfl⟩
                case measure => simp [intOf]
            · have y2 : decide (t ≤ b / 2) = false := by simpa using hh
              go_wp2_with fail
              go_roundw
              case rel => exact ⟨2, by omega, by trivial, rfl⟩
              case measure => simp [intOf]
        · by_cases hm : c ≤ t
          · have x1 : 2 < L := calm_reached a b c t L 2 hr.2.1 hr.2.2.1 bt.1 (by omega) HBT.out (by simpa [mark] using hm)
            have y1 : decide (c ≤ t) = true := by simpa using hm
            have y2 : decide (L ≤ 2) = false := by simp; omega
            have y3 : decide (t ≤ c / 2) = false := by simp; omega
            go_wp2_with fail
            go_roundw
            case rel => exact ⟨3, by omega, by trivial, rfl⟩
            case measure => simp [intOf]
          · have y1 : decide (c ≤ t) = false := by simpa using hm
            by_cases hh : t ≤ c / 2
            · have x1 : L ≤ 2 := calm_kept a b c t L 2 hr.1 hr.2.1 hr.2.2.1 bt.1 (by omega) HBT.out (by simpa [mark] using hh)
              have y2 : decide (t ≤ c / 2) = true := by simpa using hh
              have y3 : decide (2 < L) = false := by simp; omega
              by_cases ha : t < a
              · have y4 : decide (t < a) = true := by simpa using ha
                go_wp2_with fail
                go_roundw
                case rel => exact ⟨3, by omega, by trivial, rfl⟩
                case measure => simp [intOf]
              · have y4 : decide (t < a) = false := by simpa using ha
                go_wp2_with fail
                go_roundw
                case rel => exact ⟨3, by omega, by trivial, rfl⟩
                case measure => simp [intOf]
            · have y2 : decide (t ≤ c / 2) = false := by simpa using hh
              go_wp2_with fail
              go_roundw
              case rel => exact ⟨3, by omega, by trivial, rfl⟩
              case measure => simp [intOf]
        · rcases Int.lt_trichotomy t len with h | h | h
          · have z1 := HDN.out (by omega)
            have z2 : decide (len ≤ t) = false := by simp; omega
            have z3 : decide (t ≤ len) = true := by simp; omega
            have z4 : decide (lv < L) = false := by simp; omega
            go_wp2_with fail
            go_roundw
            case rel => exact ⟨L, t, i + 1, by omega, rfl, rfl, by simp, bL, bt, HBT, HM5, Lib.hid (grown_trans HGr.out HG5.out)⟩
            case measure => simp [intOf]; omega
          · have z1 := HDN.out (by omega)
            have z1' := HUP.out (by omega)
            have z2 : decide (len ≤ t) = true := by simp; omega
            have z3 : decide (t ≤ len) = true := by simp; omega
            have z4 : decide (lv < L) = false := by simp; omega
            have z5 : decide (L < lv) = false := by simp; omega
            go_wp2_with fail
            go_roundw
            case rel => exact ⟨L, t, i + 1, by omega, rfl, rfl, by simp, bL, bt, HBT, HM5, Lib.hid (grown_trans HGr.out HG5.out)⟩
            case measure => simp [intOf]; omega
          · have z1' := HUP.out (by omega)
            have z2 : decide (len ≤ t) = true := by simp; omega
            have z3 : decide (t ≤ len) = false := by simp; omega
            have z5 : decide (L < lv) = false := by simp; omega
            go_wp2_with fail
            go_roundw
            case rel => exact ⟨L, t, i + 1, by omega, rfl, rfl, by simp, bL, bt, HBT, HM5, Lib.hid (grown_trans HGr.out HG5.out)⟩
            case measure => simp [intOf]; omega
    · have din : decide ((i : Int) < (n : Int)) = false := by simp; omega
      have din' : decide (i < n) = false := by simp; omega
      go_wp2_with fail
      refine (lives_any _).mono ?_
      rintro e w4 ⟨rfl, hb4⟩
      go_wp2_with fail
      go_ret
      exact ⟨rfl, HBr.out.trans (hb4.mono HBr.out.size)⟩
end Go.Proofs.Ytljogcdopeflnaa
