/- The law CongestionsErrors: the walk. -/
import Derived.Test.YtljogcdopeflnaaLives
namespace Go.Proofs.Ytljogcdopeflnaa
open Go.RowKit

theorem newMeter_bad (a b c : Int) (w : World) (h : good a b c = false) : Calls Try.prog 11 #[.agg #[.int .i64 a, .int .i64 b, .int .i64 c]] w fun e w' => e = .returned (.tuple #[.pointer none, .int .i64 1]) ∧ Below w.heap.size w w' :=
  (newMeter_any a b c w).mono fun e w' hp => by
    rcases hp with ⟨_, h1, h2⟩ | ⟨h0, _⟩
    · exact ⟨h1, h2⟩
    · rw [h] at h0; cases h0

theorem newMeter_good (a b c : Int) (w : World) (h : good a b c = true) : Calls Try.prog 11 #[.agg #[.int .i64 a, .int .i64 b, .int .i64 c]] w fun e w' => ∃ g, e = .returned (.tuple #[.pointer (some ⟨g, 0, none⟩), .int .i64 0]) ∧ w.heap.size ≤ g ∧ Meter w' g a b c 0 ∧ Below w.heap.size w w' :=
  (newMeter_any a b c w).mono fun e w' hp => by
    rcases hp with ⟨h0, _⟩ | ⟨_, h1⟩
    · rw [h] at h0; cases h0
    · exact h1

/-- The first i destinations are recorded. -/
def fI (i : Nat) (k : Int) : Option (Int × Int) := if 0 ≤ k ∧ k < i then some (1000, 1) else none

theorem fI_zero : fI 0 = fun _ => none := by
  funext k
  unfold fI
  rw [if_neg (by omega)]

theorem fI_succ (i : Nat) : upd (fI i) i (1000, 1) = fI (i + 1) := by
  funext k
  unfold upd fI
  by_cases e : k = i
  · rw [if_pos e, if_pos (by omega)]
  · rw [if_neg e]
    by_cases h : 0 ≤ k ∧ k < i
    · rw [if_pos h, if_pos (by omega)]
    · rw [if_neg h, if_neg (by omega)]

theorem fI_ok (i : Nat) (k : Int) (p : Int × Int) (h : fI i k = some p) : I64 p.1 ∧ 0 ≤ p.2 ∧ p.2 ≤ 3 := by
  unfold fI at h
  split at h
  · injection h with h
    subst h
    exact ⟨⟨by decide, by decide⟩, by decide, by decide⟩
  · cases h

theorem tot_stop (q : Int → Int × Int → Bool) (f : Int → Option (Int × Int)) (m : Nat) (h : ∀ k : Int, (m : Int) ≤ k → f k = none) : ∀ n, m ≤ n → tot q f n = tot q f m
  | 0, hm => by rw [show m = 0 by omega]
  | n + 1, hm => by
    by_cases e : m = n + 1
    · rw [e]
    · have := tot_stop q f m h n (by omega)
      rw [← this, tot, h n (by omega)]
      rfl

def f2 : Int → Option (Int × Int) := upd (fI 64) 3 (1004, 2)

theorem f2_ok (k : Int) (p : Int × Int) (h : f2 k = some p) : I64 p.1 ∧ 0 ≤ p.2 ∧ p.2 ≤ 3 := by
  unfold f2 upd at h
  split at h
  · injection h with h
    subst h
    exact ⟨⟨by decide, by decide⟩, by decide, by decide⟩
  · exact fI_ok 64 k p h

theorem fI_high (k : Int) (h : ((64 : Nat) : Int) ≤ k) : fI 64 k = none := by
  unfold fI
  rw [if_neg (by omega)]

theorem f2_high (k : Int) (h : ((64 : Nat) : Int) ≤ k) : f2 k = none := by
  unfold f2 upd
  rw [if_neg (by omega), fI_high k h]

theorem n64 : others 5 1004 64 (fI 64) = 64 := by
  unfold others
  rw [tot_stop _ _ 64 fI_high _ (by decide)]
  decide +kernel
theorem n63 : others 5 1004 3 (fI 64) = 63 := by
  unfold others
  rw [tot_stop _ _ 64 fI_high _ (by decide)]
  decide +kernel
theorem n1 : others 5 1005 64 f2 = 1 := by
  unfold others
  rw [tot_stop _ _ 64 f2_high _ (by decide)]
  decide +kernel

theorem case_of (a b c : Int) : (a < 1) ∨ (1 ≤ a ∧ b ≤ a) ∨ (1 ≤ a ∧ a < b ∧ c ≤ b) ∨ (1 ≤ a ∧ a < b ∧ b < c) := by omega

set_option maxHeartbeats 1000000 in
theorem errors_any (a b c l now : Int) (w : World) :
    Calls Try.prog 8 #[.agg #[.int .i64 a, .int .i64 b, .int .i64 c], .int .i64 l, .int .i64 now] w (RetBool w true) := by
  have hb0 := (Below.refl _ w).alloc (Nat.le_refl _) (.cells #[.int .i64 a, .int .i64 b, .int .i64 c] 26)
  have la := Lit0.new w 26 #[.int .i64 a, .int .i64 b, .int .i64 c]
  have HB0 := Lib.hid hb0
  have LA := Lib.hid la
  clear hb0 la
  have key : (∃ P E, (∀ w0, Calls Try.prog 11 #[.agg #[.int .i64 a, .int .i64 b, .int .i64 c]] w0 fun e w' => ∃ P', e = .returned (.tuple #[.pointer P', .int .i64 E]) ∧ (E = 1 → P' = P) ∧ Below w0.heap.size w0 w') ∧ P = none ∧ ((E = 0 ∧ 1 ≤ a ∧ a < b ∧ b < c) ∨ (E = 1 ∧ ¬ (1 ≤ a ∧ a < b ∧ b < c)))) := by
    by_cases h : 1 ≤ a ∧ a < b ∧ b < c
    · refine ⟨none, 0, fun w0 => (newMeter_good a b c w0 (by unfold good; simp; omega)).mono ?_, rfl, .inl ⟨rfl, h⟩⟩
      rintro e w' ⟨g, h1, _, _, h2⟩
      exact ⟨_, h1, (fun h => by cases h), h2⟩
    · refine ⟨none, 1, fun w0 => (newMeter_bad a b c w0 (by unfold good; simp; omega)).mono ?_, rfl, .inr ⟨rfl, h⟩⟩
      rintro e w' ⟨h1, h2⟩
      exact ⟨_, h1, fun _ => rfl, h2⟩
  obtain ⟨_, E, hcall, rfl, hE⟩ := key
  have HCALL := Lib.hid hcall
  clear hcall
  have hcase := case_of a b c
  have d0 : (E = 0 ∧ decide (1 ≤ a) = true ∧ decide (a < b) = true ∧ decide (b < c) = true) ∨ (E = 1 ∧ decide (1 ≤ a) = true ∧ decide (a < b) = true ∧ decide (b < c) = false) ∨ (E = 1 ∧ decide (1 ≤ a) = true ∧ decide (a < b) = false ∧ True) ∨ (E = 1 ∧ decide (1 ≤ a) = false ∧ True ∧ True) := by
    simp only [decide_eq_true_eq, decide_eq_false_iff_not]
    rcases hcase with h | h | h | h
    · exact .inr (.inr (.inr ⟨by omega, by omega, trivial, trivial⟩))
    · exact .inr (.inr (.inl ⟨by omega, by omega, by omega, trivial⟩))
    · exact .inr (.inl ⟨by omega, by omega, by omega, by omega⟩)
    · exact .inl ⟨by omega, by omega, by omega, by omega⟩
  clear hcase hE
  go_enter Try.func8, Try.ntmps8
  have c0 := LA.out.cell 0
  have c1 := LA.out.cell 1
  have c2 := LA.out.cell 2
  simp only [List.getElem?_toArray, List.getElem?_cons_zero, List.getElem?_cons_succ] at c0 c1 c2
  go_wp2_with fail
  have ez : (w.alloc (.cells #[.int .i64 a, .int .i64 b, .int .i64 c] 26)).heap.size = w.heap.size + 1 := by simp
  generalize (w.alloc (.cells #[.int .i64 a, .int .i64 b, .int .i64 c] 26)) = w0 at HB0 LA c0 c1 c2 ez ⊢
  refine (HCALL.out _).mono ?_
  rintro e w1 ⟨P, rfl, hP, hb1⟩
  have c0' := (LA.out.kept hb1).cell 0
  have c1' := (LA.out.kept hb1).cell 1
  have c2' := (LA.out.kept hb1).cell 2
  simp only [List.getElem?_toArray, List.getElem?_cons_zero, List.getElem?_cons_succ] at c0' c1' c2'
  have HB1 := Lib.hid (HB0.out.trans (hb1.mono HB0.out.size))
  have HP := Lib.hid hP
  clear c0 c1 c2 LA hb1 hP ez HB0 HCALL
  rcases d0 with ⟨rfl, d1, d2, d3⟩ | ⟨rfl, d1, d2, d3⟩ | ⟨rfl, d1, d2, d3⟩ | ⟨rfl, d1, d2, d3⟩
  all_goals
    try obtain rfl := HP.out rfl
    go_wp2_with fail
    clear d1 d2 d3 c0' c1' c2'
    have hz := Lit0.new w1 57 #[.int .i64 0, .int .i64 0, .int .i64 0, .int .i64 0]
    have hb2 := HB1.out.alloc HB1.out.size (.cells #[.int .i64 0, .int .i64 0, .int .i64 0, .int .i64 0] 57)
    generalize w1.alloc (.cells #[.int .i64 0, .int .i64 0, .int .i64 0, .int .i64 0] 57) = w2 at hz hb2 ⊢
    generalize w1.heap.size = gz at hz ⊢
    refine (set_nil l w2).mono ?_
    rintro e w3 ⟨rfl, hb3⟩
    have HZ := Lib.hid (hz.kept hb3)
    have HB3 := Lib.hid (hb2.trans (hb3.mono hb2.size))
    clear hz hb2 hb3
    go_wp2_with fail
    refine (set_zero gz 0 0 0 l w3 HZ.out).mono ?_
    rintro e w4 ⟨rfl, hb4⟩
    have HZ4 := Lib.hid (HZ.out.kept hb4)
    have HB4 := Lib.hid (HB3.out.trans (hb4.mono HB3.out.size))
    clear HZ HB3 hb4
    go_wp2_with fail
    have hz5 := Lit0.alloc HZ4.out (.cells #[.int .i64 0, .map none] 60)
    have hc5 := Lit0.new w4 60 #[.int .i64 0, .map none]
    have hb5 := HB4.out.alloc HB4.out.size (.cells #[.int .i64 0, .map none] 60)
    generalize w4.alloc (.cells #[.int .i64 0, .map none] 60) = w5 at hz5 hc5 hb5 ⊢
    generalize w4.heap.size = gn at hc5 ⊢
    have HZ5 := Lib.hid hz5
    have HC5 := Lib.hid hc5
    have HB5 := Lib.hid hb5
    clear hz5 hc5 hb5 HZ4 HB4
    refine (level_nil w5).mono ?_
    rintro e w6 ⟨rfl, rfl⟩
    go_wp2_with fail
    refine (level_any gz 0 0 0 0 w5 HZ5.out).mono ?_
    rintro e w6 ⟨rfl, rfl⟩
    go_wp2_with fail
    refine (clevel_nil now 1 w5).mono ?_
    rintro e w6 ⟨rfl, rfl⟩
    go_wp2_with fail
    refine (clevel_zero gn now 1 (.map none) w5 HC5.out).mono ?_
    rintro e w6 ⟨rfl, rfl⟩
    go_wp2_with fail
    refine (hear_nil now 1 1 w5).mono ?_
    rintro e w6 ⟨rfl, rfl⟩
    go_wp2_with fail
    refine (hear_zero gn now 1 1 (.map none) w5 HC5.out).mono ?_
    rintro e w6 ⟨rfl, rfl⟩
    go_wp2_with fail
    refine (newControl_any 5 w5).mono ?_
    rintro e w6 (⟨h, _⟩ | ⟨_, g, b, rfl, hg, hb, hc, hb6⟩)
    · exact absurd h (by decide)
    have HC6 := Lib.hid hc
    have HB6 := Lib.hid (HB5.out.trans (hb6.mono HB5.out.size))
    have hbb : Hid (w.heap.size ≤ b) := Lib.hid (Nat.le_trans HB5.out.size hb)
    clear hc hb6 HZ5 HC5 hg hb HB5
    go_wp2_with fail
    go_loopw [20] (fun v wr => ∃ i : Nat, i ≤ 64 ∧ v = .int .i64 i ∧ Hid (Ctl wr g b 5 i (fI i)) ∧ Hid (w6.grownBy wr (some b))) (fun v _ => 64 - (intOf v).toNat)
    case atStart => exact ⟨0, by decide, rfl, Lib.hid (by rw [fI_zero]; exact HC6.out), Lib.hid (grown_refl _ _)⟩
    case round =>
      obtain ⟨i, hi, rfl, HCr, HGr⟩ := hrel
      by_cases hi2 : i < 64
      · have di : decide ((i : Int) < 64) = true := by simp; omega
        have hh := hear_any g b i 5 1000 i 1 (fI i) wr HCr.out (by decide) (by unfold I64; decide) (by omega) (by decide) (by omega) (fI_ok i)
        have hfew : others 5 1000 i (fI i) ≤ i := tot_few _ _ i (fun k hk => by unfold fI; rw [if_neg (by omega)]) _
        have HHH := Lib.hid hh
        clear hh
        go_wp2_with fail
        refine HHH.out.mono ?_
        rintro e w7 (⟨h, _⟩ | ⟨_, rfl, hc7, hg7⟩)
        · omega
        rw [fI_succ] at hc7
        have HC7 := Lib.hid hc7
        have HG7 := Lib.hid hg7
        clear hc7 hg7
        go_wp2_with fail
        go_roundw
        case rel => exact ⟨i + 1, by omega, by simp, HC7, Lib.hid (grown_trans HGr.out HG7.out)⟩
        case measure => simp [intOf]; omega
      · have di : decide ((i : Int) < 64) = false := by simp; omega
        obtain rfl : i = 64 := by omega
        have HBr := Lib.hid (below_grown (grown_trans (grown_below (HB6.out.mono (Nat.le_refl _)) _) HGr.out) hbb.out (Nat.le_refl _))
        clear HGr
        go_wp2_with fail
        refine (hear_any g b 64 5 1004 64 1 (fI 64) wr HCr.out (by decide) (by unfold I64; decide) (by decide) (by decide) (by decide) (fI_ok 64)).mono ?_
        rintro e w7 (⟨_, rfl, hb7⟩ | ⟨h, _⟩)
        · have HC7 := Lib.hid (HCr.out.kept hb7)
          have HB7 := Lib.hid (HBr.out.trans (hb7.mono HBr.out.size))
          clear hb7
          go_wp2_with fail
          refine (hear_any g b 64 5 1004 3 2 (fI 64) w7 HC7.out (by decide) (by unfold I64; decide) (by decide) (by decide) (by decide) (fI_ok 64)).mono ?_
          rintro e w8 (⟨h, _⟩ | ⟨_, rfl, hc8, hg8⟩)
          · exact absurd h (by rw [n63]; decide)
          have HC8 : Hid (Ctl w8 g b 5 65 f2) := Lib.hid hc8
          have HB8 := Lib.hid (below_grown (grown_trans (grown_below (HB7.out.mono (Nat.le_refl _)) _) hg8) hbb.out (Nat.le_refl _))
          have hl := clevel_any g b 65 5 1004 64 f2 w8 hc8 (by decide) (by unfold I64; decide) (by decide) (fun p hp => f2_ok 64 p hp)
          rw [show levelOf 5 1004 (f2 64) = 0 by decide] at hl
          have HL := Lib.hid hl
          clear hl hc8 hg8
          go_wp2_with fail
          refine HL.out.mono ?_
          rintro e w9 ⟨rfl, hb9⟩
          have HC9 := Lib.hid (HC8.out.kept hb9)
          have HB9 := Lib.hid (HB8.out.trans (hb9.mono HB8.out.size))
          clear hb9
          go_wp2_with fail
          refine (hear_any g b 65 5 1005 64 1 f2 w9 HC9.out (by decide) (by unfold I64; decide) (by decide) (by decide) (by decide) f2_ok).mono ?_
          rintro e w10 (⟨h, _⟩ | ⟨_, rfl, hc10, hg10⟩)
          · exact absurd h (by rw [n1]; decide)
          have HB10 := Lib.hid (below_grown (grown_trans (grown_below (HB9.out.mono (Nat.le_refl _)) _) hg10) hbb.out (Nat.le_refl _))
          clear hc10 hg10
          go_wp2_with fail
          refine (lives_any _).mono ?_
          rintro e w11 ⟨rfl, hb11⟩
          have HB11 := Lib.hid (HB10.out.trans (hb11.mono HB10.out.size))
          clear hb11
          go_wp2_with fail
          go_ret
          exact ⟨rfl, HB11.out⟩
        · exact absurd h (by rw [n64]; decide)
end Go.Proofs.Ytljogcdopeflnaa
