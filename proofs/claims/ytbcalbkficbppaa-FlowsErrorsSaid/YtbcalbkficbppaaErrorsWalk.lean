/- The law FlowsErrors: the walk. -/
import Derived.Test.YtbcalbkficbppaaLives
namespace Go.Proofs.Ytbcalbkficbppaa
open Go.RowKit

theorem congest_err (P : Value) (on : Bool) (w : World) (h : Calls Try.prog 29 #[P] w fun e w' => e = .returned (.int .i64 2) ∧ w = w') : Calls Try.prog 12 #[P, .bool on] w (RetInt (fun n w' => n = 2 ∧ w = w')) := by
  have H := Lib.hid h
  clear h
  go_enter Try.func12, Try.ntmps12
  go_wp2_with fail
  refine H.out.mono ?_
  rintro e w1 ⟨rfl, rfl⟩
  go_wp2_with fail
  go_ret
  exact ⟨2, rfl, rfl, rfl⟩

theorem outage_err (P : Value) (on : Bool) (w : World) (h : Calls Try.prog 29 #[P] w fun e w' => e = .returned (.int .i64 2) ∧ w = w') : Calls Try.prog 27 #[P, .bool on] w (RetInt (fun n w' => n = 2 ∧ w = w')) := by
  have H := Lib.hid h
  clear h
  go_enter Try.func27, Try.ntmps27
  go_wp2_with fail
  refine H.out.mono ?_
  rintro e w1 ⟨rfl, rfl⟩
  go_wp2_with fail
  go_ret
  exact ⟨2, rfl, rfl, rfl⟩

theorem open_err (P : Value) (on ack : Bool) (w : World) (h : Calls Try.prog 29 #[P] w fun e w' => e = .returned (.int .i64 2) ∧ w = w') : Calls Try.prog 17 #[P, .bool on, .bool ack] w (RetInt (fun n w' => n = 2 ∧ w = w')) := by
  have H := Lib.hid h
  clear h
  go_enter Try.func17, Try.ntmps17
  go_wp2_with fail
  refine H.out.mono ?_
  rintro e w1 ⟨rfl, rfl⟩
  go_wp2_with fail
  go_ret
  exact ⟨2, rfl, rfl, rfl⟩

theorem tick_err (P : Value) (w : World) (h : Calls Try.prog 29 #[P] w fun e w' => e = .returned (.int .i64 2) ∧ w = w') : Calls Try.prog 14 #[P] w (RetInt (fun n w' => n = 2 ∧ w = w')) := by
  have H := Lib.hid h
  clear h
  go_enter Try.func14, Try.ntmps14
  go_wp2_with fail
  refine H.out.mono ?_
  rintro e w1 ⟨rfl, rfl⟩
  go_wp2_with fail
  go_ret
  exact ⟨2, rfl, rfl, rfl⟩

theorem hear_err (P : Value) (st : Int) (on : Bool) (w : World) (h : Calls Try.prog 29 #[P] w fun e w' => e = .returned (.int .i64 2) ∧ w = w') : Calls Try.prog 19 #[P, .int .u8 st, .bool on] w (RetInt (fun n w' => n = 2 ∧ w = w')) := by
  have H := Lib.hid h
  clear h
  go_enter Try.func19, Try.ntmps19
  go_wp2_with fail
  refine H.out.mono ?_
  rintro e w1 ⟨rfl, rfl⟩
  go_wp2_with fail
  go_ret
  exact ⟨2, rfl, rfl, rfl⟩

theorem perform_err (P : Value) (a : Int) (w : World) (ha : 0 ≤ a ∧ a ≤ 255) (h : Calls Try.prog 29 #[P] w fun e w' => e = .returned (.int .i64 2) ∧ w = w') : Calls Try.prog 24 #[P, .int .u8 a] w (RetInt (fun n w' => n = 2 ∧ w = w')) := by
  by_cases h2 : a < 2
  · exact perform_congest P a w _ h2 (congest_err P _ w h)
  by_cases h4 : a < 4
  · exact perform_outage P a w _ ha ⟨h2, h4⟩ (outage_err P _ w h)
  by_cases h8 : a < 8
  · exact perform_open P a w _ ha ⟨h4, h8⟩ (open_err P _ _ w h)
  by_cases e8 : a = 8
  · exact perform_tick P a w _ e8 (tick_err P w h)
  by_cases e9 : a = 9
  · exact perform_unit P a w _ e9 (hear_err P _ _ w h)
  exact perform_hear P a w _ (by omega) (hear_err P _ _ w h)

/-- Is a duration bad? -/
def vT (n : Int) : Prop := n < 1 ∨ 1048576 < n
instance (n : Int) : Decidable (vT n) := by unfold vT; infer_instance
def wTo (t0 t1 t2 : Int) (k : Int) : Int := if (1 ≤ k ∧ vT t0) ∨ (2 ≤ k ∧ vT t1) ∨ (3 ≤ k ∧ vT t2) then 1 else 0
theorem w_end (t0 t1 t2 : Int) : wTo t0 t1 t2 3 = if okT t0 t1 t2 then 0 else 1 := by
  unfold wTo okT vT
  by_cases h : (1 ≤ (3:Int) ∧ (t0 < 1 ∨ 1048576 < t0)) ∨ (2 ≤ (3:Int) ∧ (t1 < 1 ∨ 1048576 < t1)) ∨ (3 ≤ (3:Int) ∧ (t2 < 1 ∨ 1048576 < t2))
  · rw [if_pos h, if_neg (by simp; omega)]
  · rw [if_neg h, if_pos (by simp; omega)]

set_option maxRecDepth 100000 in
set_option maxHeartbeats 4000000 in
theorem errors_any (t0 t1 t2 a : Int) (w : World) (ha : 0 ≤ a ∧ a ≤ 255) :
    Calls Try.prog 9 #[.agg #[.int .i64 t0, .int .i64 t1, .int .i64 t2], .int .u8 a] w (RetBool w true) := by
  have hb0 := (Below.refl _ w).alloc (Nat.le_refl _) (.cells #[.int .i64 t0, .int .i64 t1, .int .i64 t2] 25)
  have hl0 := Lit0.new w 25 #[.int .i64 t0, .int .i64 t1, .int .i64 t2]
  have c0 := hl0.cell 0
  have c1 := hl0.cell 1
  have c2 := hl0.cell 2
  simp only [List.getElem?_toArray, List.getElem?_cons_zero, List.getElem?_cons_succ] at c0 c1 c2
  have HB0 := Lib.hid hb0
  have HL0 := Lib.hid hl0
  clear hb0 hl0
  go_enter Try.func9, Try.ntmps9
  go_wp2_with fail
  have ll := Lit0.new (w.alloc (.cells #[.int .i64 t0, .int .i64 t1, .int .i64 t2] 25)) 3 #[.int .i64 t0, .int .i64 t1, .int .i64 t2]
  have lt := HL0.out.alloc (.cells #[.int .i64 t0, .int .i64 t1, .int .i64 t2] 3)
  have hb2 := HB0.out.alloc HB0.out.size (.cells #[.int .i64 t0, .int .i64 t1, .int .i64 t2] 3)
  simp only [World.size_alloc] at ll
  clear c0 c1 c2
  generalize (w.alloc (.cells #[.int .i64 t0, .int .i64 t1, .int .i64 t2] 25)).alloc (.cells #[.int .i64 t0, .int .i64 t1, .int .i64 t2] 3) = w2 at ll lt hb2 ⊢
  have c0 := ll.cell 0
  have c1 := ll.cell 1
  have c2 := ll.cell 2
  have e0 := lt.cell 0
  have e1 := lt.cell 1
  have e2 := lt.cell 2
  simp only [List.getElem?_toArray, List.getElem?_cons_zero, List.getElem?_cons_succ] at c0 c1 c2 e0 e1 e2
  have HB2 := Lib.hid hb2
  clear ll lt hb2
  go_loopw [5, 7] (fun v5 v7 wr => ∃ k : Int, (k = 0 ∨ k = 1 ∨ k = 2 ∨ k = 3) ∧ w2 = wr ∧ v7 = .int .i64 k ∧ v5 = .int .i64 (wTo t0 t1 t2 k)) (fun _ v _ => 3 - (intOf v).toNat)
  case atStart => exact ⟨0, .inl rfl, rfl, rfl, by simp [wTo]⟩
  case round =>
    obtain ⟨k, hk, rfl, rfl, rfl⟩ := hrel
    rcases hk with rfl | rfl | rfl | rfl
    · by_cases h1 : t0 < 1
      · have d1 : decide (t0 < 1) = true := by simpa using h1
        go_wp2_with fail
        go_roundw
        case rel => exact ⟨1, by omega, by trivial, rfl, by unfold wTo; simp [vT, h1]⟩
        case measure => simp [intOf]
      · have d1 : decide (t0 < 1) = false := by simpa using h1
        by_cases h2 : 1048576 < t0
        · have d2 : decide (1048576 < t0) = true := by simpa using h2
          go_wp2_with fail
          go_roundw
          case rel => exact ⟨1, by omega, by trivial, rfl, by unfold wTo; simp [vT, h2]⟩
          case measure => simp [intOf]
        · have d2 : decide (1048576 < t0) = false := by simpa using h2
          have e1 : wTo t0 t1 t2 1 = wTo t0 t1 t2 0 := by unfold wTo; simp [vT, h1, h2]
          have E1 := Lib.hid e1
          clear e1
          generalize wTo t0 t1 t2 0 = u at E1 ⊢
          go_wp2_with fail
          go_roundw
          case rel => exact ⟨1, by omega, by trivial, rfl, by rw [E1.out]⟩
          case measure => simp [intOf]
    · by_cases h1 : t1 < 1
      · have d1 : decide (t1 < 1) = true := by simpa using h1
        go_wp2_with fail
        go_roundw
        case rel => exact ⟨2, by omega, by trivial, rfl, by unfold wTo; simp [vT, h1]⟩
        case measure => simp [intOf]
      · have d1 : decide (t1 < 1) = false := by simpa using h1
        by_cases h2 : 1048576 < t1
        · have d2 : decide (1048576 < t1) = true := by simpa using h2
          go_wp2_with fail
          go_roundw
          case rel => exact ⟨2, by omega, by trivial, rfl, by unfold wTo; simp [vT, h2]⟩
          case measure => simp [intOf]
        · have d2 : decide (1048576 < t1) = false := by simpa using h2
          have e1 : wTo t0 t1 t2 2 = wTo t0 t1 t2 1 := by unfold wTo; simp [vT, h1, h2]
          have E1 := Lib.hid e1
          clear e1
          generalize wTo t0 t1 t2 1 = u at E1 ⊢
          go_wp2_with fail
          go_roundw
          case rel => exact ⟨2, by omega, by trivial, rfl, by rw [E1.out]⟩
          case measure => simp [intOf]
    · by_cases h1 : t2 < 1
      · have d1 : decide (t2 < 1) = true := by simpa using h1
        go_wp2_with fail
        go_roundw
        case rel => exact ⟨3, by omega, by trivial, rfl, by unfold wTo; simp [vT, h1]⟩
        case measure => simp [intOf]
      · have d1 : decide (t2 < 1) = false := by simpa using h1
        by_cases h2 : 1048576 < t2
        · have d2 : decide (1048576 < t2) = true := by simpa using h2
          go_wp2_with fail
          go_roundw
          case rel => exact ⟨3, by omega, by trivial, rfl, by unfold wTo; simp [vT, h2]⟩
          case measure => simp [intOf]
        · have d2 : decide (1048576 < t2) = false := by simpa using h2
          have e1 : wTo t0 t1 t2 3 = wTo t0 t1 t2 2 := by unfold wTo; simp [vT, h1, h2]
          have E1 := Lib.hid e1
          clear e1
          generalize wTo t0 t1 t2 2 = u at E1 ⊢
          go_wp2_with fail
          go_roundw
          case rel => exact ⟨3, by omega, by trivial, rfl, by rw [E1.out]⟩
          case measure => simp [intOf]
    · rw [w_end]
      have HNEW := Lib.hid (new_any t0 t1 t2 w2)
      cases hok : okT t0 t1 t2
      · have HOK := Lib.hid hok
        clear hok
        go_wp2_with fail
        refine HNEW.out.mono ?_
        rintro e w3 (⟨_, rfl, hb3⟩ | ⟨h, _⟩)
        · have HB3 := Lib.hid (HB2.out.trans (hb3.mono HB2.out.size))
          clear hb3 c0 c1 c2 e0 e1 e2
          go_wp2_with fail
          have hz0 := Lit0.new w3 62 (Fs.start 0 0 0).cells
          have hb0 := HB3.out.alloc HB3.out.size (.cells (Fs.start 0 0 0).cells 62)
          have ez : w3.alloc (.cells #[.int .i64 0, .int .i64 0, .int .i64 0, .bool false, .int .i64 0, .bool false, .bool false, .int .i64 0, .int .i64 0, .bool false] 62) = w3.alloc (.cells (Fs.start 0 0 0).cells 62) := rfl
          rw [ez]
          generalize w3.alloc (.cells (Fs.start 0 0 0).cells 62) = w4 at hz0 hb0 ⊢
          generalize w3.heap.size = gz at hz0 ⊢
          have HZ4 := Lib.hid hz0
          have HB4 := Lib.hid hb0
          clear hz0 hb0 ez
          refine (held_nil w4).mono ?_
          rintro e x1 ⟨rfl, rfl⟩
          go_wp2_with fail
          refine (held_any gz (Fs.start 0 0 0) w4 HZ4.out).mono ?_
          rintro e w5 ⟨rfl, hb5⟩
          have HZ5 : Hid (Fl w5 gz (Fs.start 0 0 0)) := Lib.hid (Lit0.kept HZ4.out hb5)
          have HB5 := Lib.hid (HB4.out.trans (hb5.mono HB4.out.size))
          clear hb5
          have pn := Lib.hid (perform_err (.pointer none) a w5 ha (state_nil w5))
          have pz := Lib.hid (perform_err (.pointer (some ⟨gz, 0, none⟩)) a w5 ha (state_zero gz w5 HZ5.out))
          go_wp2_with fail
          refine pn.out.mono ?_
          rintro e x1 ⟨_, rfl, rfl, rfl⟩
          go_wp2_with fail
          refine pz.out.mono ?_
          rintro e x1 ⟨_, rfl, rfl, rfl⟩
          go_wp2_with fail
          refine (says_nil w5).mono ?_
          rintro e x1 ⟨rfl, rfl⟩
          go_wp2_with fail
          refine (says_zero gz w5 HZ5.out).mono ?_
          rintro e x1 ⟨rfl, rfl⟩
          go_wp2_with fail
          refine (failed_nil w5).mono ?_
          rintro e x1 ⟨rfl, rfl⟩
          go_wp2_with fail
          refine (failed_any gz (Fs.start 0 0 0) w5 HZ5.out).mono ?_
          rintro e x1 ⟨rfl, rfl⟩
          go_wp2_with fail
          refine (lives_any w5).mono ?_
          rintro e w6 ⟨rfl, hb6⟩
          go_wp2_with fail
          go_ret
          exact ⟨rfl, HB5.out.trans (hb6.mono HB5.out.size)⟩
        · rw [HOK.out] at h; cases h
      · have HOK := Lib.hid hok
        have HOKS := Lib.hid (ok_start hok)
        clear hok
        go_wp2_with fail
        refine HNEW.out.mono ?_
        rintro e w3 (⟨h, _⟩ | ⟨_, g, rfl, hg3, hf3, hb3⟩)
        · rw [HOK.out] at h; cases h
        · have HB3 := Lib.hid (HB2.out.trans (hb3.mono HB2.out.size))
          have HX3 := Lib.hid hf3
          have HGE := Lib.hid (Nat.le_trans HB2.out.size hg3)
          clear hb3 hf3 hg3 c0 c1 c2 e0 e1 e2
          go_wp2_with fail
          have hz0 := Lit0.new w3 62 (Fs.start 0 0 0).cells
          have hb0 := HB3.out.alloc HB3.out.size (.cells (Fs.start 0 0 0).cells 62)
          have hx0 := HX3.out.kept ((Below.refl _ w3).alloc (Nat.le_refl _) (.cells (Fs.start 0 0 0).cells 62))
          have ez : w3.alloc (.cells #[.int .i64 0, .int .i64 0, .int .i64 0, .bool false, .int .i64 0, .bool false, .bool false, .int .i64 0, .int .i64 0, .bool false] 62) = w3.alloc (.cells (Fs.start 0 0 0).cells 62) := rfl
          rw [ez]
          generalize w3.alloc (.cells (Fs.start 0 0 0).cells 62) = w4 at hz0 hb0 hx0 ⊢
          generalize w3.heap.size = gz at hz0 ⊢
          have HZ4 := Lib.hid hz0
          have HB4 := Lib.hid hb0
          have HX4 := Lib.hid hx0
          clear hx0
          clear hz0 hb0 ez
          refine (held_nil w4).mono ?_
          rintro e x1 ⟨rfl, rfl⟩
          go_wp2_with fail
          refine (held_any gz (Fs.start 0 0 0) w4 HZ4.out).mono ?_
          rintro e w5 ⟨rfl, hb5⟩
          have HZ5 : Hid (Fl w5 gz (Fs.start 0 0 0)) := Lib.hid (Lit0.kept HZ4.out hb5)
          have HB5 := Lib.hid (HB4.out.trans (hb5.mono HB4.out.size))
          have HX5 := Lib.hid (HX4.out.kept hb5)
          clear hb5
          have pn := Lib.hid (perform_err (.pointer none) a w5 ha (state_nil w5))
          have pz := Lib.hid (perform_err (.pointer (some ⟨gz, 0, none⟩)) a w5 ha (state_zero gz w5 HZ5.out))
          go_wp2_with fail
          refine pn.out.mono ?_
          rintro e x1 ⟨_, rfl, rfl, rfl⟩
          go_wp2_with fail
          refine pz.out.mono ?_
          rintro e x1 ⟨_, rfl, rfl, rfl⟩
          go_wp2_with fail
          refine (says_nil w5).mono ?_
          rintro e x1 ⟨rfl, rfl⟩
          go_wp2_with fail
          refine (says_zero gz w5 HZ5.out).mono ?_
          rintro e x1 ⟨rfl, rfl⟩
          go_wp2_with fail
          refine (failed_nil w5).mono ?_
          rintro e x1 ⟨rfl, rfl⟩
          go_wp2_with fail
          refine (failed_any gz (Fs.start 0 0 0) w5 HZ5.out).mono ?_
          rintro e x1 ⟨rfl, rfl⟩
          go_wp2_with fail
          refine (show Calls Try.prog 19 #[.pointer (some ⟨g, 0, none⟩), .int .u8 (a % 4), .bool true] w5 (RetStep w5 g 0 { Fs.start t0 t1 t2 with fd := true }) from by
              have hh := hear_any g (Fs.start t0 t1 t2) (a % 4) true w5 HX5.out HOKS.out (by omega)
              have e1 : Fs.hearE (a % 4) true = 0 := by unfold Fs.hearE; rw [if_neg (by simp; omega)]
              have e2 : (Fs.start t0 t1 t2).hear (a % 4) true = { Fs.start t0 t1 t2 with fd := true } := by
                unfold Fs.hear
                rw [if_pos rfl, if_neg (by omega), if_neg (by omega), if_neg (by omega)]
              have e3 : (Fs.start t0 t1 t2).fd = false := rfl
              rw [e3, if_neg (by simp), if_neg (by simp), e1, e2] at hh
              exact hh).mono ?_
          rintro e w6 ⟨rfl, hf6, hg6⟩
          have HX6 := Lib.hid hf6
          have HB6 := Lib.hid (below_grown (grown_trans (grown_below (HB5.out.mono (Nat.le_refl _)) _) hg6) HGE.out (Nat.le_refl _))
          clear hf6 hg6
          have hag : 1 ≤ ({ Fs.start t0 t1 t2 with fd := true } : Fs).ag := HOKS.out.1.1
          have hokf : ({ Fs.start t0 t1 t2 with fd := true } : Fs).ok := HOKS.out
          have HS6 := Lib.hid (says_any g _ w6 HX6.out hag)
          have HP6 := Lib.hid (perform_any g _ a w6 HX6.out hokf ha)
          clear hag hokf
          go_wp2_with fail
          refine (failed_any g _ w6 HX6.out).mono ?_
          rintro e x1 ⟨rfl, rfl⟩
          go_wp2_with fail
          refine (show Calls Try.prog 13 #[.pointer (some ⟨g, 0, none⟩)] w6 (fun e w' => e = .returned (.int .u8 9) ∧ w6 = w') from HS6.out).mono ?_
          rintro e x1 ⟨rfl, rfl⟩
          go_wp2_with fail
          refine (show Calls Try.prog 24 #[.pointer (some ⟨g, 0, none⟩), .int .u8 a] w6 (RetStep w6 g 6 { Fs.start t0 t1 t2 with fd := true }) from HP6.out).mono ?_
          rintro e w7 ⟨rfl, hf7, hg7⟩
          have HX7 := Lib.hid hf7
          have HB7 := Lib.hid (below_grown (grown_trans (grown_below (HB6.out.mono (Nat.le_refl _)) _) hg7) HGE.out (Nat.le_refl _))
          clear hf7 hg7
          go_wp2_with fail
          refine (failed_any g _ w7 HX7.out).mono ?_
          rintro e x1 ⟨rfl, rfl⟩
          go_wp2_with fail
          refine (lives_any w7).mono ?_
          rintro e w8 ⟨rfl, hb8⟩
          go_wp2_with fail
          go_ret
          exact ⟨rfl, HB7.out.trans (hb8.mono HB7.out.size)⟩
end Go.Proofs.Ytbcalbkficbppaa
