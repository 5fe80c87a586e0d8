/- valid: the marks' law, as the law writes it. -/
import Derived.Test.YtbcalbkficbppaaLevels
namespace Go.Proofs.Ytbcalbkficbppaa
open Go.RowKit

def vTo (b0 b1 b2 e0 e1 e2 : Int) (k : Int) : Bool := decide (b0 < b1 ∧ b1 < b2 ∧ e0 ≤ e1 ∧ e1 ≤ e2 ∧ (1 ≤ k → 0 ≤ e0 ∧ e0 < b0) ∧ (2 ≤ k → 0 ≤ e1 ∧ e1 < b1) ∧ (3 ≤ k → 0 ≤ e2 ∧ e2 < b2))
theorem v_end (b0 b1 b2 e0 e1 e2 : Int) : vTo b0 b1 b2 e0 e1 e2 3 = rightOf b0 b1 b2 e0 e1 e2 := by
  unfold vTo rightOf
  rw [decide_eq_decide]
  omega

/-- The test ahead of the loop. -/
def v0 (b0 b1 b2 e0 e1 e2 : Int) : Bool := decide (b0 < b1) && (decide (b1 < b2) && (decide (e0 ≤ e1) && decide (e1 ≤ e2)))
theorem v_start (b0 b1 b2 e0 e1 e2 : Int) : vTo b0 b1 b2 e0 e1 e2 0 = v0 b0 b1 b2 e0 e1 e2 := by
  unfold vTo v0
  simp only [← Bool.decide_and]
  rw [decide_eq_decide]
  omega

set_option maxRecDepth 100000 in
set_option maxHeartbeats 2000000 in
theorem valid2_any (b0 b1 b2 e0 e1 e2 : Int) (w : World) : Calls Try.prog 22 #[.agg #[.int .i64 b0, .int .i64 b1, .int .i64 b2, .int .i64 e0, .int .i64 e1, .int .i64 e2]] w fun e w' => e = .returned (.bool (rightOf b0 b1 b2 e0 e1 e2)) ∧ Below w.heap.size w w' := by
  have hb0 := (Below.refl _ w).alloc (Nat.le_refl _) (.cells #[.int .i64 b0, .int .i64 b1, .int .i64 b2, .int .i64 e0, .int .i64 e1, .int .i64 e2] 45)
  have hl0 := Lit0.new w 45 #[.int .i64 b0, .int .i64 b1, .int .i64 b2, .int .i64 e0, .int .i64 e1, .int .i64 e2]
  have HB0 := Lib.hid hb0
  have HL0 := Lib.hid hl0
  have c0 := hl0.cell 0
  have c1 := hl0.cell 1
  have c2 := hl0.cell 2
  have c3 := hl0.cell 3
  have c4 := hl0.cell 4
  have c5 := hl0.cell 5
  simp only [List.getElem?_toArray, List.getElem?_cons_zero, List.getElem?_cons_succ] at c0 c1 c2 c3 c4 c5
  have hv := v_start b0 b1 b2 e0 e1 e2
  have HEND := Lib.hid (v_end b0 b1 b2 e0 e1 e2)
  have d : (∃ o, v0 b0 b1 b2 e0 e1 e2 = o ∧ (decide (b0 < b1) = false ∧ o = false ∨ decide (b0 < b1) = true ∧ (decide (b1 < b2) = false ∧ o = false ∨ decide (b1 < b2) = true ∧ (decide (e0 ≤ e1) = false ∧ o = false ∨ decide (e0 ≤ e1) = true ∧ (decide (e1 ≤ e2) = false ∧ o = false ∨ decide (e1 ≤ e2) = true ∧ o = true))))) := by
    unfold v0
    cases decide (b0 < b1) <;> cases decide (b1 < b2) <;> cases decide (e0 ≤ e1) <;> cases decide (e1 ≤ e2) <;> simp
  obtain ⟨o, ho, d⟩ := d
  rw [ho] at hv
  have HV := Lib.hid hv
  clear hb0 hl0 hv ho
  rcases d with ⟨d1, rfl⟩ | ⟨d1, ⟨d2, rfl⟩ | ⟨d2, ⟨d3, rfl⟩ | ⟨d3, ⟨d4, rfl⟩ | ⟨d4, rfl⟩⟩⟩⟩
  all_goals
    go_enter Try.func22, Try.ntmps22
    go_wp2_with fail
    clear c0 c1 c2 c3 c4 c5
    generalize w.alloc (.cells #[.int .i64 b0, .int .i64 b1, .int .i64 b2, .int .i64 e0, .int .i64 e1, .int .i64 e2] 45) = w1 at HB0 HL0 ⊢
    go_loopw [3, 4] (fun v3 v4 wr => ∃ k : Int, (k = 0 ∨ k = 1 ∨ k = 2 ∨ k = 3) ∧ v4 = .int .i64 k ∧ v3 = .bool (vTo b0 b1 b2 e0 e1 e2 k) ∧ Hid (Lit0 wr w.heap.size 45 #[.int .i64 b0, .int .i64 b1, .int .i64 b2, .int .i64 e0, .int .i64 e1, .int .i64 e2]) ∧ Hid (Below w.heap.size w wr)) (fun _ v _ => 3 - (intOf v).toNat)
    case atStart => exact ⟨0, .inl rfl, rfl, by rw [HV.out], HL0, HB0⟩
    case round =>
      obtain ⟨k, hk, rfl, rfl, HL, HB⟩ := hrel
      have c0 := HL.out.cell 0
      have c1 := HL.out.cell 1
      have c2 := HL.out.cell 2
      have c3 := HL.out.cell 3
      have c4 := HL.out.cell 4
      have c5 := HL.out.cell 5
      simp only [List.getElem?_toArray, List.getElem?_cons_zero, List.getElem?_cons_succ] at c0 c1 c2 c3 c4 c5
      clear d1
      try clear d2
      try clear d3
      try clear d4
      rcases hk with rfl | rfl | rfl | rfl
      · obtain ⟨o, ho⟩ : ∃ o, o = vTo b0 b1 b2 e0 e1 e2 0 := ⟨_, rfl⟩
        rw [← ho]
        cases o
        · have hn : vTo b0 b1 b2 e0 e1 e2 1 = false := by
            have h := ho.symm
            unfold vTo at h ⊢
            simp only [decide_eq_false_iff_not] at h ⊢
            omega
          have NX := Lib.hid hn
          clear hn ho
          go_wp2_with fail
          go_quiet (fail)
          go_wp2_with fail
          go_roundw
          case rel => exact ⟨1, by omega, rfl, by rw [NX.out], HL, Lib.hid (Below.drewN' HB.out _)⟩
          case measure => simp [intOf]
        · have h0 := ho.symm
          unfold vTo at h0
          simp only [decide_eq_true_eq] at h0
          by_cases x1 : 0 ≤ e0
          · have y1 : decide (0 ≤ e0) = true := by simpa using x1
            by_cases x2 : e0 < b0
            · have y2 : decide (e0 < b0) = true := by simpa using x2
              have hn : vTo b0 b1 b2 e0 e1 e2 1 = true := by
                unfold vTo
                simp only [decide_eq_true_eq]
                omega
              have NX := Lib.hid hn
              clear hn ho h0
              go_wp2_with fail
              go_quiet (fail)
              go_wp2_with fail
              go_roundw
              case rel => exact ⟨1, by omega, rfl, by rw [NX.out], HL, Lib.hid (Below.drewN' HB.out _)⟩
              case measure => simp [intOf]
            · have y2 : decide (e0 < b0) = false := by simpa using x2
              have hn : vTo b0 b1 b2 e0 e1 e2 1 = false := by
                unfold vTo
                simp only [decide_eq_false_iff_not]
                omega
              have NX := Lib.hid hn
              clear hn ho h0
              go_wp2_with fail
              go_quiet (fail)
              go_wp2_with fail
              go_roundw
              case rel => exact ⟨1, by omega, rfl, by rw [NX.out], HL, Lib.hid (Below.drewN' HB.out _)⟩
              case measure => simp [intOf]
          · have y1 : decide (0 ≤ e0) = false := by simpa using x1
            have hn : vTo b0 b1 b2 e0 e1 e2 1 = false := by
              unfold vTo
              simp only [decide_eq_false_iff_not]
              omega
            have NX := Lib.hid hn
            clear hn ho h0
            go_wp2_with fail
            go_quiet (fail)
            go_wp2_with fail
            go_roundw
            case rel => exact ⟨1, by omega, rfl, by rw [NX.out], HL, Lib.hid (Below.drewN' HB.out _)⟩
            case measure => simp [intOf]
      · obtain ⟨o, ho⟩ : ∃ o, o = vTo b0 b1 b2 e0 e1 e2 1 := ⟨_, rfl⟩
        rw [← ho]
        cases o
        · have hn : vTo b0 b1 b2 e0 e1 e2 2 = false := by
            have h := ho.symm
            unfold vTo at h ⊢
            simp only [decide_eq_false_iff_not] at h ⊢
            omega
          have NX := Lib.hid hn
          clear hn ho
          go_wp2_with fail
          go_quiet (fail)
          go_wp2_with fail
          go_roundw
          case rel => exact ⟨2, by omega, rfl, by rw [NX.out], HL, Lib.hid (Below.drewN' HB.out _)⟩
          case measure => simp [intOf]
        · have h0 := ho.symm
          unfold vTo at h0
          simp only [decide_eq_true_eq] at h0
          by_cases x1 : 0 ≤ e1
          · have y1 : decide (0 ≤ e1) = true := by simpa using x1
            by_cases x2 : e1 < b1
            · have y2 : decide (e1 < b1) = true := by simpa using x2
              have hn : vTo b0 b1 b2 e0 e1 e2 2 = true := by
                unfold vTo
                simp only [decide_eq_true_eq]
                omega
              have NX := Lib.hid hn
              clear hn ho h0
              go_wp2_with fail
              go_quiet (fail)
              go_wp2_with fail
              go_roundw
              case rel => exact ⟨2, by omega, rfl, by rw [NX.out], HL, Lib.hid (Below.drewN' HB.out _)⟩
              case measure => simp [intOf]
            · have y2 : decide (e1 < b1) = false := by simpa using x2
              have hn : vTo b0 b1 b2 e0 e1 e2 2 = false := by
                unfold vTo
                simp only [decide_eq_false_iff_not]
                omega
              have NX := Lib.hid hn
              clear hn ho h0
              go_wp2_with fail
              go_quiet (fail)
              go_wp2_with fail
              go_roundw
              case rel => exact ⟨2, by omega, rfl, by rw [NX.out], HL, Lib.hid (Below.drewN' HB.out _)⟩
              case measure => simp [intOf]
          · have y1 : decide (0 ≤ e1) = false := by simpa using x1
            have hn : vTo b0 b1 b2 e0 e1 e2 2 = false := by
              unfold vTo
              simp only [decide_eq_false_iff_not]
              omega
            have NX := Lib.hid hn
            clear hn ho h0
            go_wp2_with fail
            go_quiet (fail)
            go_wp2_with fail
            go_roundw
            case rel => exact ⟨2, by omega, rfl, by rw [NX.out], HL, Lib.hid (Below.drewN' HB.out _)⟩
            case measure => simp [intOf]
      · obtain ⟨o, ho⟩ : ∃ o, o = vTo b0 b1 b2 e0 e1 e2 2 := ⟨_, rfl⟩
        rw [← ho]
        cases o
        · have hn : vTo b0 b1 b2 e0 e1 e2 3 = false := by
            have h := ho.symm
            unfold vTo at h ⊢
            simp only [decide_eq_false_iff_not] at h ⊢
            omega
          have NX := Lib.hid hn
          clear hn ho
          go_wp2_with fail
          go_quiet (fail)
          go_wp2_with fail
          go_roundw
          case rel => exact ⟨3, by omega, rfl, by rw [NX.out], HL, Lib.hid (Below.drewN' HB.out _)⟩
          case measure => simp [intOf]
        · have h0 := ho.symm
          unfold vTo at h0
          simp only [decide_eq_true_eq] at h0
          by_cases x1 : 0 ≤ e2
          · have y1 : decide (0 ≤ e2) = true := by simpa using x1
            by_cases x2 : e2 < b2
            · have y2 : decide (e2 < b2) = true := by simpa using x2
              have hn : vTo b0 b1 b2 e0 e1 e2 3 = true := by
                unfold vTo
                simp only [decide_eq_true_eq]
                omega
              have NX := Lib.hid hn
              clear hn ho h0
              go_wp2_with fail
              go_quiet (fail)
              go_wp2_with fail
              go_roundw
              case rel => exact ⟨3, by omega, rfl, by rw [NX.out], HL, Lib.hid (Below.drewN' HB.out _)⟩
              case measure => simp [intOf]
            · have y2 : decide (e2 < b2) = false := by simpa using x2
              have hn : vTo b0 b1 b2 e0 e1 e2 3 = false := by
                unfold vTo
                simp only [decide_eq_false_iff_not]
                omega
              have NX := Lib.hid hn
              clear hn ho h0
              go_wp2_with fail
              go_quiet (fail)
              go_wp2_with fail
              go_roundw
              case rel => exact ⟨3, by omega, rfl, by rw [NX.out], HL, Lib.hid (Below.drewN' HB.out _)⟩
              case measure => simp [intOf]
          · have y1 : decide (0 ≤ e2) = false := by simpa using x1
            have hn : vTo b0 b1 b2 e0 e1 e2 3 = false := by
              unfold vTo
              simp only [decide_eq_false_iff_not]
              omega
            have NX := Lib.hid hn
            clear hn ho h0
            go_wp2_with fail
            go_quiet (fail)
            go_wp2_with fail
            go_roundw
            case rel => exact ⟨3, by omega, rfl, by rw [NX.out], HL, Lib.hid (Below.drewN' HB.out _)⟩
            case measure => simp [intOf]
      · go_wp2_with fail
        go_ret
        exact ⟨by rw [← HEND.out]; rfl, HB.out⟩
end Go.Proofs.Ytbcalbkficbppaa
