/- Marks and levels. -/
import Derived.Test.YtbcalbkficbppaaKit
namespace Go.Proofs.Ytbcalbkficbppaa
open Go.RowKit

/-- Are marks right? -/
def rightOf (b0 b1 b2 e0 e1 e2 : Int) : Bool := decide ((0 ≤ e0 ∧ e0 < b0) ∧ (0 ≤ e1 ∧ e1 < b1 ∧ b0 < b1 ∧ e0 ≤ e1) ∧ 0 ≤ e2 ∧ e2 < b2 ∧ b1 < b2 ∧ e1 ≤ e2)
/-- .. the first k of them. -/
def okTo (b0 b1 b2 e0 e1 e2 : Int) (k : Int) : Prop := (1 ≤ k → 0 ≤ e0 ∧ e0 < b0) ∧ (2 ≤ k → 0 ≤ e1 ∧ e1 < b1 ∧ b0 < b1 ∧ e0 ≤ e1) ∧ (3 ≤ k → 0 ≤ e2 ∧ e2 < b2 ∧ b1 < b2 ∧ e1 ≤ e2)

def mcells (b0 b1 b2 e0 e1 e2 : Int) : Array Value := #[.int .i64 b0, .int .i64 b1, .int .i64 b2, .int .i64 e0, .int .i64 e1, .int .i64 e2]

set_option maxRecDepth 100000 in
set_option maxHeartbeats 2000000 in
theorem right_any (b0 b1 b2 e0 e1 e2 : Int) (w : World) : Calls Try.prog 33 #[.agg #[.int .i64 b0, .int .i64 b1, .int .i64 b2, .int .i64 e0, .int .i64 e1, .int .i64 e2]] w fun e w' => e = .returned (.bool (rightOf b0 b1 b2 e0 e1 e2)) ∧ Below w.heap.size w w' := by
  have hb0 := (Below.refl _ w).alloc (Nat.le_refl _) (.cells #[.int .i64 b0, .int .i64 b1, .int .i64 b2, .int .i64 e0, .int .i64 e1, .int .i64 e2] 45)
  have hl0 := Lit0.new w 45 #[.int .i64 b0, .int .i64 b1, .int .i64 b2, .int .i64 e0, .int .i64 e1, .int .i64 e2]
  have HB0 := Lib.hid hb0
  have HL0 := Lib.hid hl0
  clear hb0 hl0
  go_enter Try.func33, Try.ntmps33
  go_wp2_with fail
  generalize w.alloc (.cells #[.int .i64 b0, .int .i64 b1, .int .i64 b2, .int .i64 e0, .int .i64 e1, .int .i64 e2] 45) = w1 at HB0 HL0 ⊢
  go_loopw [4] (fun v wr => ∃ k : Int, (k = 0 ∨ k = 1 ∨ k = 2 ∨ k = 3) ∧ v = .int .i64 k ∧ Hid (okTo b0 b1 b2 e0 e1 e2 k) ∧ Hid (Lit0 wr w.heap.size 45 #[.int .i64 b0, .int .i64 b1, .int .i64 b2, .int .i64 e0, .int .i64 e1, .int .i64 e2]) ∧ Hid (Below w.heap.size w wr)) (fun v _ => 3 - (intOf v).toNat)
  case atStart => exact ⟨0, .inl rfl, rfl, Lib.hid (by unfold okTo; simp), HL0, HB0⟩
  case round =>
    obtain ⟨k, hk, rfl, OKK, HL, HB⟩ := hrel
    have c0 := HL.out.cell 0
    have c1 := HL.out.cell 1
    have c2 := HL.out.cell 2
    have c3 := HL.out.cell 3
    have c4 := HL.out.cell 4
    have c5 := HL.out.cell 5
    simp only [List.getElem?_toArray, List.getElem?_cons_zero, List.getElem?_cons_succ] at c0 c1 c2 c3 c4 c5
    rcases hk with rfl | rfl | rfl | rfl
    · -- i = 0
      by_cases x1 : e0 < 0
      · have y1 : decide (e0 < 0) = true := by simpa using x1
        have hr : rightOf b0 b1 b2 e0 e1 e2 = false := by unfold rightOf; simp; omega
        have HR := Lib.hid hr
        clear hr
        go_wp2_with fail
        go_quiet (fail)
        go_wp2_with fail
        go_ret
        exact ⟨by rw [HR.out]; rfl, Below.drewN' HB.out _⟩
      have y1 : decide (e0 < 0) = false := by simpa using x1
      by_cases x2 : b0 ≤ e0
      · have y2 : decide (b0 ≤ e0) = true := by simpa using x2
        have hr : rightOf b0 b1 b2 e0 e1 e2 = false := by unfold rightOf; simp; omega
        have HR := Lib.hid hr
        clear hr
        go_wp2_with fail
        go_quiet (fail)
        go_wp2_with fail
        go_ret
        exact ⟨by rw [HR.out]; rfl, Below.drewN' HB.out _⟩
      have y2 : decide (b0 ≤ e0) = false := by simpa using x2
      have OKN : Hid (okTo b0 b1 b2 e0 e1 e2 1) := Lib.hid (by have := OKK.out; unfold okTo at this ⊢; simp at this ⊢; omega)
      go_wp2_with fail
      go_quiet (fail)
      go_wp2_with fail
      go_roundw
      case rel => exact ⟨1, by omega, rfl, OKN, Lib.hid HL.out, Lib.hid (Below.drewN' HB.out _)⟩
      case measure => simp [intOf]
    · -- i = 1
      by_cases x1 : e1 < 0
      · have y1 : decide (e1 < 0) = true := by simpa using x1
        have hr : rightOf b0 b1 b2 e0 e1 e2 = false := by unfold rightOf; simp; omega
        have HR := Lib.hid hr
        clear hr
        go_wp2_with fail
        go_quiet (fail)
        go_wp2_with fail
        go_ret
        exact ⟨by rw [HR.out]; rfl, Below.drewN' HB.out _⟩
      have y1 : decide (e1 < 0) = false := by simpa using x1
      by_cases x2 : b1 ≤ e1
      · have y2 : decide (b1 ≤ e1) = true := by simpa using x2
        have hr : rightOf b0 b1 b2 e0 e1 e2 = false := by unfold rightOf; simp; omega
        have HR := Lib.hid hr
        clear hr
        go_wp2_with fail
        go_quiet (fail)
        go_wp2_with fail
        go_ret
        exact ⟨by rw [HR.out]; rfl, Below.drewN' HB.out _⟩
      have y2 : decide (b1 ≤ e1) = false := by simpa using x2
      by_cases x3 : b1 ≤ b0
      · have y3 : decide (b1 ≤ b0) = true := by simpa using x3
        have hr : rightOf b0 b1 b2 e0 e1 e2 = false := by unfold rightOf; simp; omega
        have HR := Lib.hid hr
        clear hr
        go_wp2_with fail
        go_quiet (fail)
        go_wp2_with fail
        go_ret
        exact ⟨by rw [HR.out]; rfl, Below.drewN' HB.out _⟩
      have y3 : decide (b1 ≤ b0) = false := by simpa using x3
      by_cases x4 : e1 < e0
      · have y4 : decide (e1 < e0) = true := by simpa using x4
        have hr : rightOf b0 b1 b2 e0 e1 e2 = false := by unfold rightOf; simp; omega
        have HR := Lib.hid hr
        clear hr
        go_wp2_with fail
        go_quiet (fail)
        go_wp2_with fail
        go_ret
        exact ⟨by rw [HR.out]; rfl, Below.drewN' HB.out _⟩
      have y4 : decide (e1 < e0) = false := by simpa using x4
      have OKN : Hid (okTo b0 b1 b2 e0 e1 e2 2) := Lib.hid (by have := OKK.out; unfold okTo at this ⊢; simp at this ⊢; omega)
      go_wp2_with fail
      go_quiet (fail)
      go_wp2_with fail
      go_roundw
      case rel => exact ⟨2, by omega, rfl, OKN, Lib.hid HL.out, Lib.hid (Below.drewN' HB.out _)⟩
      case measure => simp [intOf]
    · -- i = 2
      by_cases x1 : e2 < 0
      · have y1 : decide (e2 < 0) = true := by simpa using x1
        have hr : rightOf b0 b1 b2 e0 e1 e2 = false := by unfold rightOf; simp; omega
        have HR := Lib.hid hr
        clear hr
        go_wp2_with fail
        go_quiet (fail)
        go_wp2_with fail
        go_ret
        exact ⟨by rw [HR.out]; rfl, Below.drewN' HB.out _⟩
      have y1 : decide (e2 < 0) = false := by simpa using x1
      by_cases x2 : b2 ≤ e2
      · have y2 : decide (b2 ≤ e2) = true := by simpa using x2
        have hr : rightOf b0 b1 b2 e0 e1 e2 = false := by unfold rightOf; simp; omega
        have HR := Lib.hid hr
        clear hr
        go_wp2_with fail
        go_quiet (fail)
        go_wp2_with fail
        go_ret
        exact ⟨by rw [HR.out]; rfl, Below.drewN' HB.out _⟩
      have y2 : decide (b2 ≤ e2) = false := by simpa using x2
      by_cases x3 : b2 ≤ b1
      · have y3 : decide (b2 ≤ b1) = true := by simpa using x3
        have hr : rightOf b0 b1 b2 e0 e1 e2 = false := by unfold rightOf; simp; omega
        have HR := Lib.hid hr
        clear hr
        go_wp2_with fail
        go_quiet (fail)
        go_wp2_with fail
        go_ret
        exact ⟨by rw [HR.out]; rfl, Below.drewN' HB.out _⟩
      have y3 : decide (b2 ≤ b1) = false := by simpa using x3
      by_cases x4 : e2 < e1
      · have y4 : decide (e2 < e1) = true := by simpa using x4
        have hr : rightOf b0 b1 b2 e0 e1 e2 = false := by unfold rightOf; simp; omega
        have HR := Lib.hid hr
        clear hr
        go_wp2_with fail
        go_quiet (fail)
        go_wp2_with fail
        go_ret
        exact ⟨by rw [HR.out]; rfl, Below.drewN' HB.out _⟩
      have y4 : decide (e2 < e1) = false := by simpa using x4
      have OKN : Hid (okTo b0 b1 b2 e0 e1 e2 3) := Lib.hid (by have := OKK.out; unfold okTo at this ⊢; simp at this ⊢; omega)
      go_wp2_with fail
      go_quiet (fail)
      go_wp2_with fail
      go_roundw
      case rel => exact ⟨3, by omega, rfl, OKN, Lib.hid HL.out, Lib.hid (Below.drewN' HB.out _)⟩
      case measure => simp [intOf]
    · have hr : rightOf b0 b1 b2 e0 e1 e2 = true := by have := OKK.out; unfold okTo at this; unfold rightOf; simp at this ⊢; omega
      have HR := Lib.hid hr
      clear hr
      go_wp2_with fail
      go_ret
      exact ⟨by rw [HR.out]; rfl, HB.out⟩
end Go.Proofs.Ytbcalbkficbppaa
