/- Messages are valid; what is to be taken. -/
import Derived.Test.YtdjephmkpebnhaaDoorSend3
namespace Go.Proofs.YtdjephmkpebnhaaDoor
open Go.RowKit

set_option maxRecDepth 100000 in
theorem valid_ack (Sr : Int) (w : World) (hS : Sr ≠ 0) : Calls Tryd.prog 26 #[.agg #[.int .u8 2, .int .u32 Sr, .int .i64 0, .slice none 0 0, .slice none 0 0]] w (RetBool w true) := by
  have hb := (Below.refl _ w).alloc (Nat.le_refl _) (.cells #[.int .u8 2, .int .u32 Sr, .int .i64 0, .slice none 0 0, .slice none 0 0] 42)
  have d1 : (Sr == 0) = false := by rw [beq_eq_false_iff_ne]; exact hS
  have HB := Lib.hid hb
  clear hb hS
  go_enter Tryd.func26, Tryd.ntmps26
  go_wp2_with fail
  go_ret
  exact ⟨rfl, HB.out⟩

set_option maxRecDepth 100000 in
set_option maxHeartbeats 2000000 in
theorem valid_set (mb ob m : Nat) (Sr F : Int) (M O : Nat → Bool) (w : World) (hS : Sr ≠ 0) (hm : 1 ≤ m ∧ m ≤ 32) (hF : 0 ≤ F ∧ F + m ≤ 256) (hM : Sees w w.heap.size (some ⟨mb, 0, none⟩) m (fun k => .bool (M k))) (hO : Sees w w.heap.size (some ⟨ob, 0, none⟩) m (fun k => .bool (O k)))
    (h0 : M 0 = true) (h1 : M (m - 1) = true) (hOM : ∀ i, i < m → O i = true → M i = true) :
    Calls Tryd.prog 26 #[.agg #[.int .u8 1, .int .u32 Sr, .int .i64 F, .slice (some ⟨mb, 0, none⟩) m m, .slice (some ⟨ob, 0, none⟩) m m]] w (RetBool w true) := by
  have hb := (Below.refl _ w).alloc (Nat.le_refl _) (.cells #[.int .u8 1, .int .u32 Sr, .int .i64 F, .slice (some ⟨mb, 0, none⟩) m m, .slice (some ⟨ob, 0, none⟩) m m] 42)
  have l0 := Lit0.new w 42 #[.int .u8 1, .int .u32 Sr, .int .i64 F, .slice (some ⟨mb, 0, none⟩) m m, .slice (some ⟨ob, 0, none⟩) m m]
  have d1 : (Sr == 0) = false := by rw [beq_eq_false_iff_ne]; exact hS
  have d2 : decide ((m : Int) < 1) = false := by simp; omega
  have d3 : decide ((32 : Int) < (m : Int)) = false := by simp; omega
  have d4 : decide (F < 0) = false := by simp; omega
  have d5 : decide (256 - (m : Int) < F) = false := by simp; omega
  have d6 : (m == 0) = false := by rw [beq_eq_false_iff_ne]; omega
  have q0 := (hM.below hb).cell (k := 0) (by omega)
  have q1 := (hM.below hb).cell (k := m - 1) (by omega)
  rw [h0] at q0
  rw [h1] at q1
  simp only [Nat.zero_add] at q0 q1
  have i0 : (0 : Int) ≤ (m : Int) - 1 := by omega
  have i1 : (m : Int) - 1 < (m : Int) := by omega
  have i2 : ((m : Int) - 1).toNat = m - 1 := by omega
  have i3 : 0 < m := by omega
  have i4 : m - 1 < m := by omega
  have HB := Lib.hid hb
  have HM := Lib.hid hM
  have HO := Lib.hid hO
  have HOM := Lib.hid hOM
  have HL := Lib.hid l0
  clear hb hS hM hO h0 h1 hOM l0
  go_enter Tryd.func26, Tryd.ntmps26
  go_wp2_with fail
  clear d1 d2 d3 d4 d5 d6 q0 q1 i0 i1 i2 i3 i4
  generalize w.alloc (.cells #[.int .u8 1, .int .u32 Sr, .int .i64 F, .slice (some ⟨mb, 0, none⟩) m m, .slice (some ⟨ob, 0, none⟩) m m] 42) = w1 at HB HL ⊢
  go_loopw [75] (fun v75 wr => ∃ k : Nat, k ≤ m ∧ v75 = .int .i64 k ∧ w1 = wr) (fun v _ => m - (intOf v).toNat)
  case atStart => exact ⟨0, Nat.zero_le _, rfl, rfl⟩
  case round =>
    obtain ⟨k, hk, rfl, rfl⟩ := hrel
    by_cases hkm : k < m
    · have e1 : decide ((k : Int) < (m : Int)) = true := by simp; omega
      have e2 : decide (k < m) = true := by simpa using hkm
      have j0 : (0 : Int) ≤ (k : Int) := by omega
      have j1 : (k : Int) < (m : Int) := by omega
      have q0 := (HM.out.below HB.out).cell hkm
      have q1 := (HO.out.below HB.out).cell hkm
      simp only [Nat.zero_add] at q0 q1
      have b3 := HL.out.cell 3
      simp only [List.getElem?_toArray, List.getElem?_cons_zero, List.getElem?_cons_succ] at b3
      have hom := HOM.out k hkm
      cases hx : O k
      · rw [hx] at q1
        clear hom hx q0
        go_wp2_with fail
        go_roundw
        case rel => exact ⟨k + 1, by omega, by simp, by trivial⟩
        case measure => simp [intOf]; omega
      · rw [hx] at q1
        rw [hom hx] at q0
        clear hom hx
        go_wp2_with fail
        go_roundw
        case rel => exact ⟨k + 1, by omega, by simp, by trivial⟩
        case measure => simp [intOf]; omega
    · obtain rfl : m = k := by omega
      have e1 : decide ((m : Int) < (m : Int)) = false := by simp
      have e2 : decide (m < m) = false := by simp
      go_wp2_with fail
      go_ret
      exact ⟨rfl, HB.out⟩

theorem clip_msgs (r cp : Nat) (w : World) (hc : 1 ≤ cp) : Calls Tryd.prog 25 #[.slice (some ⟨r, 0, none⟩) 1 cp] w fun e w' => e = .returned (.slice (some ⟨r, 0, none⟩) 1 1) ∧ w = w' := by
  have h1 : (1 : Int) ≤ (cp : Int) := by omega
  have h2 : decide ((cp : Int) < 1) = false := by simp; omega
  go_enter Tryd.func25, Tryd.ntmps25
  go_wp2_with fail
  go_ret
  exact ⟨rfl, rfl⟩

/-- What Take leaves where one message waits. -/
def RetTook (w : World) (d g t n r : Nat) (ag age last heard : Int) (op : Value) (T : Nat → Bool) (e : Ending) (w' : World) : Prop :=
  e = .returned (.slice (some ⟨r, 0, none⟩) 1 1) ∧ Dk w' d g t n ag age last heard op (.slice none 0 0) T ∧ w.grownBy w' (some d)

theorem take_one (d g t n r cp : Nat) (ag age last heard : Int) (op : Value) (T : Nat → Bool) (w : World) (h : Dk w d g t n ag age last heard op (.slice (some ⟨r, 0, none⟩) 1 cp) T) (hc : 1 ≤ cp) :
    Calls Tryd.prog 9 #[.pointer (some ⟨d, 0, none⟩)] w (RetTook w d g t n r ag age last heard op T) := by
  have HN := Lib.hid (none_any d g w h.l0)
  have HK := Lib.hid (clip_msgs r cp w hc)
  have l7 := h.l7
  have f7 := h.1.free 7
  have H := Lib.hid h
  clear h hc
  go_enter Tryd.func9, Tryd.ntmps9
  go_wp2_with fail
  refine HN.out.mono ?_
  rintro e w1 ⟨rfl, rfl⟩
  go_wp2_with fail
  refine HK.out.mono ?_
  rintro e w1 ⟨rfl, rfl⟩
  go_wp2_with fail
  go_ret
  exact ⟨rfl, H.out.set7 _, grown_one _ _ _ _⟩
end Go.Proofs.YtdjephmkpebnhaaDoor
