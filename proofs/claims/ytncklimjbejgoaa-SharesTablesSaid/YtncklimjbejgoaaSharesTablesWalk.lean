/- The statement SharesTables, walked. -/
import Derived.Test.YtncklimjbejgoaaLawNext
namespace Go.Proofs.Ytncklimjbejgoaa
open Go.RowKit

/-- The short way: a list is too long, and only the chapter's examples are asked. -/
def Short (n m n3 m4 : Nat) : Prop := 40 < n ∨ 60 < m ∨ 40 < n3 ∨ 60 < m4

set_option maxHeartbeats 1000000 in
theorem sharesTables_short (A A2 A3 A4 : Option Addr) (n c m c2 n3 c3 m4 c4 : Nat) (w : World) (h : Short n m n3 m4) :
    Calls Try.prog 5 #[.slice A n c, .slice A2 m c2, .agg #[.slice A3 n3 c3, .slice A4 m4 c4]] w (RetBool w true) := by
  have hl := Lib.hid (lives_any (w.alloc (.cells #[.slice A3 n3 c3, .slice A4 m4 c4] 36)))
  have fin : ∀ w1 : World, Below (w.alloc (.cells #[.slice A3 n3 c3, .slice A4 m4 c4] 36)).heap.size (w.alloc (.cells #[.slice A3 n3 c3, .slice A4 m4 c4] 36)) w1 → Below w.heap.size w w1 :=
    fun w1 h1 => ((Below.refl _ w).alloc (Nat.le_refl _) _).trans (h1.mono (by simp))
  have FIN := Lib.hid fin
  clear fin
  by_cases h1 : 40 < n
  · have d1 : decide ((40 : Int) < (n : Int)) = true := by simp; omega
    clear h
    go_enter Try.func5, Try.ntmps5
    go_wp2_with fail
    refine hl.out.mono ?_
    rintro e w1 ⟨rfl, hb1⟩
    have HB := Lib.hid (FIN.out w1 hb1)
    clear hb1
    go_wp2_with fail
    go_ret
    exact ⟨rfl, HB.out⟩
  have d1 : decide ((40 : Int) < (n : Int)) = false := by simp; omega
  by_cases h2 : 60 < m
  · have d2 : decide ((60 : Int) < (m : Int)) = true := by simp; omega
    clear h
    go_enter Try.func5, Try.ntmps5
    go_wp2_with fail
    refine hl.out.mono ?_
    rintro e w1 ⟨rfl, hb1⟩
    have HB := Lib.hid (FIN.out w1 hb1)
    clear hb1
    go_wp2_with fail
    go_ret
    exact ⟨rfl, HB.out⟩
  have d2 : decide ((60 : Int) < (m : Int)) = false := by simp; omega
  by_cases h3 : 40 < n3
  · have d3 : decide ((40 : Int) < (n3 : Int)) = true := by simp; omega
    clear h
    go_enter Try.func5, Try.ntmps5
    go_wp2_with fail
    refine hl.out.mono ?_
    rintro e w1 ⟨rfl, hb1⟩
    have HB := Lib.hid (FIN.out w1 hb1)
    clear hb1
    go_wp2_with fail
    go_ret
    exact ⟨rfl, HB.out⟩
  have d3 : decide ((40 : Int) < (n3 : Int)) = false := by simp; omega
  have h4 : 60 < m4 := by unfold Short at h; omega
  have d4 : decide ((60 : Int) < (m4 : Int)) = true := by simp; omega
  clear h
  go_enter Try.func5, Try.ntmps5
  go_wp2_with fail
  refine hl.out.mono ?_
  rintro e w1 ⟨rfl, hb1⟩
  have HB := Lib.hid (FIN.out w1 hb1)
  clear hb1
  go_wp2_with fail
  go_ret
  exact ⟨rfl, HB.out⟩

set_option maxHeartbeats 1000000 in
theorem sharesTables_any (A A2 A3 A4 : Option Addr) (n c m c2 n3 c3 m4 c4 : Nat) (f g : Nat → Int) (S : Nat → Int) (f' g' h' : Nat → Int) (U : Nat → Bool) (w : World) (hsh : ¬ Short n m n3 m4)
    (hs : Sees2 w w.heap.size A n (fun k => .int .u16 (f k)) (fun k => .int .i64 (g k)))
    (hs2 : Sees w w.heap.size A2 m (fun k => .int .u8 (S k)))
    (hs3 : Sees3 w w.heap.size A3 n3 (fun k => .int .u16 (f' k)) (fun k => .int .u16 (g' k)) (fun k => .int .u8 (h' k)))
    (hs4 : Sees w w.heap.size A4 m4 (fun k => .bool (U k))) :
    Calls Try.prog 5 #[.slice A n c, .slice A2 m c2, .agg #[.slice A3 n3 c3, .slice A4 m4 c4]] w (RetBool w true) := by
  have HS := Lib.hid hs
  have HS2 := Lib.hid hs2
  have HS3 := Lib.hid hs3
  have HS4 := Lib.hid hs4
  unfold Short at hsh
  have hn : n ≤ 40 := by omega
  have hn3 : n3 ≤ 40 := by omega
  have d1 : decide ((40 : Int) < (n : Int)) = false := by simp; omega
  have d2 : decide ((60 : Int) < (m : Int)) = false := by simp; omega
  have d3 : decide ((40 : Int) < (n3 : Int)) = false := by simp; omega
  have d4 : decide ((60 : Int) < (m4 : Int)) = false := by simp; omega
  have hz0 := Lit0.new w 36 #[.slice A3 n3 c3, .slice A4 m4 c4]
  have hb0 := (Below.refl _ w).alloc (Nat.le_refl _) (.cells #[.slice A3 n3 c3, .slice A4 m4 c4] 36)
  have HZ := Lib.hid hz0
  have HB := Lib.hid hb0
  clear hs hs2 hs3 hs4 hsh hz0 hb0
  go_enter Try.func5, Try.ntmps5
  go_wp2_with fail
  refine (places_any A A2 n c m c2 f g S _ hn ((HS.out.below HB.out).more HB.out.size) ((HS2.out.below HB.out).more HB.out.size)).mono ?_
  rintro e w1 ⟨g1, rfl, hg1, hr1, hb1⟩
  have HZ1 := Lib.hid (HZ.out.kept hb1)
  have HB1 := Lib.hid (HB.out.trans (hb1.mono HB.out.size))
  have HR1 := Lib.hid hr1
  have hz1 := HZ1.out.cell 0
  have hz2 := HZ1.out.cell 1
  simp only [List.getElem?_toArray, List.getElem?_cons_zero, List.getElem?_cons_succ] at hz1 hz2
  clear hb1 hr1 hg1 HZ
  go_wp2_with fail
  refine (lines_any A3 A4 n3 c3 m4 c4 f' g' h' U w1 hn3 ((HS3.out.below HB1.out).more HB1.out.size) ((HS4.out.below HB1.out).more HB1.out.size)).mono ?_
  rintro e w2 ⟨g2, rfl, hg2, hr2, hb2⟩
  have HZ2 := Lib.hid (HZ1.out.kept hb2)
  have HB2 := Lib.hid (HB1.out.trans (hb2.mono HB1.out.size))
  have HR12 := Lib.hid (HR1.out.kept hb2)
  have HR2 := Lib.hid hr2
  clear hb2 hr2 hg2 HZ1 hz1 hz2 HR1 HB1
  go_wp2_with fail
  go_loopw [6, 9] (fun _ i wr => ∃ k : Nat, k ≤ 16 ∧ i = .int .i64 k ∧ Below w2.heap.size w2 wr) (fun _ i _ => 16 - (intOf i).toNat)
  case atStart => exact ⟨0, Nat.zero_le _, rfl, Below.refl _ _⟩
  case round =>
    obtain ⟨k, hk, rfl, hnx⟩ := hrel
    have HNX := Lib.hid hnx
    have HNX0 := Lib.hid (HB2.out.trans (hnx.mono HB2.out.size))
    clear hnx
    by_cases hlt : k < 16
    · go_wp2_with fail
      refine (next_any A A2 n c m c2 f g S k wr hn (by omega) ((HS.out.below HNX0.out).more HNX0.out.size) ((HS2.out.below HNX0.out).more HNX0.out.size)).mono ?_
      rintro e w3 ⟨rfl, hb3⟩
      have HN3 := Lib.hid (HNX.out.trans (hb3.mono HNX.out.size))
      have HN03 := Lib.hid (HNX0.out.trans (hb3.mono HNX0.out.size))
      have hz1 := (HZ2.out.kept HN3.out).cell 0
      have hz2 := (HZ2.out.kept HN3.out).cell 1
      simp only [List.getElem?_toArray, List.getElem?_cons_zero, List.getElem?_cons_succ] at hz1 hz2
      clear hb3
      obtain ⟨r1, hr1⟩ : ∃ r1, r1 = nextOf n m g S k := ⟨_, rfl⟩
      rw [← hr1]
      have HRE1 := Lib.hid hr1
      clear hr1
      go_wp2_with fail
      refine (link_any A3 A4 n3 c3 m4 c4 f' g' h' U k w3 hn3 (by omega) ((HS3.out.below HN03.out).more HN03.out.size) ((HS4.out.below HN03.out).more HN03.out.size)).mono ?_
      rintro e w4 ⟨rfl, hb4⟩
      have HN4 := Lib.hid (HN3.out.trans (hb4.mono HN3.out.size))
      clear hb4 hz1 hz2
      obtain ⟨r2, hr2⟩ : ∃ r2, r2 = linkOf n3 m4 U k := ⟨_, rfl⟩
      rw [← hr2]
      have HRE2 := Lib.hid hr2
      clear hr2
      have hc1 : w4.cell? ⟨g1, k, none⟩ = some (.int .i64 (code r1)) := by rw [HRE1.out]; exact (HR12.out.kept HN4.out).cell hlt
      have hc2 : w4.cell? ⟨g2, k, none⟩ = some (.int .i64 (code r2)) := by rw [HRE2.out]; exact (HR2.out.kept HN4.out).cell hlt
      clear HRE1 HRE2
      cases r1 <;> cases r2
      all_goals
        simp only [code, Option.getD, Option.isSome] at hc1 hc2 ⊢
        go_wp2_with fail
        go_roundw
        case measure => simp [intOf]; omega
        case rel => exact ⟨k + 1, by omega, by go_num, HN4.out⟩
    · obtain rfl : k = 16 := by omega
      go_wp2_with fail
      refine (lives_any wr).mono ?_
      rintro e w3 ⟨rfl, hb3⟩
      have HE := Lib.hid (HNX0.out.trans (hb3.mono HNX0.out.size))
      clear hb3
      go_wp2_with fail
      go_ret
      exact ⟨rfl, HE.out⟩
end Go.Proofs.Ytncklimjbejgoaa
