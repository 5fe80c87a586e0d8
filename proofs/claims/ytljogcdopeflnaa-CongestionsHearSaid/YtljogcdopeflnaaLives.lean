/- 'lives': the chapter's examples hold. -/
import Derived.Test.YtljogcdopeflnaaHear
namespace Go.Proofs.Ytljogcdopeflnaa
open Go.RowKit

theorem tot_none (q : Int → Int × Int → Bool) : ∀ n, tot q (fun _ => none) n = 0
  | 0 => rfl
  | n + 1 => by simp [tot, tot_none q n]

/-- Where at most the destinations of a small set are recorded, others stay few. -/
theorem tot_few (q : Int → Int × Int → Bool) (f : Int → Option (Int × Int)) (m : Nat) (h : ∀ k : Int, (m : Int) ≤ k → f k = none) : ∀ n, tot q f n ≤ m
  | 0 => Nat.zero_le _
  | n + 1 => by
    by_cases hn : n < m
    · exact Nat.le_trans (tot_le q f (n + 1)) (by omega)
    · have := tot_few q f m h n
      unfold tot
      rw [h n (by omega)]
      exact this

def exLen (k : Nat) : Int := ([3, 9, 5, 4, 2] : List Int).getD k 0
def exLv (k : Nat) : Int := ([0, 0, 2, 2, 1, 0] : List Int).getD k 0

def lvF : Int → Option (Int × Int) := upd (fun _ => none) 7 (100, 2)

theorem lvF_ok (p : Int × Int) (h : lvF 7 = some p) : I64 p.1 ∧ 0 ≤ p.2 ∧ p.2 ≤ 3 := by
  have : lvF 7 = some (100, 2) := rfl
  rw [this] at h
  injection h with h
  subst h
  exact ⟨⟨by decide, by decide⟩, by decide, by decide⟩

set_option maxHeartbeats 1000000 in
theorem lives_any (w : World) : Calls Try.prog 9 #[] w (RetBool w true) := by
  go_enter Try.func9, Try.ntmps9
  go_wp2_with fail
  refine (newMeter_any 4 8 12 w).mono ?_
  rintro e w1 (⟨h, _⟩ | ⟨_, g, rfl, hg, hm, hb1⟩)
  · exact absurd h (by decide)
  have HM := Lib.hid hm
  have HB1 := Lib.hid hb1
  clear hm hb1
  go_wp2_with fail
  refine (newControl_any 10 w1).mono ?_
  rintro e w2 (⟨h, _⟩ | ⟨_, gc, bc, rfl, hgc, hbc, hc, hb2⟩)
  · exact absurd h (by decide)
  have HC := Lib.hid hc
  have HB2 := Lib.hid hb2
  clear hc hb2
  go_wp2_with fail
  refine (hear_any gc bc 0 10 100 7 2 (fun _ => none) w2 HC.out (by decide) (by unfold I64; decide) (by decide) (by decide) (by decide) (fun _ _ h => by cases h)).mono ?_
  rintro e w3 (⟨h, _⟩ | ⟨_, rfl, hc3, hg3⟩)
  · exact absurd h (by unfold others; rw [tot_none]; decide)
  have hc3 : Ctl w3 gc bc 10 1 lvF := hc3
  have hlt1 := HM.out.lt
  have HC3 := Lib.hid hc3
  have HM3 := Lib.hid (Lit0.grown (HM.out.kept HB2.out) hg3 (by simp; omega))
  have HB3 := Lib.hid (below_grown (grown_trans (grown_below (Below.mono (HB1.out.trans (HB2.out.mono HB1.out.size)) (Nat.le_refl _)) _) hg3) (by have := HB1.out.size; omega) (Nat.le_refl _) : Below w.heap.size w w3)
  clear hc3 hg3 HM HB1 HB2 HC
  go_wp2_with fail
  have hbl : Below w.heap.size w ((w3.alloc (.cells #[.int .i64 3, .int .i64 9, .int .i64 5, .int .i64 4, .int .i64 2] 3)).alloc (.cells #[.int .i64 0, .int .i64 2, .int .i64 2, .int .i64 1, .int .i64 0] 3)) :=
    (HB3.out.alloc HB3.out.size _).alloc (by have := HB3.out.size; simp; omega) _
  have hll := (Lit0.new w3 3 #[.int .i64 3, .int .i64 9, .int .i64 5, .int .i64 4, .int .i64 2]).alloc (.cells #[.int .i64 0, .int .i64 2, .int .i64 2, .int .i64 1, .int .i64 0] 3)
  have hlv := Lit0.new (w3.alloc (.cells #[.int .i64 3, .int .i64 9, .int .i64 5, .int .i64 4, .int .i64 2] 3)) 3 #[.int .i64 0, .int .i64 2, .int .i64 2, .int .i64 1, .int .i64 0]
  have hml := Lit0.alloc (Lit0.alloc HM3.out (.cells #[.int .i64 3, .int .i64 9, .int .i64 5, .int .i64 4, .int .i64 2] 3)) (.cells #[.int .i64 0, .int .i64 2, .int .i64 2, .int .i64 1, .int .i64 0] 3)
  have b3 : Below w3.heap.size w3 ((w3.alloc (.cells #[.int .i64 3, .int .i64 9, .int .i64 5, .int .i64 4, .int .i64 2] 3)).alloc (.cells #[.int .i64 0, .int .i64 2, .int .i64 2, .int .i64 1, .int .i64 0] 3)) :=
    ((Below.refl _ w3).alloc (Nat.le_refl _) _).alloc (by simp) _
  have hcl := HC3.out.kept b3
  simp only [World.size_alloc] at hlv
  generalize (w3.alloc (.cells #[.int .i64 3, .int .i64 9, .int .i64 5, .int .i64 4, .int .i64 2] 3)).alloc (.cells #[.int .i64 0, .int .i64 2, .int .i64 2, .int .i64 1, .int .i64 0] 3) = wl at hbl hll hlv hml b3 hcl ⊢
  have hg3 : g < w3.heap.size := HM3.out.lt
  have gne : gc ≠ g ∧ bc ≠ g := by constructor <;> omega
  have HBL := Lib.hid hbl
  have HLL := Lib.hid hll
  have HLV := Lib.hid hlv
  have HML := Lib.hid hml
  have HCL := Lib.hid hcl
  clear hbl hll hlv hml hcl b3 HC3 HM3 HB3
  go_loopw [7] (fun v wr => ∃ k : Nat, k ≤ 5 ∧ v = .int .i64 k ∧ Hid (Meter wr g 4 8 12 (exLv k)) ∧ Hid (wl.grownBy wr (some g))) (fun v _ => 5 - (intOf v).toNat)
  case atStart => exact ⟨0, by decide, rfl, HML, Lib.hid (grown_refl wl _)⟩
  case round =>
    obtain ⟨k, hk, rfl, HMr, HGr⟩ := hrel
    have HLr := Lib.hid (HLL.out.grown HGr.out (by simp; omega))
    have HVr := Lib.hid (HLV.out.grown HGr.out (by simp; omega))
    have hk' : k = 0 ∨ k = 1 ∨ k = 2 ∨ k = 3 ∨ k = 4 ∨ k = 5 := by omega
    rcases hk' with rfl | rfl | rfl | rfl | rfl | rfl
    · -- round 0
      have n1 : newLevel 4 8 12 0 3 = 0 := by decide
      have hset := set_any g 4 8 12 0 3 wr HMr.out (by decide) (by decide) (by decide) (by decide)
      unfold RetSet at hset
      rw [n1] at hset
      have HSET := Lib.hid hset
      clear hset
      have c1 := (HLr.out.cell 0)
      have c2 := (HVr.out.cell 0)
      simp only [List.getElem?_toArray, List.getElem?_cons_zero] at c1 c2
      go_wp2_with fail
      refine HSET.out.mono ?_
      rintro e w5 ⟨rfl, hm5, hg5⟩
      have c2' := ((Lit0.grown HVr.out hg5 (by simp; omega)).cell 0)
      simp only [List.getElem?_toArray, List.getElem?_cons_zero] at c2'
      have HM5 := Lib.hid hm5
      have HG5 := Lib.hid hg5
      clear hm5 hg5 c1 c2
      go_wp2_with fail
      refine (level_any g 4 8 12 0 w5 HM5.out).mono ?_
      rintro e w6 ⟨rfl, rfl⟩
      go_wp2_with fail
      go_roundw
      case rel => exact ⟨1, by decide, rfl, HM5, Lib.hid (grown_trans HGr.out HG5.out)⟩
      case measure => simp [intOf]
    · -- round 1
      have n1 : newLevel 4 8 12 0 9 = 2 := by decide
      have hset := set_any g 4 8 12 0 9 wr HMr.out (by decide) (by decide) (by decide) (by decide)
      unfold RetSet at hset
      rw [n1] at hset
      have HSET := Lib.hid hset
      clear hset
      have c1 := (HLr.out.cell 1)
      have c2 := (HVr.out.cell 1)
      simp only [List.getElem?_toArray, List.getElem?_cons_zero, List.getElem?_cons_succ] at c1 c2
      go_wp2_with fail
      refine HSET.out.mono ?_
      rintro e w5 ⟨rfl, hm5, hg5⟩
      have c2' := ((Lit0.grown HVr.out hg5 (by simp; omega)).cell 1)
      simp only [List.getElem?_toArray, List.getElem?_cons_zero, List.getElem?_cons_succ] at c2'
      have HM5 := Lib.hid hm5
      have HG5 := Lib.hid hg5
      clear hm5 hg5 c1 c2
      go_wp2_with fail
      refine (level_any g 4 8 12 2 w5 HM5.out).mono ?_
      rintro e w6 ⟨rfl, rfl⟩
      go_wp2_with fail
      go_roundw
      case rel => exact ⟨2, by decide, rfl, HM5, Lib.hid (grown_trans HGr.out HG5.out)⟩
      case measure => simp [intOf]
    · -- round 2
      have n1 : newLevel 4 8 12 2 5 = 2 := by decide
      have hset := set_any g 4 8 12 2 5 wr HMr.out (by decide) (by decide) (by decide) (by decide)
      unfold RetSet at hset
      rw [n1] at hset
      have HSET := Lib.hid hset
      clear hset
      have c1 := (HLr.out.cell 2)
      have c2 := (HVr.out.cell 2)
      simp only [List.getElem?_toArray, List.getElem?_cons_zero, List.getElem?_cons_succ] at c1 c2
      go_wp2_with fail
      refine HSET.out.mono ?_
      rintro e w5 ⟨rfl, hm5, hg5⟩
      have c2' := ((Lit0.grown HVr.out hg5 (by simp; omega)).cell 2)
      simp only [List.getElem?_toArray, List.getElem?_cons_zero, List.getElem?_cons_succ] at c2'
      have HM5 := Lib.hid hm5
      have HG5 := Lib.hid hg5
      clear hm5 hg5 c1 c2
      go_wp2_with fail
      refine (level_any g 4 8 12 2 w5 HM5.out).mono ?_
      rintro e w6 ⟨rfl, rfl⟩
      go_wp2_with fail
      go_roundw
      case rel => exact ⟨3, by decide, rfl, HM5, Lib.hid (grown_trans HGr.out HG5.out)⟩
      case measure => simp [intOf]
    · -- round 3
      have n1 : newLevel 4 8 12 2 4 = 1 := by decide
      have hset := set_any g 4 8 12 2 4 wr HMr.out (by decide) (by decide) (by decide) (by decide)
      unfold RetSet at hset
      rw [n1] at hset
      have HSET := Lib.hid hset
      clear hset
      have c1 := (HLr.out.cell 3)
      have c2 := (HVr.out.cell 3)
      simp only [List.getElem?_toArray, List.getElem?_cons_zero, List.getElem?_cons_succ] at c1 c2
      go_wp2_with fail
      refine HSET.out.mono ?_
      rintro e w5 ⟨rfl, hm5, hg5⟩
      have c2' := ((Lit0.grown HVr.out hg5 (by simp; omega)).cell 3)
      simp only [List.getElem?_toArray, List.getElem?_cons_zero, List.getElem?_cons_succ] at c2'
      have HM5 := Lib.hid hm5
      have HG5 := Lib.hid hg5
      clear hm5 hg5 c1 c2
      go_wp2_with fail
      refine (level_any g 4 8 12 1 w5 HM5.out).mono ?_
      rintro e w6 ⟨rfl, rfl⟩
      go_wp2_with fail
      go_roundw
      case rel => exact ⟨4, by decide, rfl, HM5, Lib.hid (grown_trans HGr.out HG5.out)⟩
      case measure => simp [intOf]
    · -- round 4
      have n1 : newLevel 4 8 12 1 2 = 0 := by decide
      have hset := set_any g 4 8 12 1 2 wr HMr.out (by decide) (by decide) (by decide) (by decide)
      unfold RetSet at hset
      rw [n1] at hset
      have HSET := Lib.hid hset
      clear hset
      have c1 := (HLr.out.cell 4)
      have c2 := (HVr.out.cell 4)
      simp only [List.getElem?_toArray, List.getElem?_cons_zero, List.getElem?_cons_succ] at c1 c2
      go_wp2_with fail
      refine HSET.out.mono ?_
      rintro e w5 ⟨rfl, hm5, hg5⟩
      have c2' := ((Lit0.grown HVr.out hg5 (by simp; omega)).cell 4)
      simp only [List.getElem?_toArray, List.getElem?_cons_zero, List.getElem?_cons_succ] at c2'
      have HM5 := Lib.hid hm5
      have HG5 := Lib.hid hg5
      clear hm5 hg5 c1 c2
      go_wp2_with fail
      refine (level_any g 4 8 12 0 w5 HM5.out).mono ?_
      rintro e w6 ⟨rfl, rfl⟩
      go_wp2_with fail
      go_roundw
      case rel => exact ⟨5, by decide, rfl, HM5, Lib.hid (grown_trans HGr.out HG5.out)⟩
      case measure => simp [intOf]
    · have hcr := HCL.out.grown HGr.out (by simpa using gne.1) (by simpa using gne.2)
      have hbr : Below w.heap.size w wr := below_grown (grown_trans (grown_below (Below.mono HBL.out (Nat.le_refl _)) _) HGr.out) hg (Nat.le_refl _)
      have HCR := Lib.hid hcr
      have HBR := Lib.hid hbr
      clear hcr hbr
      have l1 := fun (now : Int) (h : I64 now) (wx : World) (hx : Below wr.heap.size wr wx) => clevel_any gc bc 1 10 now 7 lvF wx (HCR.out.kept hx) (by decide) h (by decide) lvF_ok
      have L1 := Lib.hid l1
      clear l1
      have v1 : levelOf 10 100 (lvF 7) = 2 := by decide
      have v2 : levelOf 10 109 (lvF 7) = 2 := by decide
      have v3 : levelOf 10 110 (lvF 7) = 1 := by decide
      have v4 : levelOf 10 119 (lvF 7) = 1 := by decide
      have v5 : levelOf 10 120 (lvF 7) = 0 := by decide
      go_wp2_with fail
      refine (L1.out 100 (by unfold I64; decide) _ (Below.refl _ _)).mono ?_
      rintro e w5 ⟨rfl, hb5⟩
      rw [v1]
      have B5 := Lib.hid hb5
      clear hb5
      go_wp2_with fail
      refine (L1.out 109 (by unfold I64; decide) _ B5.out).mono ?_
      rintro e w6 ⟨rfl, hb6⟩
      rw [v2]
      have B6 := Lib.hid (B5.out.trans (hb6.mono B5.out.size))
      clear hb6
      go_wp2_with fail
      refine (L1.out 110 (by unfold I64; decide) _ B6.out).mono ?_
      rintro e w7 ⟨rfl, hb7⟩
      rw [v3]
      have B7 := Lib.hid (B6.out.trans (hb7.mono B6.out.size))
      clear hb7
      go_wp2_with fail
      refine (L1.out 119 (by unfold I64; decide) _ B7.out).mono ?_
      rintro e w8 ⟨rfl, hb8⟩
      rw [v4]
      have B8 := Lib.hid (B7.out.trans (hb8.mono B7.out.size))
      clear hb8
      go_wp2_with fail
      refine (L1.out 120 (by unfold I64; decide) _ B8.out).mono ?_
      rintro e w9 ⟨rfl, hb9⟩
      rw [v5]
      have B9 := Lib.hid (B8.out.trans (hb9.mono B8.out.size))
      clear hb9
      go_wp2_with fail
      refine (sheds_any 2 1 w9 (by decide)).mono ?_
      rintro e w10 ⟨rfl, rfl⟩
      go_wp2_with fail
      refine (sheds_any 2 2 w9 (by decide)).mono ?_
      rintro e w10 ⟨rfl, rfl⟩
      go_wp2_with fail
      go_ret
      exact ⟨rfl, HBR.out.trans (B9.out.mono HBR.out.size)⟩
end Go.Proofs.Ytljogcdopeflnaa
