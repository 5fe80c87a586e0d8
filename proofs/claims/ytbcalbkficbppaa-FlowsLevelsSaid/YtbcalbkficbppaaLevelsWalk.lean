/- The law FlowsLevels: the walk. -/
import Derived.Test.YtbcalbkficbppaaLevelWalk
namespace Go.Proofs.Ytbcalbkficbppaa
open Go.RowKit

/-- The law's own error behind k lengths. -/
def eTo (S : Nat → Int) : Nat → Int
  | 0 => 0
  | k + 1 => if S k < 0 then 1 else eTo S k

theorem eTo_range (S : Nat → Int) : ∀ k, eTo S k = 0 ∨ eTo S k = 1
  | 0 => .inl rfl
  | k + 1 => by
    unfold eTo
    split
    · exact .inr rfl
    · exact eTo_range S k

theorem eTo_zero (S : Nat → Int) : ∀ k, eTo S k = 0 ↔ ∀ i, i < k → 0 ≤ S i
  | 0 => ⟨fun _ i hi => absurd hi (by omega), fun _ => rfl⟩
  | k + 1 => by
    unfold eTo
    constructor
    · intro h i hi
      split at h
      · cases h
      · rcases Nat.lt_or_eq_of_le (Nat.le_of_lt_succ hi) with h1 | rfl
        · exact (eTo_zero S k).1 h i h1
        · omega
    · intro h
      rw [if_neg (by have := h k (by omega); omega)]
      exact (eTo_zero S k).2 (fun i hi => h i (by omega))

theorem limb7 {wr wx : World} {p0 p1 p2 p3 p4 p5 p6 : Addr} {v0 v1 v2 v3 v4 v5 v6 : Value} (h : wx.cell? p0 = some v0 ∧ wx.cell? p1 = some v1 ∧ wx.cell? p2 = some v2 ∧ wx.cell? p3 = some v3 ∧ wx.cell? p4 = some v4 ∧ wx.cell? p5 = some v5 ∧ wx.cell? p6 = some v6 ∧ Below wr.heap.size wr wx) : Below wr.heap.size wr wx := h.2.2.2.2.2.2.2
theorem keep7 {wr wx w7 : World} {p0 p1 p2 p3 p4 p5 p6 : Addr} {v0 v1 v2 v3 v4 v5 v6 : Value} (h : wx.cell? p0 = some v0 ∧ wx.cell? p1 = some v1 ∧ wx.cell? p2 = some v2 ∧ wx.cell? p3 = some v3 ∧ wx.cell? p4 = some v4 ∧ wx.cell? p5 = some v5 ∧ wx.cell? p6 = some v6 ∧ Below wr.heap.size wr wx)
    (l0 : p0.block < wr.heap.size) (l1 : p1.block < wr.heap.size) (l2 : p2.block < wr.heap.size) (l3 : p3.block < wr.heap.size) (l4 : p4.block < wr.heap.size) (l5 : p5.block < wr.heap.size) (l6 : p6.block < wr.heap.size) (hb7 : Below wx.heap.size wx w7) :
    w7.cell? p0 = some v0 ∧ w7.cell? p1 = some v1 ∧ w7.cell? p2 = some v2 ∧ w7.cell? p3 = some v3 ∧ w7.cell? p4 = some v4 ∧ w7.cell? p5 = some v5 ∧ w7.cell? p6 = some v6 ∧ Below wr.heap.size wr w7 := by
  obtain ⟨h0, h1, h2, h3, h4, h5, h6, hb⟩ := h
  have hs := hb.size
  exact ⟨(hb7.cell (by omega)).trans h0, (hb7.cell (by omega)).trans h1, (hb7.cell (by omega)).trans h2, (hb7.cell (by omega)).trans h3, (hb7.cell (by omega)).trans h4, (hb7.cell (by omega)).trans h5, (hb7.cell (by omega)).trans h6, hb.trans (hb7.mono hs)⟩

theorem levels_many (b0 b1 b2 e0 e1 e2 : Int) (A : Option Addr) (n cp : Nat) (w : World) (hn : 100 < n) :
    Calls Try.prog 6 #[.agg #[.int .i64 b0, .int .i64 b1, .int .i64 b2, .int .i64 e0, .int .i64 e1, .int .i64 e2], .slice A n cp] w (RetBool w true) := by
  have hb0 := (Below.refl _ w).alloc (Nat.le_refl _) (.cells #[.int .i64 b0, .int .i64 b1, .int .i64 b2, .int .i64 e0, .int .i64 e1, .int .i64 e2] 45)
  have dn : decide (100 < (n : Int)) = true := by simp; omega
  clear hn
  go_enter Try.func6, Try.ntmps6
  go_wp2_with fail
  refine (lives_any _).mono ?_
  rintro e w1 ⟨rfl, hb1⟩
  go_wp2_with fail
  go_ret
  exact ⟨rfl, hb0.trans (hb1.mono hb0.size)⟩

set_option maxRecDepth 100000 in
set_option maxHeartbeats 4000000 in
theorem levels_law (b0 b1 b2 e0 e1 e2 : Int) (A : Option Addr) (n cp : Nat) (S : Nat → Int) (w : World) (hn : n ≤ 100) (hS : Sees w w.heap.size A n (fun i => .int .i64 (S i))) :
    Calls Try.prog 6 #[.agg #[.int .i64 b0, .int .i64 b1, .int .i64 b2, .int .i64 e0, .int .i64 e1, .int .i64 e2], .slice A n cp] w (RetBool w true) := by
  have dn : decide (100 < (n : Int)) = false := by simp; omega
  have hb0 := (Below.refl _ w).alloc (Nat.le_refl _) (.cells #[.int .i64 b0, .int .i64 b1, .int .i64 b2, .int .i64 e0, .int .i64 e1, .int .i64 e2] 45)
  have hl0 := Lit0.new w 45 #[.int .i64 b0, .int .i64 b1, .int .i64 b2, .int .i64 e0, .int .i64 e1, .int .i64 e2]
  have c0 := hl0.cell 0
  have c1 := hl0.cell 1
  have c2 := hl0.cell 2
  have c3 := hl0.cell 3
  have c4 := hl0.cell 4
  have c5 := hl0.cell 5
  simp only [List.getElem?_toArray, List.getElem?_cons_zero, List.getElem?_cons_succ] at c0 c1 c2 c3 c4 c5
  have HB0 := Lib.hid hb0
  have HL0 := Lib.hid hl0
  have hval := fun w => valid2_any b0 b1 b2 e0 e1 e2 w
  obtain ⟨r, hr⟩ : ∃ r, r = rightOf b0 b1 b2 e0 e1 e2 := ⟨_, rfl⟩
  rw [← hr] at hval
  have HVAL := Lib.hid hval
  have HR := Lib.hid hr
  have HS := Lib.hid hS
  clear hval hr hb0 hl0 hS
  go_enter Try.func6, Try.ntmps6
  go_wp2_with fail
  generalize w.alloc (.cells #[.int .i64 b0, .int .i64 b1, .int .i64 b2, .int .i64 e0, .int .i64 e1, .int .i64 e2] 45) = w1 at HB0 HL0 c0 c1 c2 c3 c4 c5 ⊢
  have hsee : Sees w1 w1.heap.size A n (fun i => .int .i64 (S i)) := (HS.out.below HB0.out).more HB0.out.size
  refine (Levels_any b0 b1 b2 e0 e1 e2 A n cp S w1 hn hsee).mono ?_
  have EA : Hid (∀ (w2 : World), Below w1.heap.size w1 w2 → True) := Lib.hid (fun _ _ => trivial)
  clear hsee EA
  rintro e w2 (⟨hbad, rfl, hb2⟩ | ⟨hgood, gr, rfl, hgr, hrow, hb2⟩)
  · have HBAD := Lib.hid hbad
    clear hbad
    have HB2 := Lib.hid (HB0.out.trans (hb2.mono HB0.out.size))
    have HL2 := Lib.hid (HL0.out.kept hb2)
    clear hb2 c0 c1 c2 c3 c4 c5
    go_wp2_with fail
    go_loopw [7, 8] (fun v7 v8 wr => ∃ k : Nat, k ≤ n ∧ w2 = wr ∧ v8 = .int .i64 k ∧ v7 = .int .i64 (eTo S k)) (fun _ v _ => n - (intOf v).toNat)
    case atStart => exact ⟨0, by omega, rfl, rfl, rfl⟩
    case round =>
      obtain ⟨k, hk, rfl, rfl, rfl⟩ := hrel
      by_cases hkn : k < n
      · have dk : decide ((k : Int) < (n : Int)) = true := by simp; omega
        have dk' : decide (k < n) = true := by simpa using hkn
        obtain ⟨bs, off, rfl⟩ := HS.out.form (by omega)
        have cS := (HS.out.below HB2.out).cell hkn
        by_cases hneg : S k < 0
        · have d1 : decide (S k < 0) = true := by simpa using hneg
          go_wp2_with fail
          go_roundw
          case rel => exact ⟨k + 1, by omega, by trivial, by simp, by unfold eTo; rw [if_pos hneg]⟩
          case measure => simp [intOf]; omega
        · have d1 : decide (S k < 0) = false := by simpa using hneg
          have he : eTo S (k + 1) = eTo S k := by rw [eTo, if_neg hneg]
          have HE := Lib.hid he
          clear he
          generalize eTo S k = u at HE ⊢
          go_wp2_with fail
          go_roundw
          case rel => exact ⟨k + 1, by omega, by trivial, by simp, by rw [HE.out]⟩
          case measure => simp [intOf]; omega
      · have dk : decide ((k : Int) < (n : Int)) = false := by simp; omega
        have dk' : decide (k < n) = false := by simp; omega
        obtain rfl : k = n := by omega
        have L2 := HL2.out
        have c0 := L2.cell 0
        have c1 := L2.cell 1
        have c2 := L2.cell 2
        have c3 := L2.cell 3
        have c4 := L2.cell 4
        have c5 := L2.cell 5
        simp only [List.getElem?_toArray, List.getElem?_cons_zero, List.getElem?_cons_succ] at c0 c1 c2 c3 c4 c5
        clear L2
        -- an error
        obtain ⟨u, hu⟩ : ∃ u, u = eTo S k := ⟨_, rfl⟩
        have hu01 : u = 0 ∨ u = 1 := by rw [hu]; exact eTo_range S k
        have hbad : ¬ (r = true ∧ u = 0) := fun h => HBAD.out ⟨by rw [← HR.out]; exact h.1, (eTo_zero S k).1 (by rw [← hu]; exact h.2)⟩
        rw [← hu]
        clear hu
        cases r
        · clear hbad
          go_wp2_with fail
          refine (HVAL.out _).mono ?_
          rintro e w3 ⟨rfl, hb3⟩
          have HB3 := Lib.hid (HB2.out.trans (hb3.mono HB2.out.size))
          clear hb3 c0 c1 c2 c3 c4 c5
          go_wp2_with fail
          go_loopw [10] (fun v wr => v = .int .i64 0 ∧ w3 = wr) (fun _ _ => 0)
          case atStart => exact ⟨rfl, rfl⟩
          case round =>
            obtain ⟨rfl, rfl⟩ := hrel
            by_cases hk0 : 0 < k
            · have z1 : decide ((0 : Int) < (k : Int)) = true := by simp; omega
              have z1' : decide (0 < k) = true := by simpa using hk0
              go_wp2_with fail
              refine (lives_any _).mono ?_
              rintro e w4 ⟨rfl, hb4⟩
              go_wp2_with fail
              go_ret
              exact ⟨rfl, HB3.out.trans (hb4.mono HB3.out.size)⟩
            · have z1 : decide ((0 : Int) < (k : Int)) = false := by simp; omega
              have z1' : decide (0 < k) = false := by simpa using hk0
              go_wp2_with fail
              refine (lives_any _).mono ?_
              rintro e w4 ⟨rfl, hb4⟩
              go_wp2_with fail
              go_ret
              exact ⟨rfl, HB3.out.trans (hb4.mono HB3.out.size)⟩
        · obtain rfl : u = 1 := by
            rcases hu01 with h | h
            · exact absurd ⟨rfl, h⟩ hbad
            · exact h
          clear hbad hu01
          go_wp2_with fail
          refine (HVAL.out _).mono ?_
          rintro e w3 ⟨rfl, hb3⟩
          have HB3 := Lib.hid (HB2.out.trans (hb3.mono HB2.out.size))
          clear hb3 c0 c1 c2 c3 c4 c5
          go_wp2_with fail
          go_loopw [10] (fun v wr => v = .int .i64 0 ∧ w3 = wr) (fun _ _ => 0)
          case atStart => exact ⟨rfl, rfl⟩
          case round =>
            obtain ⟨rfl, rfl⟩ := hrel
            by_cases hk0 : 0 < k
            · have z1 : decide ((0 : Int) < (k : Int)) = true := by simp; omega
              have z1' : decide (0 < k) = true := by simpa using hk0
              go_wp2_with fail
              refine (lives_any _).mono ?_
              rintro e w4 ⟨rfl, hb4⟩
              go_wp2_with fail
              go_ret
              exact ⟨rfl, HB3.out.trans (hb4.mono HB3.out.size)⟩
            · have z1 : decide ((0 : Int) < (k : Int)) = false := by simp; omega
              have z1' : decide (0 < k) = false := by simpa using hk0
              go_wp2_with fail
              refine (lives_any _).mono ?_
              rintro e w4 ⟨rfl, hb4⟩
              go_wp2_with fail
              go_ret
              exact ⟨rfl, HB3.out.trans (hb4.mono HB3.out.size)⟩
  · have HGOOD := Lib.hid hgood
    have HROW := Lib.hid hrow
    clear hgood hrow
    have HB2 := Lib.hid (HB0.out.trans (hb2.mono HB0.out.size))
    have HL2 := Lib.hid (HL0.out.kept hb2)
    clear hb2 c0 c1 c2 c3 c4 c5
    go_wp2_with fail
    go_loopw [7, 8] (fun v7 v8 wr => ∃ k : Nat, k ≤ n ∧ w2 = wr ∧ v8 = .int .i64 k ∧ v7 = .int .i64 (eTo S k)) (fun _ v _ => n - (intOf v).toNat)
    case atStart => exact ⟨0, by omega, rfl, rfl, rfl⟩
    case round =>
      obtain ⟨k, hk, rfl, rfl, rfl⟩ := hrel
      by_cases hkn : k < n
      · have dk : decide ((k : Int) < (n : Int)) = true := by simp; omega
        have dk' : decide (k < n) = true := by simpa using hkn
        obtain ⟨bs, off, rfl⟩ := HS.out.form (by omega)
        have cS := (HS.out.below HB2.out).cell hkn
        by_cases hneg : S k < 0
        · have d1 : decide (S k < 0) = true := by simpa using hneg
          go_wp2_with fail
          go_roundw
          case rel => exact ⟨k + 1, by omega, by trivial, by simp, by unfold eTo; rw [if_pos hneg]⟩
          case measure => simp [intOf]; omega
        · have d1 : decide (S k < 0) = false := by simpa using hneg
          have he : eTo S (k + 1) = eTo S k := by rw [eTo, if_neg hneg]
          have HE := Lib.hid he
          clear he
          generalize eTo S k = u at HE ⊢
          go_wp2_with fail
          go_roundw
          case rel => exact ⟨k + 1, by omega, by trivial, by simp, by rw [HE.out]⟩
          case measure => simp [intOf]; omega
      · have dk : decide ((k : Int) < (n : Int)) = false := by simp; omega
        have dk' : decide (k < n) = false := by simp; omega
        obtain rfl : k = n := by omega
        have L2 := HL2.out
        have c0 := L2.cell 0
        have c1 := L2.cell 1
        have c2 := L2.cell 2
        have c3 := L2.cell 3
        have c4 := L2.cell 4
        have c5 := L2.cell 5
        simp only [List.getElem?_toArray, List.getElem?_cons_zero, List.getElem?_cons_succ] at c0 c1 c2 c3 c4 c5
        clear L2
        have hu : eTo S k = 0 := (eTo_zero S k).2 HGOOD.out.2
        have hrr : r = true := by rw [HR.out]; exact HGOOD.out.1
        rw [hu]
        subst hrr
        clear hu
        go_wp2_with fail
        refine (HVAL.out _).mono ?_
        rintro e w3 ⟨rfl, hb3⟩
        have HB3 := Lib.hid (HB2.out.trans (hb3.mono HB2.out.size))
        have HL3 := Lib.hid (HL2.out.kept hb3)
        have HROW3 := Lib.hid (HROW.out.kept hb3)
        clear hb3 c0 c1 c2 c3 c4 c5
        obtain ⟨Lv, hLv⟩ : ∃ Lv, Lv = lvs b0 b1 b2 e0 e1 e2 S := ⟨_, rfl⟩
        rw [← hLv] at HROW3
        have HL00 := Lib.hid (show Lv 0 = 0 by rw [hLv]; rfl)
        have HLR := Lib.hid (show ∀ j, 0 ≤ Lv j ∧ Lv j ≤ 3 from fun j => by
          rw [hLv]
          cases j with
          | zero => exact (by decide : (0 : Int) ≤ 0 ∧ (0 : Int) ≤ 3)
          | succ j => exact levelOf_range _ _ _ _ _ _ _ _)
        have HLS := Lib.hid (show ∀ j, levelOf b0 b1 b2 e0 e1 e2 (Lv j) (S j) = Lv (j + 1) from fun j => by rw [hLv]; rfl)
        clear hLv
        have kk : ((k : Int) != (k : Int)) = false := by simp
        go_wp2_with fail
        clear kk
        go_loopw [9, 10] (fun v9 v10 wr => ∃ j : Nat, j ≤ k ∧ v9 = .int .i64 (Lv j) ∧ v10 = .int .i64 j ∧ Hid (Below w3.heap.size w3 wr)) (fun _ v _ => k - (intOf v).toNat)
        case atStart => exact ⟨0, by omega, by rw [HL00.out], rfl, Lib.hid (Below.refl _ _)⟩
        case round =>
          obtain ⟨j, hj, rfl, rfl, HX⟩ := hrel
          have HBX := Lib.hid (HB3.out.trans (HX.out.mono HB3.out.size))
          by_cases hjk : j < k
          · have z1 : decide ((j : Int) < (k : Int)) = true := by simp; omega
            have z1' : decide (j < k) = true := by simpa using hjk
            obtain ⟨bs, off, rfl⟩ := HS.out.form (by omega)
            have cS := (HS.out.below HBX.out).cell hjk
            have LX := HL3.out.kept HX.out
            have c0 := LX.cell 0
            have c1 := LX.cell 1
            have c2 := LX.cell 2
            have c3 := LX.cell 3
            have c4 := LX.cell 4
            have c5 := LX.cell 5
            simp only [List.getElem?_toArray, List.getElem?_cons_zero, List.getElem?_cons_succ] at c0 c1 c2 c3 c4 c5
            have hpos := HGOOD.out.2 j hjk
            have hok : levelOk b0 b1 b2 e0 e1 e2 (Lv j) (S j) = true := by
              unfold levelOk
              rw [← HR.out]
              have := HLR.out j
              simp
              omega
            have hc := fun w => Level_any b0 b1 b2 e0 e1 e2 (Lv j) (S j) w
            unfold RetLevel at hc
            rw [hok, HLS.out j] at hc
            have HC := Lib.hid hc
            have k0 : (0 : Int) ≤ (j : Int) := by omega
            have k1 : (j : Int) < (k : Int) := by omega
            have k2 : (k : Int) ≤ 100 := by omega
            have HLX := Lib.hid LX
            clear hc hok LX hpos
            obtain ⟨ln, hln⟩ : ∃ ln, ln = Lv (j + 1) := ⟨_, rfl⟩
            rw [← hln] at HC
            have HLN := Lib.hid hln
            clear hln
            generalize Lv j = lk at HC ⊢
            generalize S j = sj at HC cS
            go_wp2_with fail
            have lb := HLX.out.lt
            have lS := cell_lt cS
            go_region_held3 (fun w' => (w'.cell? ⟨w.heap.size, 0, none⟩ = some (.int .i64 b0) ∧ w'.cell? ⟨w.heap.size, 1, none⟩ = some (.int .i64 b1) ∧ w'.cell? ⟨w.heap.size, 2, none⟩ = some (.int .i64 b2) ∧ w'.cell? ⟨w.heap.size, 3, none⟩ = some (.int .i64 e0) ∧ w'.cell? ⟨w.heap.size, 4, none⟩ = some (.int .i64 e1) ∧ w'.cell? ⟨w.heap.size, 5, none⟩ = some (.int .i64 e2) ∧ w'.cell? ⟨bs, off + j, none⟩ = some (.int .i64 sj) ∧ Below wr.heap.size wr w'))
              (first | exact ⟨c0, c1, c2, c3, c4, c5, cS, Below.drew (Below.refl _ _)⟩ | exact keep7 (by assumption) lb lb lb lb lb lb lS hb5 | go_keep)
              (first | (go_at_call 21; refine (HC.out _).mono ?_; rintro e w5 (⟨h, _⟩ | ⟨_, rfl, hb5⟩); first | cases h | skip))
            have hlast : Below wr.heap.size wr w5 := limb7 (p0 := ⟨w.heap.size, 0, none⟩) (p1 := ⟨w.heap.size, 1, none⟩) (p2 := ⟨w.heap.size, 2, none⟩) (p3 := ⟨w.heap.size, 3, none⟩) (p4 := ⟨w.heap.size, 4, none⟩) (p5 := ⟨w.heap.size, 5, none⟩) (p6 := ⟨bs, off + j, none⟩) (v0 := .int .i64 b0) (v1 := .int .i64 b1) (v2 := .int .i64 b2) (v3 := .int .i64 e0) (v4 := .int .i64 e1) (v5 := .int .i64 e2) (v6 := .int .i64 sj) (by assumption)
            have HX5 := Lib.hid (HX.out.trans (hlast.mono HX.out.size))
            have r5 := (HROW3.out.kept HX5.out).cell hjk
            replace r5 : _ = some (Value.int .i64 (Lv (j + 1))) := r5
            rw [← HLN.out] at r5
            clear hb5 hlast cS c0 c1 c2 c3 c4 c5
            go_wp2_with fail
            go_roundw
            case rel => exact ⟨j + 1, by omega, by rw [HLN.out], by simp, HX5⟩
            case measure => simp [intOf]; omega
          · have z1 : decide ((j : Int) < (k : Int)) = false := by simp; omega
            have z1' : decide (j < k) = false := by simpa using hjk
            go_wp2_with fail
            refine (lives_any _).mono ?_
            rintro e w4 ⟨rfl, hb4⟩
            go_wp2_with fail
            go_ret
            exact ⟨rfl, HBX.out.trans (hb4.mono HBX.out.size)⟩
end Go.Proofs.Ytbcalbkficbppaa
