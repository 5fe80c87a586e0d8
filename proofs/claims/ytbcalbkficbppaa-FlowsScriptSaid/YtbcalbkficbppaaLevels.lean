/- Levels: the level of one length after another. -/
import Derived.Test.YtbcalbkficbppaaLevel
namespace Go.Proofs.Ytbcalbkficbppaa
open Go.RowKit

theorem made_get_n (zc : Array Value) (len j : Nat) (hj : j < len) : (madeCells zc len)[j]? = some (zc[j % zc.size]!) := by
  simp [madeCells, hj]

theorem make_n {P : Program} (t e : TypeId) (z : Value) (zc : Array Value) (size bytes : Nat) (ht : P.underlying t = some (.slice e)) (hinfo : (P.info? e).map (fun i => (i.zero, i.size, i.bytes)) = some (some z, size, bytes)) (hzc : z.cells = zc)
    (n : Nat) (hb : bytes ≤ 1024) (hn : n ≤ 1048576) (w : World) :
    (Instr.makeSlice t (.int .i64 (n : Int)) (.int .i64 (n : Int))).run P w = .ok (.slice (some ⟨w.heap.size, 0, none⟩) n n) (w.alloc (.cells (madeCells zc (n * size)) e)) := by
  obtain ⟨i, hi, hzz⟩ := Option.map_eq_some_iff.1 hinfo
  simp only [Prod.mk.injEq] at hzz
  obtain ⟨hz, hs, hby⟩ := hzz
  have hbn : bytes * n ≤ 1024 * 1048576 := Nat.mul_le_mul hb hn
  have hbi : (i.bytes : Int) * (n : Int) ≤ 281474976710656 := by
    rw [hby]
    have : ((bytes * n : Nat) : Int) ≤ 281474976710656 := by omega
    rwa [Int.natCast_mul] at this
  have hr := run_make (P := P) w t e i z ht hi hz .i64 .i64 (n : Int) (n : Int) (by omega) (by omega) hbi (by omega)
  simp only [Int.toNat_natCast, hzc, hs] at hr
  exact hr

/-- The level behind k lengths. -/
def lvs (b0 b1 b2 e0 e1 e2 : Int) (S : Nat → Int) : Nat → Int
  | 0 => 0
  | k + 1 => levelOf b0 b1 b2 e0 e1 e2 (lvs b0 b1 b2 e0 e1 e2 S k) (S k)

def LevelsOk (b0 b1 b2 e0 e1 e2 : Int) (S : Nat → Int) (n : Nat) : Prop := rightOf b0 b1 b2 e0 e1 e2 = true ∧ ∀ i, i < n → 0 ≤ S i

def RetLevels (w : World) (b0 b1 b2 e0 e1 e2 : Int) (S : Nat → Int) (n : Nat) (e : Ending) (w' : World) : Prop :=
  (¬ LevelsOk b0 b1 b2 e0 e1 e2 S n ∧ e = .returned (.tuple #[.slice none 0 0, .int .i64 1]) ∧ Below w.heap.size w w') ∨
  (LevelsOk b0 b1 b2 e0 e1 e2 S n ∧ ∃ g, e = .returned (.tuple #[.slice (some ⟨g, 0, none⟩) n n, .int .i64 0]) ∧ w.heap.size ≤ g ∧ Row w' g 3 n (fun j => .int .i64 (lvs b0 b1 b2 e0 e1 e2 S (j + 1))) ∧ Below w.heap.size w w')

set_option maxRecDepth 100000 in
set_option maxHeartbeats 2000000 in
theorem Levels_any (b0 b1 b2 e0 e1 e2 : Int) (A : Option Addr) (n cp : Nat) (S : Nat → Int) (w : World) (hn : n ≤ 100) (hS : Sees w w.heap.size A n (fun i => .int .i64 (S i))) :
    Calls Try.prog 23 #[.agg #[.int .i64 b0, .int .i64 b1, .int .i64 b2, .int .i64 e0, .int .i64 e1, .int .i64 e2], .slice A n cp] w (RetLevels w b0 b1 b2 e0 e1 e2 S n) := by
  have hb0 := (Below.refl _ w).alloc (Nat.le_refl _) (.cells #[.int .i64 b0, .int .i64 b1, .int .i64 b2, .int .i64 e0, .int .i64 e1, .int .i64 e2] 45)
  have hl0 := Lit0.new w 45 #[.int .i64 b0, .int .i64 b1, .int .i64 b2, .int .i64 e0, .int .i64 e1, .int .i64 e2]
  have hmk := make_n (P := Try.prog) 50 3 (.int .i64 0) #[.int .i64 0] 1 8 (by kernel_rfl) (by kernel_rfl) rfl n (by decide) (by omega)
  have HS := Lib.hid hS
  clear hS
  go_enter Try.func23, Try.ntmps23
  go_wp2_with fail
  have hrow : Row ((w.alloc (.cells #[.int .i64 b0, .int .i64 b1, .int .i64 b2, .int .i64 e0, .int .i64 e1, .int .i64 e2] 45)).alloc (.cells (madeCells #[.int .i64 0] (n * 1)) 3)) (w.alloc (.cells #[.int .i64 b0, .int .i64 b1, .int .i64 b2, .int .i64 e0, .int .i64 e1, .int .i64 e2] 45)).heap.size 3 n (fun j => .int .i64 (if j < 0 then lvs b0 b1 b2 e0 e1 e2 S (j + 1) else 0)) :=
    Row.new _ (by simp [madeCells]) (fun j hj => by
      rw [made_get_n _ _ _ (by omega)]
      simp [Nat.mod_one])
  have hl1 := hl0.alloc (.cells (madeCells #[.int .i64 0] (n * 1)) 3)
  have hb1 := hb0.alloc hb0.size (.cells (madeCells #[.int .i64 0] (n * 1)) 3)
  simp only [World.size_alloc, Nat.mul_one] at hrow hl1 hb1
  generalize (w.alloc (.cells #[.int .i64 b0, .int .i64 b1, .int .i64 b2, .int .i64 e0, .int .i64 e1, .int .i64 e2] 45)).alloc (.cells (madeCells #[.int .i64 0] n) 3) = w1 at hl1 hb1 hrow ⊢
  have HR0 := Lib.hid hrow
  have HL0 := Lib.hid hl1
  have HB0 := Lib.hid hb1
  have hlev := fun (last l : Int) (w : World) => level_any b0 b1 b2 e0 e1 e2 last l w
  have HLEV := Lib.hid hlev
  clear hrow hl0 hb0 hl1 hb1 hmk hlev
  obtain ⟨Lv, hLv⟩ : ∃ Lv, Lv = lvs b0 b1 b2 e0 e1 e2 S := ⟨_, rfl⟩
  rw [← hLv] at HR0
  have hL0 : Lv 0 = 0 := by rw [hLv]; rfl
  have hLs : ∀ k, levelOf b0 b1 b2 e0 e1 e2 (Lv k) (S k) = Lv (k + 1) := fun k => by rw [hLv]; rfl
  have HLV := Lib.hid hLv
  have HL00 := Lib.hid hL0
  have HLS := Lib.hid hLs
  clear hLv hL0 hLs
  go_loopw [7, 15] (fun v7 v15 wr => ∃ k : Nat, k ≤ n ∧ v7 = .int .i64 (Lv k) ∧ v15 = .int .i64 k ∧ Hid (∀ i, i < k → 0 ≤ S i) ∧ Hid (Row wr (w.heap.size + 1) 3 n (fun j => .int .i64 (if j < k then Lv (j + 1) else 0))) ∧
      Hid (Lit0 wr w.heap.size 45 #[.int .i64 b0, .int .i64 b1, .int .i64 b2, .int .i64 e0, .int .i64 e1, .int .i64 e2]) ∧ Hid (Below w.heap.size w wr)) (fun _ v _ => n - (intOf v).toNat)
  case atStart => exact ⟨0, by omega, by rw [HL00.out], rfl, Lib.hid (fun i hi => absurd hi (by omega)), HR0, HL0, HB0⟩
  case round =>
    obtain ⟨k, hk, rfl, rfl, HPOS, HR, HL, HB⟩ := hrel
    have c0 := HL.out.cell 0
    have c1 := HL.out.cell 1
    have c2 := HL.out.cell 2
    have c3 := HL.out.cell 3
    have c4 := HL.out.cell 4
    have c5 := HL.out.cell 5
    simp only [List.getElem?_toArray, List.getElem?_cons_zero, List.getElem?_cons_succ] at c0 c1 c2 c3 c4 c5
    by_cases hkn : k < n
    · have dk : decide ((k : Int) < (n : Int)) = true := by simp; omega
      have dk' : decide (k < n) = true := by simpa using hkn
      obtain ⟨bs, off, rfl⟩ := HS.out.form (by omega)
      have cS := (HS.out.below HB.out).cell hkn
      by_cases hneg : S k < 0
      · have d1 : decide (S k < 0) = true := by simpa using hneg
        have hbad : ¬ LevelsOk b0 b1 b2 e0 e1 e2 S n := fun h => by have := h.2 k hkn; omega
        have HBAD := Lib.hid hbad
        clear hbad
        go_wp2_with fail
        go_ret2
        exact .inl ⟨HBAD.out, rfl, HB.out⟩
      · have d1 : decide (S k < 0) = false := by simpa using hneg
        have hpos : ∀ i, i < k + 1 → 0 ≤ S i := fun i hi => by
          rcases Nat.lt_or_eq_of_le (Nat.le_of_lt_succ hi) with h | rfl
          · exact HPOS.out i h
          · omega
        have HPOS1 := Lib.hid hpos
        have hlv := fun w => HLEV.out (Lv k) (S k) w
        rw [HLS.out k] at hlv
        have HLK := Lib.hid hlv
        clear hpos hlv
        generalize Lv k = lk at HLK ⊢
        generalize S k = sk at cS d1 HLK hneg
        go_wp2_with fail
        refine (HLK.out _).mono ?_
        rintro e w2 ⟨rfl, hb2⟩
        have r2 := HR.out.kept hb2
        have HB2 := Lib.hid (HB.out.trans (hb2.mono HB.out.size))
        have HL2 := Lib.hid (HL.out.kept hb2)
        have x1 := r2.cell hkn
        have x2 := r2.free k
        have HR2 := Lib.hid (r2.set hkn (.int .i64 (Lv (k + 1))))
        clear hb2 r2 cS c0 c1 c2 c3 c4 c5
        obtain ⟨ln, hln⟩ : ∃ ln, ln = Lv (k + 1) := ⟨_, rfl⟩
        rw [← hln] at HR2 ⊢
        have HLN := Lib.hid hln
        clear hln
        go_wp2_with fail
        go_roundw
        case rel =>
          refine ⟨k + 1, by omega, by rw [HLN.out], by simp, HPOS1, Lib.hid (HR2.out.congr (fun j hj => ?_)), Lib.hid (HL2.out.far (by simp) _), Lib.hid ?_⟩
          · by_cases e : j = k
            · subst e
              rw [if_pos rfl, if_pos (by omega), HLN.out]
            · rw [if_neg e]
              by_cases h : j < k
              · rw [if_pos h, if_pos (by omega)]
              · rw [if_neg h, if_neg (by omega)]
          · exact below_grown (grown_set (grown_below (Below.mono HB2.out (Nat.le_refl _)) (some (w.heap.size + 1))) (.inl rfl) _) (by omega) (Nat.le_refl _)
        case measure => simp [intOf]; omega
    · have dk : decide ((k : Int) < (n : Int)) = false := by simp; omega
      have dk' : decide (k < n) = false := by simpa using hkn
      obtain rfl : k = n := by omega
      obtain ⟨r, hr⟩ : ∃ r, r = rightOf b0 b1 b2 e0 e1 e2 := ⟨_, rfl⟩
      have hright := fun w => right_any b0 b1 b2 e0 e1 e2 w
      rw [← hr] at hright
      have HRIGHT := Lib.hid hright
      have HRR := Lib.hid hr
      have HRF := Lib.hid (HR.out.congr (f' := fun j => .int .i64 (Lv (j + 1))) (fun j hj => by rw [if_pos hj]))
      clear hright hr
      cases r
      · have hbad : ¬ LevelsOk b0 b1 b2 e0 e1 e2 S k := fun h => by have h1 := h.1; rw [← HRR.out] at h1; cases h1
        have HBAD := Lib.hid hbad
        clear hbad
        go_wp2_with fail
        refine (HRIGHT.out _).mono ?_
        rintro e w2 ⟨rfl, hb2⟩
        go_wp2_with fail
        go_ret2
        exact .inl ⟨HBAD.out, rfl, HB.out.trans (hb2.mono HB.out.size)⟩
      · have hgood : LevelsOk b0 b1 b2 e0 e1 e2 S k := ⟨HRR.out.symm, HPOS.out⟩
        have HGOOD := Lib.hid hgood
        clear hgood
        go_wp2_with fail
        refine (HRIGHT.out _).mono ?_
        rintro e w2 ⟨rfl, hb2⟩
        go_wp2_with fail
        go_ret2
        exact .inr ⟨HGOOD.out, w.heap.size + 1, rfl, by omega, by rw [← HLV.out]; exact HRF.out.kept hb2, HB.out.trans (hb2.mono HB.out.size)⟩
end Go.Proofs.Ytbcalbkficbppaa
