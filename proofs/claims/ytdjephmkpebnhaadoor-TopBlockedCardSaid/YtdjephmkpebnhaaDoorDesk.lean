/- Groups and desks are made. -/
import Derived.Test.YtdjephmkpebnhaaDoorHunt2
namespace Go.Proofs.YtdjephmkpebnhaaDoor
open Go.RowKit

theorem made_get_n (zc : Array Value) (len j : Nat) (hj : j < len) : (madeCells zc len)[j]? = some (zc[j % zc.size]!) := by
  simp [madeCells, hj]

theorem make_n {P : Program} (t e : TypeId) (z : Value) (zc : Array Value) (size bytes : Nat) (ht : P.underlying t = some (.slice e)) (hinfo : (P.info? e).map (fun i => (i.zero, i.size, i.bytes)) = some (some z, size, bytes)) (hzc : z.cells = zc)
    (n : Nat) (hb : bytes ≤ 1024) (hn : n ≤ 1048576) (w : World) :
    (Instr.makeSlice t (.int .i64 (n : Int)) (.int .i64 (n : Int))).run P w = .ok (.slice (some ⟨w.heap.size, 0, none⟩) n n) (w.alloc (.cells (madeCells zc (n * size)) e)) := by
  obtain ⟨i, hi, hzz⟩ := Option.map_eq_some_iff.1 hinfo
  simp only [Prod.mk.injEq] at hzz
  obtain ⟨hz, hs, hby⟩ := hzz
  have hbn : bytes * n ≤ 1024 * 1048576 := Nat.mul_le_mul hb hn
  have hbi : (i.bytes : Int) * (n : Int) ≤ 281474976710656 := by
    rw [hby]
    have : ((bytes * n : Nat) : Int) ≤ 281474976710656 := by omega
    rwa [Int.natCast_mul] at this
  have hr := run_make (P := P) w t e i z ht hi hz .i64 .i64 (n : Int) (n : Int) (by omega) (by omega) hbi (by omega)
  simp only [Int.toNat_natCast, hzc, hs] at hr
  exact hr

def zeros : Nat → Int := fun _ => 0

theorem made_circ (n j : Nat) (hj : j < n * 3) : (madeCells #[.int .u8 0, .int .u8 0, .int .i64 0] (n * 3))[j]? = some (Circ zeros zeros zeros j) := by
  rw [made_get_n _ _ _ hj]
  congr 1
  unfold Circ zeros
  have h3 : j % 3 = 0 ∨ j % 3 = 1 ∨ j % 3 = 2 := by omega
  show (#[Value.int .u8 0, .int .u8 0, .int .i64 0])[j % 3]! = _
  rcases h3 with h | h | h <;> simp [h]

/-- What a maker of a group answers. -/
def RetNewGrp (w : World) (own far : Int) (n : Nat) (e : Ending) (w' : World) : Prop :=
  ∃ g c, e = .returned (.tuple #[.pointer (some ⟨g, 0, none⟩), .int .i64 0]) ∧ Grp w' g c own far n zeros zeros zeros ∧ (w.heap.size ≤ g ∧ w.heap.size ≤ c) ∧ Below w.heap.size w w'

theorem newgrp_any (own far : Int) (n : Nat) (w : World) (ho : own = 1 ∧ far = 2 ∨ own = 2 ∧ far = 1) (hn : 1 ≤ n ∧ n ≤ 256) :
    Calls Tryd.prog 5 #[.int .u16 own, .int .u16 far, .int .i64 (n : Int)] w (RetNewGrp w own far n) := by
  have hmk := make_n (P := Tryd.prog) 58 65 (.agg #[.int .u8 0, .int .u8 0, .int .i64 0]) #[.int .u8 0, .int .u8 0, .int .i64 0] 3 16 (by kernel_rfl) (by kernel_rfl) rfl n (by decide) (by omega)
  have hrow : Cs (w.alloc (.cells (madeCells #[.int .u8 0, .int .u8 0, .int .i64 0] (n * 3)) 65)) w.heap.size n zeros zeros zeros := Row.new _ (by simp [madeCells]) (fun j hj => made_circ n j hj)
  have hb0 := (Below.refl w.heap.size w).alloc (Nat.le_refl _) (.cells (madeCells #[.int .u8 0, .int .u8 0, .int .i64 0] (n * 3)) 65)
  have d1 : decide ((n : Int) < 1) = false := by simp; omega
  have d2 : decide ((256 : Int) < (n : Int)) = false := by simp; omega
  have d3 : (n == 0) = false := by rw [beq_eq_false_iff_ne]; omega
  have HR := Lib.hid hrow
  have HB := Lib.hid hb0
  clear hrow hb0
  rcases ho with ⟨rfl, rfl⟩ | ⟨rfl, rfl⟩
  all_goals
    go_enter Tryd.func5, Tryd.ntmps5
    go_wp2_with fail
    go_ret2
    refine ⟨w.heap.size + 1, w.heap.size, rfl, ⟨?_, HR.out.kept ((Below.refl _ _).alloc (Nat.le_refl _) _), by omega⟩, by omega, HB.out.alloc HB.out.size _⟩
    have := Lit0.new (w.alloc (.cells (madeCells #[.int .u8 0, .int .u8 0, .int .i64 0] (n * 3)) 65)) 60
    simp only [World.size_alloc] at this
    exact this _

/-- A desk in memory, with what it has told. -/
def Dk (w : World) (d g t n : Nat) (ag age last heard : Int) (op out : Value) (T : Nat → Bool) : Prop :=
  Lit0 w d 70 #[.pointer (some ⟨g, 0, none⟩), .int .i64 ag, .int .i64 age, .slice (some ⟨t, 0, none⟩) n n, .int .u32 last, .int .u32 heard, op, out] ∧ Row w t 4 n (fun k => .bool (T k)) ∧ d ≠ t

theorem Dk.kept {w w' : World} {d g t n : Nat} {ag age last heard : Int} {op out : Value} {T : Nat → Bool} (h : Dk w d g t n ag age last heard op out T) (hb : Below w.heap.size w w') : Dk w' d g t n ag age last heard op out T := ⟨h.1.kept hb, h.2.1.kept hb, h.2.2⟩
theorem Dk.grown {w w' : World} {d g t n r : Nat} {ag age last heard : Int} {op out : Value} {T : Nat → Bool} (h : Dk w d g t n ag age last heard op out T) (hb : w.grownBy w' (some r)) (hd : d ≠ r) (ht : t ≠ r) : Dk w' d g t n ag age last heard op out T :=
  ⟨h.1.grown hb (by simpa using hd), h.2.1.grown hb (by simpa using ht), h.2.2⟩
theorem Dk.drewN {w : World} {d g t n : Nat} {ag age last heard : Int} {op out : Value} {T : Nat → Bool} (h : Dk w d g t n ag age last heard op out T) (k : Nat) : Dk (w.drewN k) d g t n ag age last heard op out T := h
theorem Dk.l0 {w : World} {d g t n : Nat} {ag age last heard : Int} {op out : Value} {T : Nat → Bool} (h : Dk w d g t n ag age last heard op out T) : w.cell? ⟨d, 0, none⟩ = some (.pointer (some ⟨g, 0, none⟩)) := h.1.cell 0
theorem Dk.l3 {w : World} {d g t n : Nat} {ag age last heard : Int} {op out : Value} {T : Nat → Bool} (h : Dk w d g t n ag age last heard op out T) : w.cell? ⟨d, 3, none⟩ = some (.slice (some ⟨t, 0, none⟩) n n) := h.1.cell 3
theorem Dk.l4 {w : World} {d g t n : Nat} {ag age last heard : Int} {op out : Value} {T : Nat → Bool} (h : Dk w d g t n ag age last heard op out T) : w.cell? ⟨d, 4, none⟩ = some (.int .u32 last) := h.1.cell 4
theorem Dk.l5 {w : World} {d g t n : Nat} {ag age last heard : Int} {op out : Value} {T : Nat → Bool} (h : Dk w d g t n ag age last heard op out T) : w.cell? ⟨d, 5, none⟩ = some (.int .u32 heard) := h.1.cell 5
theorem Dk.l6 {w : World} {d g t n : Nat} {ag age last heard : Int} {op out : Value} {T : Nat → Bool} (h : Dk w d g t n ag age last heard op out T) : w.cell? ⟨d, 6, none⟩ = some op := h.1.cell 6
theorem Dk.l7 {w : World} {d g t n : Nat} {ag age last heard : Int} {op out : Value} {T : Nat → Bool} (h : Dk w d g t n ag age last heard op out T) : w.cell? ⟨d, 7, none⟩ = some out := h.1.cell 7
theorem Dk.told {w : World} {d g t n : Nat} {ag age last heard : Int} {op out : Value} {T : Nat → Bool} (h : Dk w d g t n ag age last heard op out T) {k : Nat} (hk : k < n) : w.cell? ⟨t, k, none⟩ = some (.bool (T k)) := h.2.1.cell hk

/-- What a maker of a desk answers. -/
def RetNewDk (w : World) (g n : Nat) (ag : Int) (e : Ending) (w' : World) : Prop :=
  ∃ d t, e = .returned (.tuple #[.pointer (some ⟨d, 0, none⟩), .int .i64 0]) ∧ Dk w' d g t n ag 0 0 0 (.pointer none) (.slice none 0 0) (fun _ => false) ∧ (w.heap.size ≤ d ∧ w.heap.size ≤ t) ∧ Below w.heap.size w w'

set_option maxHeartbeats 2000000 in
theorem newdesk_any (g c : Nat) (own far ag : Int) (n : Nat) (S B C : Nat → Int) (w : World) (h : Grp w g c own far n S B C) (hB : ∀ i, i < n → B i = 0) (hn : 1 ≤ n ∧ n ≤ 256) (hag : 1 ≤ ag ∧ ag ≤ 100) :
    Calls Tryd.prog 6 #[.pointer (some ⟨g, 0, none⟩), .int .i64 ag] w (RetNewDk w g n ag) := by
  have hmk := make_n (P := Tryd.prog) 33 4 (.bool false) #[.bool false] 1 1 (by kernel_rfl) (by kernel_rfl) rfl n (by decide) (by omega)
  have d1 : decide (ag < 1) = false := by simp; omega
  have d3 : (n == 0) = false := by rw [beq_eq_false_iff_ne]; omega
  have d4 : ((n : Int) == 0) = false := by rw [beq_eq_false_iff_ne]; omega
  have HMK := Lib.hid hmk
  have HBB := Lib.hid hB
  have H := Lib.hid h
  have HS := Lib.hid (fun w' (hw : Gh w' g c own far n) => size_any g c own far n w' hw)
  clear hmk hB h
  go_enter Tryd.func6, Tryd.ntmps6
  go_wp2_with fail
  refine (HS.out w H.out.1).mono ?_
  rintro e w1 ⟨rfl, rfl⟩
  go_wp2_with fail
  refine (HS.out w H.out.1).mono ?_
  rintro e w1 ⟨rfl, rfl⟩
  go_wp2_with fail
  go_loopw [16] (fun v16 wr => ∃ k : Nat, k ≤ n ∧ v16 = .int .i64 k ∧ Hid (Below w.heap.size w wr)) (fun v _ => n - (intOf v).toNat)
  case atStart => exact ⟨0, Nat.zero_le _, rfl, Lib.hid (Below.refl _ _)⟩
  case round =>
    obtain ⟨k, hk, rfl, HX⟩ := hrel
    by_cases hkn : k < n
    · have e1 : decide ((k : Int) < (n : Int)) = true := by simp; omega
      have e2 : decide (k < n) = true := by simpa using hkn
      have ha := at_any g c own far n k S B C wr (H.out.kept HX.out) hkn
      rw [HBB.out k hkn] at ha
      have HA := Lib.hid ha
      clear ha
      go_wp2_with fail
      refine HA.out.mono ?_
      rintro e w2 ⟨rfl, hb2⟩
      have HX2 := Lib.hid (HX.out.trans (hb2.mono HX.out.size))
      clear hb2
      go_wp2_with fail
      go_roundw
      case rel => exact ⟨k + 1, by omega, by simp, Lib.hid (HX2.out.alloc HX2.out.size _)⟩
      case measure => simp [intOf]; omega
    · obtain rfl : n = k := by omega
      have e1 : decide ((n : Int) < (n : Int)) = false := by simp
      have e2 : decide (n < n) = false := by simp
      have hmk := HMK.out
      go_wp2_with fail
      refine (HS.out wr (H.out.kept HX.out).1).mono ?_
      rintro e w1 ⟨rfl, rfl⟩
      have hrow : Row (wr.alloc (.cells (madeCells #[.bool false] (n * 1)) 4)) wr.heap.size 4 n (fun _ => .bool false) :=
        Row.new _ (by simp [madeCells]) (fun j hj => by
          rw [made_get_n _ _ _ (by omega)]
          simp [Nat.mod_one])
      have hb := HX.out.alloc HX.out.size (.cells (madeCells #[.bool false] (n * 1)) 4)
      simp only [Nat.mul_one] at hrow hb
      have HROW := Lib.hid hrow
      have HB := Lib.hid hb
      clear hrow hb
      have hx := HX.out.size
      go_wp2_with fail
      go_ret2
      refine ⟨wr.heap.size + 1, wr.heap.size, rfl, ⟨?_, HROW.out.kept ((Below.refl _ _).alloc (Nat.le_refl _) _), by omega⟩, by omega, HB.out.alloc HB.out.size _⟩
      have := Lit0.new (wr.alloc (.cells (madeCells #[.bool false] n) 4)) 70
      simp only [World.size_alloc] at this
      exact this _
end Go.Proofs.YtdjephmkpebnhaaDoor
