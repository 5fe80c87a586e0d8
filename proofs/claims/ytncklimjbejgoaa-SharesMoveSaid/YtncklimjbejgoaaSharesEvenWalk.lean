/- The statement SharesEven, walked. -/
import Derived.Test.YtncklimjbejgoaaEven
namespace Go.Proofs.Ytncklimjbejgoaa
open Go.RowKit

theorem Try.infoL : (Try.prog.info? 43).map (fun i => (i.zero, i.size, i.bytes)) = some (some (.agg #[.int .u16 0, .int .u16 0, .int .u8 0]), 3, 6) := by kernel_rfl
theorem Try.infoC : (Try.prog.info? 48).map (fun i => (i.zero, i.size, i.bytes)) = some (some (.agg #[.int .u16 0, .int .i64 0]), 2, 16) := by kernel_rfl
theorem Try.infoS : (Try.prog.info? 49).map (fun i => (i.zero, i.size, i.bytes)) = some (some (.int .u8 0), 1, 1) := by kernel_rfl

def linkCell (j : Nat) : Value := if j % 3 = 2 then .int .u8 0 else .int .u16 0
def choiceCell (j : Nat) : Value := if j % 2 = 1 then .int .i64 0 else .int .u16 0

theorem made_links (n : Nat) : ∀ j, j < n * 3 → (madeCells #[.int .u16 0, .int .u16 0, .int .u8 0] (n * 3))[j]? = some (linkCell j) := by
  intro j hj
  rw [made_get_n _ _ _ hj]
  unfold linkCell
  have h : j % 3 = 0 ∨ j % 3 = 1 ∨ j % 3 = 2 := by omega
  rcases h with h | h | h <;> simp [h]
theorem made_choices (n : Nat) : ∀ j, j < n * 2 → (madeCells #[.int .u16 0, .int .i64 0] (n * 2))[j]? = some (choiceCell j) := by
  intro j hj
  rw [made_get_n _ _ _ hj]
  unfold choiceCell
  have h : j % 2 = 0 ∨ j % 2 = 1 := by omega
  rcases h with h | h <;> simp [h]

theorem links_see {w : World} {g n : Nat} (h : Row w g 43 (n * 3) linkCell) : Sees3 w w.heap.size (some ⟨g, 0, none⟩) n (fun _ => .int .u16 0) (fun _ => .int .u16 0) (fun _ => .int .u8 0) :=
  h.sees3 (fun k _ => by unfold linkCell; rw [if_neg (by omega)]) (fun k _ => by unfold linkCell; rw [if_neg (by omega)]) (fun k _ => by unfold linkCell; rw [if_pos (by omega)])
theorem choices_see {w : World} {g n : Nat} (h : Row w g 48 (n * 2) choiceCell) : Sees2 w w.heap.size (some ⟨g, 0, none⟩) n (fun _ => .int .u16 0) (fun _ => .int .i64 0) :=
  h.sees2 (fun k _ => by unfold choiceCell; rw [if_neg (by omega)]) (fun k _ => by unfold choiceCell; rw [if_pos (by omega)])

set_option maxRecDepth 100000 in
set_option maxHeartbeats 2000000 in
theorem sharesEven_any (n0 : Nat) (w : World) (h0 : n0 < 256) : Calls Try.prog 7 #[.int .u8 n0] w (RetBool w true) := by
  obtain ⟨n, hn⟩ : ∃ n : Nat, n = n0 % 16 + 1 := ⟨_, rfl⟩
  have hni : 1 + (n0 : Int) % 16 = (n : Int) := by omega
  have hn16 : n ≤ 16 := by omega
  have hn1 : 1 ≤ n := by omega
  have mkL : ∀ w : World, (Instr.makeSlice 29 (.int .i64 (n : Int)) (.int .i64 (n : Int))).run Try.prog w = .ok (.slice (some ⟨w.heap.size, 0, none⟩) n n) (w.alloc (.cells (madeCells #[.int .u16 0, .int .u16 0, .int .u8 0] (n * 3)) 43)) :=
    fun w => make_n 29 43 _ _ 3 6 Try.underlying29 Try.infoL rfl n (by omega) (by omega) w
  have mkC : ∀ w : World, (Instr.makeSlice 22 (.int .i64 (n : Int)) (.int .i64 (n : Int))).run Try.prog w = .ok (.slice (some ⟨w.heap.size, 0, none⟩) n n) (w.alloc (.cells (madeCells #[.int .u16 0, .int .i64 0] (n * 2)) 48)) :=
    fun w => make_n 22 48 _ _ 2 16 Try.underlying22 Try.infoC rfl n (by omega) (by omega) w
  have mkB : ∀ w : World, (Instr.makeSlice 30 (.int .i64 (n : Int)) (.int .i64 (n : Int))).run Try.prog w = .ok (.slice (some ⟨w.heap.size, 0, none⟩) n n) (w.alloc (.cells (madeCells #[.bool false] n) 4)) :=
    fun w => run_make_row' 30 4 (.bool false) 1 Try.underlying30 Try.infoB rfl .i64 .i64 n (by omega) (by omega) w
  have mkS : ∀ w : World, (Instr.makeSlice 23 (.int .i64 (n : Int)) (.int .i64 (n : Int))).run Try.prog w = .ok (.slice (some ⟨w.heap.size, 0, none⟩) n n) (w.alloc (.cells (madeCells #[.int .u8 0] n) 49)) :=
    fun w => run_make_row' 23 49 (.int .u8 0) 1 Try.underlying23 Try.infoS rfl .i64 .i64 n (by omega) (by omega) w
  have mkI : ∀ w : World, (Instr.makeSlice 31 (.int .i64 (n : Int)) (.int .i64 (n : Int))).run Try.prog w = .ok (.slice (some ⟨w.heap.size, 0, none⟩) n n) (w.alloc (.cells (madeCells #[.int .i64 0] n) 3)) :=
    fun w => run_make_row' 31 3 (.int .i64 0) 8 Try.underlying31 Try.info3 rfl .i64 .i64 n (by omega) (by omega) w
  have MKS := Lib.hid mkS
  have MKI := Lib.hid mkI
  have HN := Lib.hid hn
  clear mkS mkI hn
  go_enter Try.func7, Try.ntmps7
  go_wp2_with fail
  clear mkL mkC mkB hni
  have hl0 : Row (w.alloc (.cells (madeCells #[.int .u16 0, .int .u16 0, .int .u8 0] (n * 3)) 43)) w.heap.size 43 (n * 3) linkCell := Row.new _ (size_madeCells _ _) (made_links n)
  have hc0 := Row.new (w := w.alloc (.cells (madeCells #[.int .u16 0, .int .u16 0, .int .u8 0] (n * 3)) 43)) (t := 48) (f := choiceCell) (madeCells #[.int .u16 0, .int .i64 0] (n * 2)) (size_madeCells _ _) (made_choices n)
  have hu0 := Row.new (w := ((w.alloc (.cells (madeCells #[.int .u16 0, .int .u16 0, .int .u8 0] (n * 3)) 43)).alloc (.cells (madeCells #[.int .u16 0, .int .i64 0] (n * 2)) 48))) (t := 4) (f := fun i => .bool (decide (i < 0))) (madeCells #[.bool false] n) (size_madeCells _ _) (fun j hj => by rw [made_get _ _ _ hj]; simp)
  have hl1 := (hl0.alloc (.cells (madeCells #[.int .u16 0, .int .i64 0] (n * 2)) 48)).alloc (.cells (madeCells #[.bool false] n) 4)
  have hc1 := hc0.alloc (.cells (madeCells #[.bool false] n) 4)
  have hbb := (((Below.refl _ w).alloc (Nat.le_refl _) (.cells (madeCells #[.int .u16 0, .int .u16 0, .int .u8 0] (n * 3)) 43)).alloc (by simp) (.cells (madeCells #[.int .u16 0, .int .i64 0] (n * 2)) 48)).alloc (by simp; omega) (.cells (madeCells #[.bool false] n) 4)
  simp only [World.size_alloc] at hc0 hu0 hc1
  clear hl0 hc0
  generalize ((w.alloc (.cells (madeCells #[.int .u16 0, .int .u16 0, .int .u8 0] (n * 3)) 43)).alloc (.cells (madeCells #[.int .u16 0, .int .i64 0] (n * 2)) 48)).alloc (.cells (madeCells #[.bool false] n) 4) = wa at hl1 hc1 hu0 hbb ⊢
  have HL1 := Lib.hid hl1
  have HC1 := Lib.hid hc1
  have HU0 := Lib.hid hu0
  have HBB := Lib.hid hbb
  clear hl1 hc1 hu0 hbb
  go_loopw [7] (fun i wr => ∃ k : Nat, k ≤ n ∧ i = .int .i64 k ∧ Row wr w.heap.size 43 (n * 3) linkCell ∧ Row wr (w.heap.size + 1) 48 (n * 2) choiceCell ∧ Row wr (w.heap.size + 1 + 1) 4 n (fun i => .bool (decide (i < k))) ∧ Below w.heap.size w wr)
    (fun i _ => n - (intOf i).toNat)
  case atStart => exact ⟨0, Nat.zero_le _, rfl, HL1.out, HC1.out, HU0.out, HBB.out⟩
  case round =>
    clear HL1 HC1 HU0 HBB
    obtain ⟨k, hk, rfl, hl, hc, hu, hnx⟩ := hrel
    have HL := Lib.hid hl
    have HC := Lib.hid hc
    have HU := Lib.hid hu
    have HNX := Lib.hid hnx
    clear hl hc hnx
    by_cases hlt : k < n
    · have hcell := hu.cell hlt
      have hfree := hu.free k
      clear hu
      go_wp2_with fail
      go_roundw
      case measure => simp [intOf]; omega
      case rel =>
        refine ⟨k + 1, by omega, by go_num, HL.out.far (by simp; omega) _, HC.out.far (by simp) _, (HU.out.set hlt (.bool true)).congr fun j hj => ?_, HNX.out.setCell (by simp; omega) _⟩
        by_cases e : j = k
        · subst e; simp
        · rw [if_neg e]; congr 1; simp only [decide_eq_decide]; omega
    · obtain rfl : k = n := by omega
      have huE := hu.congr (f' := fun _ => .bool true) (fun i hi => by simp [hi])
      have HUE := Lib.hid huE
      clear hu huE HU
      go_wp2_with fail
      refine (lines_any (some ⟨w.heap.size, 0, none⟩) (some ⟨w.heap.size + 1 + 1, 0, none⟩) k k k k (fun _ => 0) (fun _ => 0) (fun _ => 0) (fun _ => true) wr (by omega) (links_see HL.out) HUE.out.sees).mono ?_
      rintro e w2 ⟨g1, rfl, hg1, hr1, hb1⟩
      have HC2 := Lib.hid (HC.out.kept hb1)
      have HR1 := Lib.hid hr1
      have HNX2 := Lib.hid (HNX.out.trans (hb1.mono HNX.out.size))
      have mkS := MKS.out
      clear hb1 hr1 hg1 HL HC HUE HNX
      go_wp2_with fail
      clear mkS
      have hs0 := Row.new (w := w2) (t := 49) (f := fun _ => .int .u8 0) (madeCells #[.int .u8 0] k) (size_madeCells _ _) (fun j hj => by rw [made_get _ _ _ hj])
      have hbs := (Below.refl _ w2).alloc (Nat.le_refl _) (.cells (madeCells #[.int .u8 0] k) 49)
      refine (places_any (some ⟨w.heap.size + 1, 0, none⟩) (some ⟨w2.heap.size, 0, none⟩) k k k k (fun _ => 0) (fun _ => 0) (fun _ => 0) _ (by omega) (choices_see (HC2.out.kept hbs)) hs0.sees).mono ?_
      rintro e w3 ⟨g2, rfl, hg2, hr2, hb2⟩
      have hb23 := hbs.trans (hb2.mono (by simp))
      have HR13 := Lib.hid ((HR1.out.kept hb23).congr (f' := fun s => .int .i64 (rot s % k : Nat)) (fun s hs => by
        rw [link_home k k _ s (by omega) (by simp [upOf]; exact Nat.mod_lt _ (by omega))]; rfl))
      have HR2 := Lib.hid (hr2.congr (f' := fun s => .int .i64 (s % 16 % k : Nat)) (fun s hs => by rw [next_even k s (by omega)]; rfl))
      have HNX3 := Lib.hid (HNX2.out.trans (hb23.mono HNX2.out.size))
      have mkI := MKI.out
      clear hb2 hb23 hr2 hg2 hs0 hbs HC2 HR1 HNX2
      go_wp2_with fail
      clear mkI
      have hx0 := Row.new (w := w3) (t := 3) (f := fun j => .int .i64 (cnt (fun s => rot s % k) 0 j)) (madeCells #[.int .i64 0] k) (size_madeCells _ _) (fun j hj => by rw [made_get _ _ _ hj]; rfl)
      have hy0 := Row.new (w := w3.alloc (.cells (madeCells #[.int .i64 0] k) 3)) (t := 3) (f := fun j => .int .i64 (cnt (fun s => s % 16 % k) 0 j)) (madeCells #[.int .i64 0] k) (size_madeCells _ _) (fun j hj => by rw [made_get _ _ _ hj]; rfl)
      have hx1 := hx0.alloc (.cells (madeCells #[.int .i64 0] k) 3)
      have hb4 := ((Below.refl _ w3).alloc (Nat.le_refl _) (.cells (madeCells #[.int .i64 0] k) 3)).alloc (by simp) (.cells (madeCells #[.int .i64 0] k) 3)
      simp only [World.size_alloc] at hy0
      clear hx0
      generalize ((w3.alloc (.cells (madeCells #[.int .i64 0] k) 3)).alloc (.cells (madeCells #[.int .i64 0] k) 3)) = wb at hx1 hy0 hb4 ⊢
      have HX1 := Lib.hid hx1
      have HY0 := Lib.hid hy0
      have HB4 := Lib.hid hb4
      clear hx1 hy0 hb4
      go_loopw [2, 12] (fun _ i wr => ∃ s : Nat, s ≤ 16 ∧ i = .int .i64 s ∧ Row wr w3.heap.size 3 k (fun j => .int .i64 (cnt (fun s => rot s % k) s j)) ∧ Row wr (w3.heap.size + 1) 3 k (fun j => .int .i64 (cnt (fun s => s % 16 % k) s j)) ∧ Below w3.heap.size w3 wr)
        (fun _ i _ => 16 - (intOf i).toNat)
      case atStart => exact ⟨0, Nat.zero_le _, rfl, HX1.out, HY0.out, HB4.out⟩
      case round =>
        clear HX1 HY0 HB4
        obtain ⟨s, hs, rfl, hx, hy, hnx⟩ := hrel
        have HX := Lib.hid hx
        have HY := Lib.hid hy
        have HN4 := Lib.hid hnx
        have ha : s < 16 → wr.cell? ⟨g1, s, none⟩ = some (.int .i64 (rot s % k : Nat)) := fun h => (HR13.out.kept hnx).cell h
        have hb : s < 16 → wr.cell? ⟨g2, s, none⟩ = some (.int .i64 (s % 16 % k : Nat)) := fun h => (HR2.out.kept hnx).cell h
        have HA := Lib.hid ha
        have HB := Lib.hid hb
        clear ha hb hx hy hnx
        by_cases hlt : s < 16
        · obtain ⟨p, hp⟩ : ∃ p, p = rot s % k := ⟨_, rfl⟩
          obtain ⟨q, hq⟩ : ∃ q, q = s % 16 % k := ⟨_, rfl⟩
          have hpk : p < k := by rw [hp]; exact Nat.mod_lt _ (by omega)
          have hqk : q < k := by rw [hq]; exact Nat.mod_lt _ (by omega)
          have ca := HA.out hlt
          have cb := HB.out hlt
          rw [← hp] at ca
          rw [← hq] at cb
          have cx := HX.out.cell hpk
          have fx := HX.out.free p
          obtain ⟨X, hX⟩ : ∃ X, X = cnt (fun s => rot s % k) s p := ⟨_, rfl⟩
          obtain ⟨Y, hY⟩ : ∃ Y, Y = cnt (fun s => s % 16 % k) s q := ⟨_, rfl⟩
          have bX : 0 ≤ X ∧ X ≤ 16 := by rw [hX]; have := cnt_le (fun s => rot s % k) s p; omega
          have bY : 0 ≤ Y ∧ Y ≤ 16 := by rw [hY]; have := cnt_le (fun s => s % 16 % k) s q; omega
          have hg2 : g2 ≠ w3.heap.size := by have := HR2.out.lt; omega
          have hrow1 := HX.out.set hpk (.int .i64 (X + 1))
          have hrow2 := HY.out.far (p := ⟨w3.heap.size, p, none⟩) (by simp) (.int .i64 (X + 1))
          have cy := hrow2.cell hqk
          have fy := hrow2.free q
          have cb2 : (wr.setCell ⟨w3.heap.size, p, none⟩ (.int .i64 (X + 1))).cell? ⟨g2, s, none⟩ = some (.int .i64 (q : Nat)) := by
            rw [World.cell?_setCell_other _ _ _ _ (by intro h; injection h with h; exact hg2 h.symm)]; exact cb
          have hfin1 : Row ((wr.setCell ⟨w3.heap.size, p, none⟩ (.int .i64 (X + 1))).setCell ⟨w3.heap.size + 1, q, none⟩ (.int .i64 (Y + 1))) w3.heap.size 3 k (fun j => .int .i64 (cnt (fun s => rot s % k) (s + 1) j)) := by
            refine (hrow1.far (p := ⟨w3.heap.size + 1, q, none⟩) (by simp) _).congr fun j hj => ?_
            by_cases e : j = p
            · rw [if_pos e, cnt_yes (fun s => rot s % k) s j (e.trans hp), hX, e]
            · rw [if_neg e, cnt_no (fun s => rot s % k) s j (by rw [← hp]; exact e)]
          have hfin2 : Row ((wr.setCell ⟨w3.heap.size, p, none⟩ (.int .i64 (X + 1))).setCell ⟨w3.heap.size + 1, q, none⟩ (.int .i64 (Y + 1))) (w3.heap.size + 1) 3 k (fun j => .int .i64 (cnt (fun s => s % 16 % k) (s + 1) j)) := by
            refine (hrow2.set hqk (.int .i64 (Y + 1))).congr fun j hj => ?_
            by_cases e : j = q
            · rw [if_pos e, cnt_yes (fun s => s % 16 % k) s j (e.trans hq), hY, e]
            · rw [if_neg e, cnt_no (fun s => s % 16 % k) s j (by rw [← hq]; exact e)]
          have hfin3 := (HN4.out.setCell (p := ⟨w3.heap.size, p, none⟩) (Nat.le_refl _) (.int .i64 (X + 1))).setCell (p := ⟨w3.heap.size + 1, q, none⟩) (by simp) (.int .i64 (Y + 1))
          have F1 := Lib.hid hfin1
          have F2 := Lib.hid hfin2
          have F3 := Lib.hid hfin3
          rw [← hX] at cx
          rw [← hY] at cy
          clear hfin1 hfin2 hfin3 hrow1 hrow2 hX hY hp hq HX HY HA HB HN4
          go_wp2_with fail
          go_roundw
          case measure => simp [intOf]; omega
          case rel => exact ⟨s + 1, by omega, by go_num, F1.out, F2.out, F3.out⟩
        · obtain rfl : s = 16 := by omega
          go_wp2_with fail
          obtain ⟨wc, rfl⟩ : ∃ wc : World, wc = wr := ⟨_, rfl⟩
          go_loopw [2, 13] (fun _ i wr => ∃ j : Nat, j ≤ k ∧ i = .int .i64 j ∧ Below wc.heap.size wc wr) (fun _ i _ => k - (intOf i).toNat)
          case atStart => exact ⟨0, Nat.zero_le _, rfl, Below.refl _ _⟩
          case round =>
            obtain ⟨j, hj, rfl, hnx⟩ := hrel
            have HN5 := Lib.hid hnx
            by_cases hjk : j < k
            · have cx := (HX.out.kept hnx).cell hjk
              have cy := (HY.out.kept hnx).cell hjk
              have e1 := even_links ⟨k - 1, by omega⟩ ⟨j, by omega⟩ (by simp; omega)
              have e2 := even_places ⟨k - 1, by omega⟩ ⟨j, by omega⟩ (by simp; omega)
              simp only [show k - 1 + 1 = k from by omega] at e1 e2
              obtain ⟨X, hX⟩ : ∃ X, X = cnt (fun s => rot s % k) 16 j := ⟨_, rfl⟩
              obtain ⟨Y, hY⟩ : ∃ Y, Y = cnt (fun s => s % 16 % k) 16 j := ⟨_, rfl⟩
              rw [← hX] at cx e1
              rw [← hY] at cy e2
              obtain ⟨x1, x2⟩ := e1
              obtain ⟨y1, y2⟩ := e2
              have q0 : 0 ≤ 16 / (k : Int) := Int.ediv_nonneg (by omega) (by omega)
              have q1 : 16 / (k : Int) ≤ 16 := Int.ediv_le_self _ (by omega)
              have q2 : 0 ≤ (15 + (k : Int)) / (k : Int) := Int.ediv_nonneg (by omega) (by omega)
              have q3 : (15 + (k : Int)) / (k : Int) ≤ 31 := Int.le_trans (Int.ediv_le_self _ (by omega)) (by omega)
              have b1 : decide (X < 16 / (k : Int)) = false := by simp; omega
              have b2 : decide ((15 + (k : Int)) / (k : Int) < X) = false := by simp; omega
              have b3 : decide (Y < 16 / (k : Int)) = false := by simp; omega
              have b4 : decide ((15 + (k : Int)) / (k : Int) < Y) = false := by simp; omega
              clear hX hY hnx
              go_wp2_with fail
              go_quiet (fail)
              go_wp2_with fail
              go_roundw
              case measure => simp [intOf]; omega
              case rel => exact ⟨j + 1, by omega, by go_num, Below.drewN' HN5.out _⟩
            · obtain rfl : j = k := by omega
              clear hnx
              go_wp2_with fail
              refine (lives_any wr).mono ?_
              rintro e w5 ⟨rfl, hb5⟩
              have h34 := HNX3.out.trans (HN4.out.mono HNX3.out.size)
              have h35 := h34.trans (HN5.out.mono h34.size)
              have HE := Lib.hid (h35.trans (hb5.mono h35.size))
              clear h34 h35 hb5
              go_wp2_with fail
              go_ret
              exact ⟨rfl, HE.out⟩
end Go.Proofs.Ytncklimjbejgoaa
