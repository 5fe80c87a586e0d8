/- The statement SharesLink, walked: it answers true whatever the links, states and selection code. -/
import Derived.Test.YtncklimjbejgoaaLawNext
namespace Go.Proofs.Ytncklimjbejgoaa
open Go.RowKit

theorem lawPlace_link (n m : Nat) (U : Nat → Bool) (sel : Nat) : lawPlaceOf n (fun k => k) (upOf m U) (4 * (sel % 4) + sel / 4 % 4) = linkOf n m U sel := by
  by_cases h : (pick (upOf m U) n).length = 0
  · have h1 : linkOf n m U sel = none := by unfold linkOf; rw [if_pos h]
    rw [h1]
    unfold lawPlaceOf
    split
    · rfl
    · rename_i hn
      have h2 : ¬ upOf m U ((4 * (sel % 4) + sel / 4 % 4) % n) = true := fun hu => by
        have := pick_pos (upOf m U) n _ (Nat.mod_lt _ (by omega)) hu
        omega
      rw [if_neg h2]
  · have hex := pick_zero (upOf m U) n h
    have hn : 0 < n := by obtain ⟨j, hj, _⟩ := hex; omega
    rw [lawPlace_eq n (fun k => k) (upOf m U) _ hn hex]
    unfold linkOf
    rw [if_neg h]

theorem range_enc (k : Nat) : enc (List.range (k + 1)) = enc (List.range k) ++ [.int .i64 (k : Int)] := by rw [List.range_succ, enc_snoc]

set_option maxHeartbeats 1000000 in
theorem sharesLink_any (A A2 : Option Addr) (n c m c2 : Nat) (f g h : Nat → Int) (U : Nat → Bool) (sel : Nat) (w : World) (hsel : sel < 256)
    (hs : Sees3 w w.heap.size A n (fun k => .int .u16 (f k)) (fun k => .int .u16 (g k)) (fun k => .int .u8 (h k)))
    (hs2 : Sees w w.heap.size A2 m (fun k => .bool (U k))) :
    Calls Try.prog 4 #[.slice A n c, .slice A2 m c2, .int .u8 sel] w (RetBool w true) := by
  obtain ⟨i0, hi, hz0, hz1, hz2⟩ := info_parts Try.info3
  have HS := Lib.hid hs
  have HS2 := Lib.hid hs2
  clear hs hs2
  by_cases hn : 40 < n
  · have hn1 : decide (40 < n) = true := by simpa using hn
    go_enter Try.func4, Try.ntmps4
    go_wp2_with fail
    refine (lives_any w).mono ?_
    rintro e w1 ⟨rfl, hb1⟩
    go_wp2_with fail
    go_ret
    exact ⟨rfl, hb1⟩
  have hn1 : decide (40 < n) = false := by simpa using hn
  by_cases hm : 60 < m
  · have hm1 : decide (60 < m) = true := by simpa using hm
    go_enter Try.func4, Try.ntmps4
    go_wp2_with fail
    refine (lives_any w).mono ?_
    rintro e w1 ⟨rfl, hb1⟩
    go_wp2_with fail
    go_ret
    exact ⟨rfl, hb1⟩
  have hm1 : decide (60 < m) = false := by simpa using hm
  have hmk : ∀ w : World, (Instr.makeSlice 30 (.int .i64 (n : Int)) (.int .i64 (n : Int))).run Try.prog w = .ok (.slice (some ⟨w.heap.size, 0, none⟩) n n) (w.alloc (.cells (madeCells #[.bool false] n) 4)) :=
    fun w => run_make_row' 30 4 (.bool false) 1 Try.underlying30 Try.infoB rfl .i64 .i64 n (by omega) (by omega) w
  go_enter Try.func4, Try.ntmps4
  go_wp2_with fail
  clear hmk
  have hrow0 : Row (w.alloc (.cells (madeCells #[.bool false] n) 4)) w.heap.size 4 n (fun i => .bool (decide (i < 0) && upOf m U i)) :=
    Row.new _ (size_madeCells _ _) (fun j hj => by rw [made_get _ _ _ hj]; simp)
  go_loopw [7, 9] (fun v i wr => ∃ k : Nat, k ≤ n ∧ i = .int .i64 k ∧ wr.ownsRow (w.heap.size + 1) 3 1 v k (enc (List.range k)) ∧ Row wr w.heap.size 4 n (fun i => .bool (decide (i < k) && upOf m U i)) ∧
      Below w.heap.size w wr ∧ w.heap.size + 1 ≤ wr.heap.size)
    (fun _ i _ => n - (intOf i).toNat)
  case atStart => exact ⟨0, Nat.zero_le _, rfl, World.ownsRow_nil _ _ _ _, hrow0, (Below.refl _ _).alloc (Nat.le_refl _) _, by simp⟩
  case round =>
    clear hrow0
    obtain ⟨k, hk, rfl, hown, hrow, hnx, hsz⟩ := hrel
    by_cases hlt : k < n
    · have hstep : ∀ (w2 : World) (v' : Value), w2.ownsRow (w.heap.size + 1) 3 1 v' (k + 1) (enc (List.range k) ++ [.int .i64 (k : Int)]) → Below (w.heap.size + 1) wr w2 → ∀ u : Bool, u = upOf m U k →
          (w2.setCell ⟨w.heap.size, k, none⟩ (.bool u)).ownsRow (w.heap.size + 1) 3 1 v' (k + 1) (enc (List.range (k + 1))) ∧ Row (w2.setCell ⟨w.heap.size, k, none⟩ (.bool u)) w.heap.size 4 n (fun i => .bool (decide (i < k + 1) && upOf m U i)) ∧
          Below w.heap.size w (w2.setCell ⟨w.heap.size, k, none⟩ (.bool u)) ∧ w.heap.size + 1 ≤ (w2.setCell ⟨w.heap.size, k, none⟩ (.bool u)).heap.size := by
        intro w2 v' h1 h2 u hu
        refine ⟨ownsRow_setCell_below (by rw [range_enc]; exact h1) (by simp) _, ((hrow.below h2 (by omega)).set hlt (.bool u)).congr fun j hj => ?_, (hnx.trans (h2.mono (by omega))).setCell (Nat.le_refl _) _, by
          have := h2.size; simp [World.setCell]; omega⟩
        by_cases e : j = k
        · subst e; simp [hu]
        · rw [if_neg e]; congr 2; simp only [decide_eq_decide]; omega
      have HSTEP := Lib.hid hstep
      have HROW := Lib.hid hrow
      clear hstep hrow
      by_cases hkm : k < m
      · have hd : decide (k < m) = true := by simpa using hkm
        obtain ⟨b, off, rfl, hb, hc0⟩ := HS2.out k hkm
        have hc1 := (hnx.cell (p := ⟨b, off + k, none⟩) hb).trans hc0
        clear hc0
        go_wp2_with (first
          | (at_builtin; refine wpList_push _ rfl _ _ 31 rfl (w.heap.size + 1) 3 i0 (.int .i64 0) 8 Try.underlying31 hi hz0 hz1 hz2 rfl _ _ _ rfl hown (.int .i64 (k : Int)) rfl rfl (by omega) (by omega) hsz ?_; intro v' w2 hown2 hbel2; have hc2 := (hbel2.cell (p := ⟨b, off + k, none⟩) (by simp; omega)).trans hc1; have hrow2 := HROW.out.below hbel2 (by omega); have hcell2 := hrow2.cell hlt; have hfree2 := hrow2.free k; clear hrow2))
        clear hown hcell2 hfree2
        go_roundw
        case measure => simp [intOf]; omega
        case rel => exact ⟨k + 1, by omega, by go_num, HSTEP.out _ _ hown2 hbel2 (U k) (by simp [upOf, hkm])⟩
      · have hd : decide (k < m) = false := by simpa using hkm
        go_wp2_with (first
          | (at_builtin; refine wpList_push _ rfl _ _ 31 rfl (w.heap.size + 1) 3 i0 (.int .i64 0) 8 Try.underlying31 hi hz0 hz1 hz2 rfl _ _ _ rfl hown (.int .i64 (k : Int)) rfl rfl (by omega) (by omega) hsz ?_; intro v' w2 hown2 hbel2; have hrow2 := HROW.out.below hbel2 (by omega); have hcell2 := hrow2.cell hlt; have hfree2 := hrow2.free k; clear hrow2))
        clear hown hcell2 hfree2
        go_roundw
        case measure => simp [intOf]; omega
        case rel => exact ⟨k + 1, by omega, by go_num, HSTEP.out _ _ hown2 hbel2 false (by simp [upOf]; omega)⟩
    · obtain rfl : k = n := by omega
      obtain ⟨A', c', rfl, hle, hm', hsee⟩ := sees_of_own hown
      have hsee' := hsee.congr (f := fun j => (enc (List.range k)).getD j (.bool false)) (g := fun j => .int .i64 ((fun k => k) j : Nat)) (fun j hj => by
        rw [enc_getD _ _ (by simpa using hj)]
        simp [List.getD_eq_getElem?_getD, hj])
      have hrowE := hrow.congr (f' := fun i => .bool (upOf m U i)) (fun i hi => by simp [hi])
      have HSEE := Lib.hid hsee'
      have HROW := Lib.hid hrowE
      clear hsee hsee' hrow hrowE hown
      go_wp2_with fail
      refine (law_place A' (some ⟨w.heap.size, 0, none⟩) k c' k k (fun k => k) (upOf m U) (4 * (sel % 4) + sel / 4 % 4) _ (by omega) wr (by omega) (by omega) (fun i hi => hi) HSEE.out HROW.out.sees).mono ?_
      rw [lawPlace_link]
      rintro e w1 ⟨rfl, hb1⟩
      have HB1 := Lib.hid (hnx.trans (hb1.mono hnx.size))
      clear hb1
      go_wp2_with fail
      refine (link_any A A2 k c m c2 f g h U sel w1 (by omega) hsel ((HS.out.below HB1.out).more HB1.out.size) ((HS2.out.below HB1.out).more HB1.out.size)).mono ?_
      rintro e w2 ⟨rfl, hb2⟩
      have HB2 := Lib.hid (HB1.out.trans (hb2.mono HB1.out.size))
      clear hb2
      cases linkOf k m U sel
      all_goals
        simp only [code, Option.getD, Option.isSome]
        go_wp2_with fail
        refine (lives_any w2).mono ?_
        rintro e w3 ⟨rfl, hb3⟩
        have HB3 := Lib.hid (HB2.out.trans (hb3.mono HB2.out.size))
        clear hb3
        go_wp2_with fail
        go_ret
        exact ⟨rfl, HB3.out⟩
end Go.Proofs.Ytncklimjbejgoaa
