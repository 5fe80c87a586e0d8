/- TopBlocked: the walk. -/
import Derived.Test.YtdjephmkpebnhaaDoorTopLaw
import Derived.Test.YtdjephmkpebnhaaDoorExch4
import Derived.Test.YtdjephmkpebnhaaDoorRings4
import Derived.Deep.CutBlock
namespace Go.Proofs.YtdjephmkpebnhaaDoor
open Go.RowKit

set_option maxRecDepth 100000 in
set_option maxHeartbeats 4000000 in
theorem top_any (A : Option Addr) (many m c : Nat) (X : Nat → Nat) (w : World) (hm : many ≤ 255) (hX : ∀ k, k < m → X k ≤ 255) (hs : Sees w w.heap.size A m (fun k => .int .u8 (X k : Nat))) :
    Calls Tryd.prog 3 #[.int .u8 (many : Int), .slice A m c] w (RetBool w true) := by
  have HS := Lib.hid hs
  have HXB := Lib.hid hX
  clear hs hX
  by_cases hm40 : 40 < m
  · have e1 : decide ((40 : Int) < (m : Int)) = true := by simp; omega
    have HR := Lib.hid (rings_any w)
    go_enter Tryd.func3, Tryd.ntmps3
    go_wp2_with fail
    refine HR.out.mono ?_
    rintro e w1 ⟨rfl, hb⟩
    go_wp2_with fail
    go_ret
    exact ⟨rfl, hb⟩
  have e1 : decide ((40 : Int) < (m : Int)) = false := by simp; omega
  obtain ⟨q, hq⟩ : ∃ q : Nat, q = many % 40 := ⟨_, rfl⟩
  obtain ⟨n, hn⟩ : ∃ n : Nat, n = 1 + q := ⟨_, rfl⟩
  have hn2 : 1 ≤ n ∧ n ≤ 40 := by omega
  have v1 : (many : Int) % 40 = (q : Int) := by omega
  have v2 : (1 : Int) + (q : Int) = (n : Int) := by omega
  have vq : q < 40 := by omega
  clear hn hq
  go_enter Tryd.func3, Tryd.ntmps3
  go_wp2_with fail
  refine (newgrp_any 1 2 n w (.inl ⟨rfl, rfl⟩) (by omega)).mono ?_
  rintro e w1 ⟨g, cg, rfl, hG, ⟨hg1, hg2⟩, hb1⟩
  have HG1 := Lib.hid hG
  have HB1 := Lib.hid hb1
  have HR1 := Lib.hid (And.intro hb1.size (And.intro hg1 hg2))
  clear hG hb1 hg1 hg2
  go_wp2_with fail
  refine (newgrp_any 2 1 n w1 (.inr ⟨rfl, rfl⟩) (by omega)).mono ?_
  rintro e w2 ⟨h, ch, rfl, hH, ⟨hh1, hh2⟩, hb2⟩
  have HG2 := Lib.hid (HG1.out.kept hb2)
  have HH2 := Lib.hid hH
  have HB2 := Lib.hid (HB1.out.trans (hb2.mono HB1.out.size))
  have HR2 := Lib.hid (And.intro hb2.size (And.intro hh1 hh2))
  clear hH hb2 hh1 hh2 HB1
  go_wp2_with fail
  refine (newdesk_any g cg 1 2 5 n zeros zeros zeros w2 HG2.out (fun _ _ => rfl) (by omega) (by omega)).mono ?_
  rintro e w3 ⟨da, ta, rfl, hD, ⟨hd1, hd2⟩, hb3⟩
  have HG3 := Lib.hid (HG2.out.kept hb3)
  have HH3 := Lib.hid (HH2.out.kept hb3)
  have HD3 := Lib.hid hD
  have HB3 := Lib.hid (HB2.out.trans (hb3.mono HB2.out.size))
  have HR3 := Lib.hid (And.intro hb3.size (And.intro hd1 hd2))
  clear hD hb3 hd1 hd2 HB2
  go_wp2_with fail
  refine (newdesk_any h ch 2 1 5 n zeros zeros zeros w3 HH3.out (fun _ _ => rfl) (by omega) (by omega)).mono ?_
  rintro e w4 ⟨db, tb, rfl, hE, ⟨he1, he2⟩, hb4⟩
  have HG4 := Lib.hid (HG3.out.kept hb4)
  have HH4 := Lib.hid (HH3.out.kept hb4)
  have HD4 := Lib.hid (HD3.out.kept hb4)
  have HE4 := Lib.hid hE
  have HB4 := Lib.hid (HB3.out.trans (hb4.mono HB3.out.size))
  obtain ⟨p, hp⟩ : ∃ p : Pts, p = ⟨da, g, ta, cg, db, h, tb, ch⟩ := ⟨_, rfl⟩
  have hok : p.ok w4.heap.size ∧ ∀ x ∈ p.all, w.heap.size ≤ x := by
    have q1 := HG2.out.1.lt
    have q2 := HG2.out.2.1.lt
    have q3 := HG2.out.2.2
    have q4 := HH2.out.1.lt
    have q5 := HH2.out.2.1.lt
    have q6 := HH2.out.2.2
    have q7 := HD3.out.1.lt
    have q8 := HD3.out.2.1.lt
    have q9 := HD3.out.2.2
    have q10 := HE4.out.1.lt
    have q11 := HE4.out.2.1.lt
    have q12 := HE4.out.2.2
    have r1 := HR1.out
    have r2 := HR2.out
    have r3 := HR3.out
    have s1 := HG1.out.1.lt
    have s2 := HG1.out.2.1.lt
    have t2 := hb4.size
    subst hp
    unfold Pts.ok Pts.all
    simp only [List.nodup_cons, List.mem_cons, List.not_mem_nil, or_false, not_or, forall_eq_or_imp, forall_eq]
    refine ⟨⟨⟨⟨?_, ?_, ?_, ?_, ?_, ?_, ?_⟩, ⟨?_, ?_, ?_, ?_, ?_, ?_⟩, ⟨?_, ?_, ?_, ?_, ?_⟩, ⟨?_, ?_, ?_, ?_⟩, ⟨?_, ?_, ?_⟩, ⟨?_, ?_⟩, ?_, ?_⟩, ?_⟩, ?_⟩
    all_goals (first | omega | (intro hx; omega) | exact List.nodup_nil | (constructor <;> omega) | simp)
  have HP := Lib.hid hok
  have HEN : Hid (Ends w4 p w4.heap.size n 0 0 0 (.pointer none) (.slice none 0 0) (.slice none 0 0) (fun _ => false) (fun _ => false) (fun _ => false) zeros zeros zeros zeros) := by
    subst hp
    exact Lib.hid ⟨HD4.out, HG4.out, HE4.out, HH4.out, Nat.le_refl _⟩
  clear hE hb4 he1 he2 HB3 hok HR1 HR2 HR3 HG1 HG2 HH2 HG3 HH3 HD3 HG4 HH4 HD4 HE4
  have hmk := make_n (P := Tryd.prog) 33 4 (.bool false) #[.bool false] 1 1 (by kernel_rfl) (by kernel_rfl) rfl n (by decide) (by omega)
  have hrow : Row (w4.alloc (.cells (madeCells #[.bool false] (n * 1)) 4)) w4.heap.size 4 n (fun _ => .bool false) :=
    Row.new _ (by simp [madeCells]) (fun j hj => by
      rw [made_get_n _ _ _ (by omega)]
      simp [Nat.mod_one])
  have hb5 := (Below.refl w4.heap.size w4).alloc (Nat.le_refl _) (.cells (madeCells #[.bool false] (n * 1)) 4)
  simp only [Nat.mul_one] at hrow hb5
  have HROW := Lib.hid hrow
  have HB5 := Lib.hid hb5
  have HS5 := Lib.hid (World.size_alloc w4 (.cells (madeCells #[.bool false] n) 4))
  clear hrow hb5
  obtain ⟨lo, hlo⟩ : ∃ lo, lo = w4.heap.size := ⟨_, rfl⟩
  rw [← hlo] at HROW HP HEN HB5 HS5
  have HLO := Lib.hid hlo
  go_upto_block 0 with fail
  generalize w4.alloc (.cells (madeCells #[.bool false] n) 4) = w5 at HROW HB5 HS5 ⊢
  rw [← hlo]
  clear hlo hmk
  have HB6 := Lib.hid (HB4.out.trans (HB5.out.mono (by rw [HLO.out]; exact HB4.out.size)))
  obtain ⟨i0, hi, hz0, hz1, hz2⟩ := info_parts (P := Tryd.prog) (e := 3) (z := .int .i64 0) (size := 1) (bytes := 8) (by kernel_rfl)
  go_cut [15, 16] from 75 to 220 (fun v15 _ wx => ∃ A2 cp, v15 = .slice A2 m cp ∧ Hid (All w wx p lo n lo A2 m (fun i => X i % n) (allTo (fun _ => false) (fun i => X i % n) true m)) ∧ Hid (Below lo w4 wx))
  case first =>
    go_wp2_with fail
    go_loopw [15, 16] (fun v15 v16 wr => ∃ k : Nat, k ≤ m ∧ v16 = .int .i64 k ∧ wr.ownsRow (lo + 1) 3 1 v15 k (codesOf (fun i => X i % n) k) ∧ Hid (Row wr lo 4 n (fun i => .bool (allTo (fun _ => false) (fun i => X i % n) true k i))) ∧ Hid (Below lo w4 wr) ∧ Hid (lo + 1 ≤ wr.heap.size)) (fun _ v _ => m - (intOf v).toNat)
    case atStart => exact ⟨0, Nat.zero_le _, rfl, World.ownsRow_nil _ _ _ _, HROW, HB5, Lib.hid (by have := HS5.out; omega)⟩
    case round =>
      obtain ⟨k, hk, rfl, hown, HRW, HBW, HSW⟩ := hrel
      by_cases hkm : k < m
      · have e2 : decide ((k : Int) < (m : Int)) = true := by simp; omega
        have e3 : decide (k < m) = true := by simpa using hkm
        have hbw : Below w.heap.size w wr := HB4.out.trans (HBW.out.mono (by rw [HLO.out]; exact HB4.out.size))
        obtain ⟨b, off, rfl, hb, hc⟩ := HS.out k hkm
        have hc1 : wr.cell? ⟨b, off + k, none⟩ = some (.int .u8 (X k : Nat)) := (hbw.cell (p := ⟨b, off + k, none⟩) hb).trans hc
        obtain ⟨x, hx⟩ : ∃ x, x = X k := ⟨_, rfl⟩
        rw [← hx] at hc1
        obtain ⟨y, hy⟩ : ∃ y, y = x % n := ⟨_, rfl⟩
        have hyn : y < n := by rw [hy]; exact Nat.mod_lt _ (by omega)
        have v3 : (x : Int) % (n : Int) = (y : Int) := by omega
        have hxx : 0 ≤ x ∧ x ≤ 255 := ⟨Nat.zero_le _, by rw [hx]; exact HXB.out k hkm⟩
        have HX := Lib.hid hx
        have HY := Lib.hid hy
        clear hc hbw hx hy
        go_upto_region 16 with (first
          | (at_builtin; refine wpList_push _ rfl _ _ 34 rfl (lo + 1) 3 i0 (.int .i64 0) 8 Tryd.underlying34 hi hz0 hz1 hz2 rfl _ _ _ rfl hown (.int .i64 (y : Nat)) rfl rfl (by omega) (by omega) HSW.out ?_; intro v' w2 hown2 hbel2))
        have HR2 := Lib.hid (HRW.out.below hbel2 (Nat.lt_succ_self _))
        have HB2 := Lib.hid (HBW.out.trans (hbel2.mono (Nat.le_succ _)))
        have HS2 := Lib.hid (Nat.le_trans HSW.out hbel2.size)
        have c2 : w2.cell? ⟨b, off + k, none⟩ = some (.int .u8 (x : Nat)) := (hbel2.cell (p := ⟨b, off + k, none⟩) (Nat.lt_of_lt_of_le hb (by have := HB4.out.size; have := HLO.out; show w.heap.size ≤ lo + 1; omega))).trans hc1
        have fr := HR2.out.free y
        have qy := HR2.out.cell hyn
        clear hc1 hbel2 hown HRW HBW HSW HROW HB5 HS5
        go_wp2_with fail
        have hown3 := own_set hown2 (p := ⟨lo, y, none⟩) (Nat.lt_succ_self _) (.bool true)
        go_roundw
        case rel => exact ⟨k + 1, by omega, by go_num, by rw [codesOf_succ, ← HX.out, ← HY.out]; exact hown3, Lib.hid ((HR2.out.set hyn _).congr (fun j _ => by
          show _ = Value.bool (upd _ (X k % n) true j)
          rw [← HX.out, ← HY.out]
          unfold upd
          by_cases hj : j = y
          · rw [if_pos hj, if_pos hj]
          · rw [if_neg hj, if_neg hj])), Lib.hid (HB2.out.grown (grown_one w2 lo y _) (by have := HS2.out; omega) (fun k hk => by injection hk with hk; omega)), Lib.hid (by rw [World.size_setCell]; exact HS2.out)⟩
        case measure => simp [intOf]; omega
      · have e2 : decide ((k : Int) < (m : Int)) = false := by simp; omega
        have e3 : decide (k < m) = false := by simpa using hkm
        obtain rfl : k = m := by omega
        obtain ⟨A2, cp, rfl, hcod⟩ := codes_of_own hown
        have HC := Lib.hid hcod
        clear hown hcod
        go_wp2_with fail
        go_meet
        refine ⟨A2, cp, rfl, Lib.hid ⟨HRW.out, HC.out.weaken (Nat.le_succ _), HB4.out.trans (HBW.out.mono (by rw [HLO.out]; exact HB4.out.size)), HLO.out ▸ HP.out.1, Nat.le_refl _, HP.out.2, fun i _ => Nat.mod_lt _ (by omega), fun i => ?_, by omega⟩, HBW⟩
        rw [allTo_on]
        simp
  case rest =>
    obtain ⟨A2, cp, rfl, HALL, HBL⟩ := hcut
    have HREST : Hid (Rested w wc p lo n lo A2 m (fun i => X i % n) (allTo (fun _ => false) (fun i => X i % n) true m) 0) := by
      have hb := HBL.out
      have hE := HEN.out
      have hl := HLO.out
      rw [hl] at hb
      exact Lib.hid ⟨0, 0, _, _, _, _, _, _, ⟨hE.da.kept hb, hE.ga.kept hb, hE.db.kept hb, hE.gb.kept hb, by have := hb.size; rw [hl]; exact this⟩, fun _ _ => rfl, fun _ _ => rfl, fun _ _ => rfl, ⟨by omega, by omega⟩, fun _ _ => rfl, HALL.out⟩
    clear HALL HBL HEN HROW HB5 HS5 HB6 HB4 HP HLO HS HXB hi hz0 hz1 hz2
    obtain ⟨Y, hY⟩ : ∃ Y, Y = (fun i => X i % n) := ⟨_, rfl⟩
    rw [← hY] at HREST
    generalize allTo (fun _ => false) Y true m = Bk at HREST
    clear hY
    subst hp
    go_wp2_with fail
    go_loopw [17] (fun v17 wr => ∃ o : Nat, o ≤ 2 ∧ v17 = .int .i64 o ∧ Hid (Rested w wr ⟨da, g, ta, cg, db, h, tb, ch⟩ lo n lo A2 m Y Bk o)) (fun v _ => 2 - (intOf v).toNat)
    case atStart => exact ⟨0, by omega, rfl, HREST⟩
    case round =>
      obtain ⟨o, ho, rfl, HRS⟩ := hrel
      clear HREST
      by_cases ho2 : o < 2
      · have e2 : decide ((o : Int) < 2) = true := by simp; omega
        have e3 : decide (o < 2) = true := by simpa using ho2
        obtain ⟨on, hon⟩ : ∃ on, on = decide (o = 0) := ⟨_, rfl⟩
        have e4 : ((o : Int) == 0) = on := by rw [hon, Bool.eq_iff_iff]; simp
        obtain ⟨age, last, L, T, S, C, S2, C2, hE, hLT, hS, hS2, hlast, hL, hall⟩ := HRS.out
        have HST := Lib.hid (a_sets ⟨da, g, ta, cg, db, h, tb, ch⟩ lo n m cp age last on A2 Y L T S C S2 C2 wr hall.ok (by omega) (by omega) hE (fun w' hk => hall.codes w' _ hk (by
          have := hall.ok.lt
          simp
          exact this.2.2.2.1)) hall.lt (by have := hall.num.2; omega))
        have HL1 := Lib.hid (hon ▸ want_next ho2 hall.marks hL)
        have HALL := Lib.hid hall
        have HZS := Lib.hid (And.intro hS hS2)
        have hlo0 : 0 ≤ last ∧ last ≤ 101 * (o : Int) := hlast
        have HON := Lib.hid hon
        clear hE hLT hS hS2 hlast hL hall HRS hon
        go_wp2_with fail
        refine HST.out.mono ?_
        rintro e wa ⟨rfl, hns, hka⟩
        have HNS := Lib.hid hns
        have HALA := Lib.hid (HALL.out.kept hka (by simp [Pts.all]))
        clear hns hka HST HALL
        generalize allTo L Y on m = L1 at HL1 HNS
        go_upto_block 4 with fail
        go_cut [18, 19, 20, 21, 22] from 100 to 220 (fun _ _ _ _ _ wx => Hid (Rested w wx ⟨da, g, ta, cg, db, h, tb, ch⟩ lo n lo A2 m Y Bk (o + 1)))
        case first =>
          go_wp2_with fail
          go_loopw [18] (fun v18 wx => ∃ k : Nat, k ≤ 100 ∧ v18 = .int .i64 k ∧ ∃ T', Hid (NextState wx ⟨da, g, ta, cg, db, h, tb, ch⟩ lo n (last + (k : Int)) L1 T' S C S2 C2) ∧ Hid (∀ i, i < k → i < n → L1 i = T' i) ∧ Hid (All w wx ⟨da, g, ta, cg, db, h, tb, ch⟩ lo n lo A2 m Y Bk)) (fun v _ => 100 - (intOf v).toNat)
          case atStart => exact ⟨0, by omega, rfl, T, (by simpa using HNS), Lib.hid (fun i hi => absurd hi (by omega)), HALA⟩
          case round =>
            obtain ⟨k, hk, rfl, T', HNX, HAG, HAX⟩ := hrel
            clear HNS HALA
            rcases HNX.out with ⟨heq, age', hE⟩ | ⟨f, k', ml, mb, r, cap, mk, on', hcap, hE, hO⟩
            · have HDONE : Hid (Rested w wr ⟨da, g, ta, cg, db, h, tb, ch⟩ lo n lo A2 m Y Bk (o + 1)) :=
                Lib.hid ⟨age', last + (k : Int), L1, T', S, C, S2, C2, hE, (eqTo_iff L1 T' n).1 heq, HZS.out.1, HZS.out.2, ⟨by omega, by omega⟩, HL1.out, HAX.out⟩
              have HRY := Lib.hid (rest_yes da g wr hE.da.l0 hE.da.l6)
              clear HNX HAG HAX HL1 HZS heq hE
              by_cases hk2 : k < 100
              · have t1 : decide ((k : Int) < 100) = true := by simp; omega
                have t2 : decide (k < 100) = true := by simpa using hk2
                go_wp2_with fail
                refine HRY.out.mono ?_
                rintro e w7 ⟨rfl, rfl⟩
                go_wp2_with fail
                go_meet
                exact HDONE
              · have t1 : decide ((k : Int) < 100) = false := by simp; omega
                have t2 : decide (k < 100) = false := by simpa using hk2
                go_wp2_with fail
                go_meet
                exact HDONE
            · have HEO := Lib.hid (And.intro hE hO)
              have HRN := Lib.hid (rest_no da g mb wr hE.da.l0 hE.da.l6)
              have hmbg := hO.mbge
              have hfn : f < n := Nat.lt_of_lt_of_le hO.done.1 hO.done.2.1
              have hdf := hO.done.2.2.2.1
              have HTM := Lib.hid (told_more hO.done (j := min k n) (fun i hi => HAG.out i (by omega) (by omega)))
              have hk2 : k < 100 := by
                refine Classical.byContradiction fun hk2 => ?_
                have := HAG.out f (by omega) hfn
                unfold Dd at hdf
                simp [this] at hdf
              have t1 : decide ((k : Int) < 100) = true := by simp; omega
              have t2 : decide (k < 100) = true := by simpa using hk2
              obtain ⟨ls, hls⟩ : ∃ ls : Int, ls = last + (k : Int) + 1 := ⟨_, rfl⟩
              have hl1 : last + (k : Int) = ls - 1 := by omega
              rw [← hls, hl1] at HEO
              have hlb : 1 ≤ ls ∧ ls ≤ 303 := by omega
              have HLS := Lib.hid hls
              clear HNX HAG hE hO hdf hls hl1
              go_wp2_with fail
              refine HRN.out.mono ?_
              rintro e w7 ⟨rfl, rfl⟩
              have HTK := Lib.hid (a_takes ⟨da, g, ta, cg, db, h, tb, ch⟩ lo n f k' ml mb r cap 0 ls (ls - 1) _ _ mk on' L1 _ T' T' S C S2 C2 wr HAX.out.ok hcap HEO.out.1 HEO.out.2)
              clear HEO
              go_wp2_with fail
              refine HTK.out.mono ?_
              rintro e w8 ⟨rfl, hE, hO, hk8⟩
              have HEO := Lib.hid (And.intro hE hO)
              have HA8 := Lib.hid (HAX.out.kept hk8 (by simp [Pts.all]))
              have q0 := hO.msg.2.1
              have q1 := hO.msg.2.2.1
              have q2 := hO.msg.2.2.2.1
              have q3 := hO.msg.2.2.2.2.1
              have q4 := hO.msg.2.2.2.2.2
              clear hE hO hk8 HTK HRN HAX
              go_wp2_with fail
              go_loopw [20] (fun v20 wx => (v20 = .int .i64 0 ∧ wx = w8) ∨ (v20 = .int .i64 1 ∧ Hid (Answered w wx ⟨da, g, ta, cg, db, h, tb, ch⟩ lo n lo A2 m Y Bk mb f 0 ls L1 (toldTo L1 T' k') S C S2 C2))) (fun v _ => 1 - (intOf v).toNat)
              case atStart => exact .inl ⟨rfl, rfl⟩
              case round =>
                rcases hrel with ⟨rfl, rfl⟩ | ⟨rfl, HAN⟩
                · have HBH := Lib.hid (b_hears ⟨da, g, ta, cg, db, h, tb, ch⟩ lo n f k' ml mb r 0 ls _ mk on' L1 _ T' S C S2 C2 wr HA8.out.ok (by omega) (by omega) HEO.out.1 HEO.out.2)
                  clear HEO
                  go_wp2_with fail
                  refine HBH.out.mono ?_
                  rintro e w9 ⟨⟨v, rfl⟩, r2, cap2, hcap2, hE9, hM9, hr9, ⟨mv, ov, hB9⟩, hk9⟩
                  have HAN := Lib.hid (show Answered w w9 ⟨da, g, ta, cg, db, h, tb, ch⟩ lo n lo A2 m Y Bk mb f 0 ls L1 (toldTo L1 T' k') S C S2 C2 from ⟨r2, cap2, mv, ov, hcap2, hE9, hM9, hr9, hB9, HA8.out.kept hk9 (by simp [Pts.all])⟩)
                  clear hE9 hM9 hr9 hB9 hk9 HBH HA8 q0 q1 q2 q3 q4
                  go_wp2_with fail
                  go_roundw
                  case rel => exact .inr ⟨rfl, HAN⟩
                  case measure => simp [intOf]
                · obtain ⟨r2, cap2, mv, ov, hcap2, hE9, hM9, hr9, hB9, hA9⟩ := HAN.out
                  have HBT := Lib.hid (b_takes ⟨da, g, ta, cg, db, h, tb, ch⟩ lo n mb r2 cap2 0 ls ls ls f _ _ mv ov L1 _ _ S C S2 C2 wr hA9.ok hcap2 hE9 hM9 hr9 hB9 hmbg)
                  have HA9 := Lib.hid hA9
                  clear HAN HA8 HEO q0 q1 q2 q3 q4 hE9 hM9 hB9 hA9
                  go_wp2_with fail
                  refine HBT.out.mono ?_
                  rintro e w10 ⟨rfl, hE10, hM10, hB10, hk10⟩
                  have HA10 := Lib.hid (HA9.out.kept hk10 (by simp [Pts.all]))
                  have HAH := Lib.hid (a_hears ⟨da, g, ta, cg, db, h, tb, ch⟩ lo n mb 0 ls f mv ov L1 _ S C S2 C2 w10 HA10.out.ok (by omega) (by omega) hE10 hB10 hmbg)
                  have q0 := hM10.2.1
                  have q1 := hM10.2.2.1
                  have q2 := hM10.2.2.2.1
                  have q3 := hM10.2.2.2.2.1
                  have q4 := hM10.2.2.2.2.2
                  clear hE10 hM10 hB10 hk10 HBT HA9
                  go_wp2_with fail
                  go_loopw [22] (fun v22 wx => (v22 = .int .i64 0 ∧ wx = w10) ∨ (v22 = .int .i64 1 ∧ Hid (NextState wx ⟨da, g, ta, cg, db, h, tb, ch⟩ lo n ls L1 (toldTo L1 T' k') S C S2 C2) ∧ Hid (All w wx ⟨da, g, ta, cg, db, h, tb, ch⟩ lo n lo A2 m Y Bk))) (fun v _ => 1 - (intOf v).toNat)
                  case atStart => exact .inl ⟨rfl, rfl⟩
                  case round =>
                    rcases hrel with ⟨rfl, rfl⟩ | ⟨rfl, HNX, HAX⟩
                    · go_wp2_with fail
                      refine HAH.out.mono ?_
                      rintro e w11 ⟨⟨v, rfl⟩, hn11, hk11⟩
                      have HN11 := Lib.hid hn11
                      have HA11 := Lib.hid (HA10.out.kept hk11 (by simp [Pts.all]))
                      clear hn11 hk11 HAH HA10 q0 q1 q2 q3 q4
                      go_wp2_with fail
                      go_roundw
                      case rel => exact .inr ⟨rfl, HN11, HA11⟩
                      case measure => simp [intOf]
                    · clear HAH HA10 q0 q1 q2 q3 q4
                      go_wp2_with fail
                      go_roundw
                      case rel =>
                        refine ⟨k + 1, by omega, by go_num, _, ?_, Lib.hid (fun i hi hin => HTM.out i (by omega)), HAX⟩
                        have e9 : last + ((k + 1 : Nat) : Int) = ls := by have := HLS.out; omega
                        rw [e9]
                        exact HNX
                      case measure => simp [intOf]; omega
        case rest =>
          have HRE := hcut
          clear HNS HALA HL1 HZS hcut
          obtain ⟨_, _, _, _, _, _, _, _, hE, _, _, _, _, _, hall⟩ := HRE.out
          have HRY := Lib.hid (rest_yes da g wc hE.da.l0 hE.da.l6)
          have HBK := Lib.hid hall.row
          clear hE hall
          go_wp2_with fail
          refine HRY.out.mono ?_
          rintro e w7 ⟨rfl, rfl⟩
          clear HRY
          go_wp2_with fail
          have e5 : ((o : Int) == 1) = !on := by
            have := HON.out
            rw [this, Bool.eq_iff_iff]
            simp
            omega
          obtain ⟨P, hP⟩ : ∃ P : Nat → Bool, P = (fun i => !Want (o + 1) Bk i) := ⟨_, rfl⟩
          have HP := Lib.hid hP
          have HPC := Lib.hid (fun k => cnt_le P k)
          have HPS : Hid (∀ k, cnt P (k + 1) = cnt P k + (if P k = true then 1 else 0)) := Lib.hid (fun _ => rfl)
          have HPK : Hid (∀ k, P k = (!on || !Bk k)) := by
            refine Lib.hid fun k => ?_
            have h1 := HON.out
            rw [hP]
            show (!Want (o + 1) Bk k) = _
            unfold Want
            rw [h1]
            have e : decide (o + 1 = 1) = decide (o = 0) := by rw [decide_eq_decide]; omega
            rw [e]
            cases decide (o = 0) <;> cases Bk k <;> rfl
          clear hP
          go_loopw [23, 24] (fun v23 v24 wx => ∃ k : Nat, k ≤ n ∧ v24 = .int .i64 k ∧ v23 = .int .i64 (cnt P k : Nat) ∧ wx = wc) (fun _ v _ => n - (intOf v).toNat)
          case atStart => exact ⟨0, Nat.zero_le _, rfl, rfl, rfl⟩
          case round =>
            obtain ⟨k, hk, rfl, rfl, rfl⟩ := hrel
            have hck := HPC.out k
            have hpk := HPK.out k
            have hps := HPS.out k
            generalize hcke : cnt P k = ck at hck hps ⊢
            have HCE := Lib.hid hcke
            clear hcke
            have HPKK := Lib.hid (And.intro hpk hps)
            clear hpk hps
            by_cases hkn : k < n
            · have t1 : decide ((k : Int) < (n : Int)) = true := by simp; omega
              have t2 : decide (k < n) = true := by simpa using hkn
              have qk := HBK.out.cell hkn
              have v9 : IntKind.i64.wrap ((ck : Int) + 1) = (ck : Int) + 1 := by rw [IntKind.wrap_i64]; omega
              replace qk : wr.cell? ⟨lo, k, none⟩ = some (.bool (Bk k)) := qk
              cases hon : on with
              | false =>
                have hpt : cnt P (k + 1) = ck + 1 := by
                  have := HPKK.out
                  rw [hon] at this
                  rw [this.2, if_pos (by rw [this.1]; rfl)]
                have HPT := Lib.hid hpt
                clear hpt
                rw [hon] at e4 e5
                simp only [Bool.not_false] at e5
                go_wp2_with fail
                go_roundw
                case rel => exact ⟨k + 1, by omega, by go_num, by rw [HPT.out]; go_num, trivial⟩
                case measure => simp [intOf]; omega
              | true =>
                rw [hon] at e4 e5
                simp only [Bool.not_true] at e5
                cases hbk : Bk k with
                | false =>
                  have hpt : cnt P (k + 1) = ck + 1 := by
                    have := HPKK.out
                    rw [hbk] at this
                    rw [this.2, if_pos (by rw [this.1]; simp)]
                  have HPT := Lib.hid hpt
                  clear hpt
                  rw [hbk] at qk
                  go_wp2_with fail
                  go_roundw
                  case rel => exact ⟨k + 1, by omega, by go_num, by rw [HPT.out]; go_num, trivial⟩
                  case measure => simp [intOf]; omega
                | true =>
                  have hpt : cnt P (k + 1) = ck := by
                    have := HPKK.out
                    rw [hbk, hon] at this
                    rw [this.2, if_neg (by rw [this.1]; simp)]
                    omega
                  have HPT := Lib.hid hpt
                  clear hpt
                  rw [hbk] at qk
                  go_wp2_with fail
                  go_roundw
                  case rel => exact ⟨k + 1, by omega, by go_num, by rw [HPT.out], trivial⟩
                  case measure => simp [intOf]; omega
            · have t1 : decide ((k : Int) < (n : Int)) = false := by simp; omega
              have t2 : decide (k < n) = false := by simpa using hkn
              obtain rfl : n = k := by omega
              clear HPKK
              have HRC := Lib.hid (Rested.kept HRE.out ((Below.refl _ wr).alloc (Nat.le_refl _) (.cells #[.pointer (some ⟨g, 0, none⟩), .pointer (some ⟨h, 0, none⟩)] 24)))
              have HGS := Lib.hid (Lit0.new wr 24 #[.pointer (some ⟨g, 0, none⟩), .pointer (some ⟨h, 0, none⟩)])
              have hglo : lo ≤ wr.heap.size := by
                obtain ⟨_, _, _, _, _, _, _, _, hE, _⟩ := HRE.out
                exact hE.lo
              have hcF : ck = cnt (fun i => !Want (o + 1) Bk i) n := by rw [← HCE.out, HP.out]
              have HF := Lib.hid hcF
              clear hcF HCE HRE HBK HPC HPS HPK
              go_upto_block 12 with fail
              generalize wr.alloc (.cells #[.pointer (some ⟨g, 0, none⟩), .pointer (some ⟨h, 0, none⟩)] 24) = w9 at HRC HGS ⊢
              generalize wr.heap.size = gs at HGS hglo ⊢
              go_wp2_with fail
              go_loopw [26] (fun v26 wx => ∃ s : Nat, s ≤ 2 ∧ v26 = .int .i64 s ∧ Hid (Rested w wx ⟨da, g, ta, cg, db, h, tb, ch⟩ lo n lo A2 m Y Bk (o + 1)) ∧ Hid (Lit0 wx gs 24 #[.pointer (some ⟨g, 0, none⟩), .pointer (some ⟨h, 0, none⟩)])) (fun v _ => 2 - (intOf v).toNat)
              case atStart => exact ⟨0, by omega, rfl, HRC, HGS⟩
              case round =>
                obtain ⟨s, hs, rfl, HRS, HGX⟩ := hrel
                clear HRC HGS
                by_cases hs2 : s < 2
                · have t3 : decide ((s : Int) < 2) = true := by simp; omega
                  have t4 : decide (s < 2) = true := by simpa using hs2
                  obtain ⟨gx, cx, own, far, B, hgx, hcx, hhu, hBW, hback⟩ := rested_hunt HRS.out hs2
                  obtain ⟨_, _, _, _, _, _, _, _, _, _, _, _, _, _, hall⟩ := HRS.out
                  rw [← HF.out] at hhu
                  have hcl : cx < lo := hall.ok.2 cx hcx
                  have HAL := Lib.hid hall
                  have HHU := Lib.hid hhu
                  have HBA := Lib.hid hback
                  have HBW := Lib.hid hBW
                  have HGC : Hid (∀ wy, Kept wr wy [cx] → wy.cell? ⟨gs, s, none⟩ = some (.pointer (some ⟨gx, 0, none⟩))) := by
                    refine Lib.hid fun wy hk => ?_
                    have h1 := (hk.lit HGX.out (by simp; omega)).cell s
                    rw [h1, hgx]
                    rcases Nat.lt_or_ge s 1 with h0 | h0
                    · obtain rfl : s = 0 := by omega
                      rfl
                    · obtain rfl : s = 1 := by omega
                      rfl
                  have HGL : Hid (∀ wy, Kept wr wy [cx] → Lit0 wy gs 24 #[.pointer (some ⟨g, 0, none⟩), .pointer (some ⟨h, 0, none⟩)]) := Lib.hid fun wy hk => hk.lit HGX.out (by simp; omega)
                  have HRW : Hid (∀ wy, Kept wr wy [cx] → Row wy lo 4 n (fun i => .bool (Bk i))) := Lib.hid fun wy hk => hk.row HAL.out.row (by simp; omega)
                  have HK0 := Lib.hid (Kept.refl wr [cx])
                  clear hgx hcx hhu hBW hback hall HRS HGX HAL
                  go_upto_block 14 with fail
                  go_wp2_with fail
                  go_loopw [27] (fun v27 wx => ∃ k : Nat, (1 ≤ k ∧ k ≤ n + 2) ∧ v27 = .int .i64 k ∧ Hid (Hunted wx gx cx own far n B ck k) ∧ Hid (Kept wr wx [cx])) (fun v _ => n + 2 - (intOf v).toNat)
                  case atStart => exact ⟨1, by omega, rfl, HHU, HK0⟩
                  case round =>
                    obtain ⟨k, hk, rfl, HHX, HKX⟩ := hrel
                    clear HHU HK0
                    by_cases hkn : k ≤ n + 1
                    · have t5 : decide ((k : Int) ≤ (n : Int) + 1) = true := by simp; omega
                      have t6 : decide (k ≤ n + 1) = true := by simpa using hkn
                      have qs := HGC.out wr HKX.out
                      have HST := Lib.hid (hunt_step gx cx own far n ck k B wr HHX.out (by omega) hk.1)
                      clear HHX
                      go_wp2_with fail
                      refine HST.out.mono ?_
                      rintro e w5 ⟨hans, hhu5, hk5⟩
                      have HH5 := Lib.hid hhu5
                      have HK5 := Lib.hid (HKX.out.trans hk5)
                      clear hhu5 hk5 HST HKX qs
                      rcases hans with ⟨hcf, b, hbn, hBb, rfl⟩ | ⟨hcf, rfl⟩
                      · have t7 : decide ((k : Int) ≤ (ck : Int)) = true := by simp; omega
                        have t8 : decide (k ≤ ck) = true := by simpa using hcf
                        have v9 : (b : Int) % (n : Int) = (b : Int) := Int.emod_eq_of_lt (by omega) (by omega)
                        have hw := HBW.out b hbn hBb
                        unfold Want at hw
                        cases hon : on with
                        | false =>
                          rw [hon] at e4 e5
                          clear hw hBb
                          go_wp2_with fail
                          go_roundw
                          case rel => exact ⟨k + 1, by omega, by go_num, HH5, HK5⟩
                          case measure => simp [intOf]; omega
                        | true =>
                          have h1 := HON.out
                          rw [hon] at h1 e4 e5
                          have ho0 : o = 0 := by simpa using h1.symm
                          have qb := (HRW.out w5 HK5.out).cell hbn
                          have hbf : Bk b = false := by
                            rw [ho0] at hw
                            simpa using hw
                          replace qb : w5.cell? ⟨lo, b, none⟩ = some (.bool (Bk b)) := qb
                          rw [hbf] at qb
                          clear hw hBb h1 ho0
                          go_wp2_with fail
                          go_roundw
                          case rel => exact ⟨k + 1, by omega, by go_num, HH5, HK5⟩
                          case measure => simp [intOf]; omega
                      · have t7 : decide ((k : Int) ≤ (ck : Int)) = false := by simp; omega
                        have t8 : decide (k ≤ ck) = false := by simp; omega
                        go_wp2_with fail
                        go_roundw
                        case rel => exact ⟨k + 1, by omega, by go_num, HH5, HK5⟩
                        case measure => simp [intOf]; omega
                    · have t5 : decide ((k : Int) ≤ (n : Int) + 1) = false := by simp; omega
                      have t6 : decide (k ≤ n + 1) = false := by simpa using hkn
                      have HF0 := Lib.hid HHX.out.freed
                      clear HHX
                      go_wp2_with fail
                      go_loopw [30] (fun v30 wx => ∃ j : Nat, j ≤ n ∧ v30 = .int .i64 j ∧ Hid (Freed wx gx cx own far n B j) ∧ Hid (Kept _ wx [cx])) (fun v _ => n - (intOf v).toNat)
                      case atStart => exact ⟨0, Nat.zero_le _, rfl, HF0, HKX⟩
                      case round =>
                        obtain ⟨j, hj, rfl, HFX, HKJ⟩ := hrel
                        clear HF0 HKX
                        by_cases hjn : j < n
                        · have t7 : decide ((j : Int) < (n : Int)) = true := by simp; omega
                          have t8 : decide (j < n) = true := by simpa using hjn
                          have qs := HGC.out wr HKJ.out
                          have HST := Lib.hid (free_step gx cx own far n j B wr HFX.out hjn)
                          clear HFX
                          go_wp2_with fail
                          refine HST.out.mono ?_
                          rintro e w5 ⟨⟨v, rfl⟩, hf5, hk5⟩
                          have HF5 := Lib.hid hf5
                          have HK5 := Lib.hid (HKJ.out.trans hk5)
                          clear hf5 hk5 HST HKJ qs
                          go_wp2_with fail
                          go_roundw
                          case rel => exact ⟨j + 1, by omega, by go_num, HF5, HK5⟩
                          case measure => simp [intOf]; omega
                        · have t7 : decide ((j : Int) < (n : Int)) = false := by simp; omega
                          have t8 : decide (j < n) = false := by simpa using hjn
                          obtain rfl : n = j := by omega
                          have HRN := Lib.hid (HBA.out wr HKJ.out HFX.out)
                          have HGN := Lib.hid (HGL.out wr HKJ.out)
                          clear HBA HGL HGC HRW HFX HKJ
                          go_wp2_with fail
                          go_roundw
                          case rel => exact ⟨s + 1, by omega, by go_num, HRN, HGN⟩
                          case measure => simp [intOf]; omega
                · have t3 : decide ((s : Int) < 2) = false := by simp; omega
                  have t4 : decide (s < 2) = false := by simpa using hs2
                  go_wp2_with fail
                  go_roundw
                  case rel => exact ⟨o + 1, by omega, by go_num, HRS⟩
                  case measure => simp [intOf]; omega
      · have e2 : decide ((o : Int) < 2) = false := by simp; omega
        have e3 : decide (o < 2) = false := by simpa using ho2
        have HR := Lib.hid (rings_any wr)
        obtain ⟨_, _, _, _, _, _, _, _, _, _, _, _, _, _, hall⟩ := HRS.out
        have HB := Lib.hid hall.below
        clear hall HRS
        go_wp2_with fail
        refine HR.out.mono ?_
        rintro e w1 ⟨rfl, hb⟩
        go_wp2_with fail
        go_ret
        exact ⟨rfl, HB.out.trans (hb.mono HB.out.size)⟩
end Go.Proofs.YtdjephmkpebnhaaDoor
