/- next: a Set is sent if one is due. -/
import Derived.Test.YtdjephmkpebnhaaDoorPush12
import Derived.Test.YtdjephmkpebnhaaDoorPush13
import Derived.Deep.CutBlock
namespace Go.Proofs.YtdjephmkpebnhaaDoor
open Go.RowKit

/-- What a due Set leaves. -/
def RetNext (w : World) (d g t n : Nat) (ag last heard : Int) (L T : Nat → Bool) (e : Ending) (w' : World) : Prop :=
  (∃ v, e = .returned v) ∧ ∃ f k ml mb r cap mk on mv ov, Done (Dd L T) n k f ml ∧ 1 ≤ cap ∧ Dk w' d g t n ag 0 (last + 1) heard (.pointer (some ⟨mb, 0, none⟩)) (.slice (some ⟨r, 0, none⟩) 1 cap) (toldTo L T k) ∧
    MsgAt w' r 1 (last + 1) f mk on ∧ Bools w' ml (MkF L T f) mk ∧ Bools w' ml (OnF L T f) on ∧ Lit0 w' mb 42 #[.int .u8 1, .int .u32 (last + 1), .int .i64 f, mv, ov] ∧ w.heap.size ≤ mb ∧ w.heap.size ≤ r ∧ Kept w w' [d, t]

/-- The scan's end. -/
def Scanned (w : World) (d g t n mb B0 : Nat) (ag age last heard : Int) (L T : Nat → Bool) (wx : World) : Prop :=
  ∃ f k ml mv ov, Done (Dd L T) n k f ml ∧ Lit0 wx mb 42 #[.int .u8 1, .int .u32 (last + 1), .int .i64 (f : Nat), mv, ov] ∧ OwnB wx B0 mv ml (MkF L T f) ∧ OwnB wx B0 ov ml (OnF L T f) ∧
      Dk wx d g t n ag age (last + 1) heard (.pointer none) (.slice none 0 0) (toldTo L T k) ∧ Kept w wx [d, t] ∧ B0 ≤ wx.heap.size

set_option maxRecDepth 100000 in
set_option maxHeartbeats 2000000 in
theorem next_rest (d g t n c : Nat) (own far ag age last heard : Int) (out : Value) (S C : Nat → Int) (L T : Nat → Bool) (w : World) (h : Dk w d g t n ag age last heard (.pointer none) out T) (hG : Grp w g c own far n S (fun k => locI (L k)) C) (hn : 1 ≤ n ∧ n ≤ 256) (he : eqTo L T n = true) :
    Calls Tryd.prog 24 #[.pointer (some ⟨d, 0, none⟩)] w (fun e w' => (∃ v, e = .returned v) ∧ Below w.heap.size w w') := by
  have HLOC := Lib.hid (locals_any d g c t own far ag age last heard _ out n S C L T w h hG hn)
  have H := Lib.hid h
  have HE := Lib.hid he
  clear h hG he
  go_enter Tryd.func24, Tryd.ntmps24
  go_wp2_with fail
  refine HLOC.out.mono ?_
  rintro e w1 ⟨r, rfl, hrow, hr, hb1⟩
  have H1 := Lib.hid (H.out.kept hb1)
  have HB1 := Lib.hid hb1
  have l6 := H1.out.l6
  have l3 := H1.out.l3
  have hq := equal_any r t n L T w1 hrow H1.out.2.1 (by omega)
  rw [HE.out] at hq
  have HQ := Lib.hid hq
  clear hq hrow hr hb1 H HLOC
  go_wp2_with fail
  refine HQ.out.mono ?_
  rintro e w2 ⟨rfl, hb2⟩
  have HB2 := Lib.hid (HB1.out.trans (hb2.mono HB1.out.size))
  clear hb2 l6 l3
  go_wp2_with fail
  refine bodyPost_ret (results_none rfl _ _ _) rfl ?_
  exact ⟨⟨_, rfl⟩, HB2.out⟩

set_option maxRecDepth 100000 in
set_option maxHeartbeats 40000000 in
theorem next_any (d g t n c : Nat) (own far ag age last heard : Int) (S C : Nat → Int) (L T : Nat → Bool) (w : World) (h : Dk w d g t n ag age last heard (.pointer none) (.slice none 0 0) T) (hG : Grp w g c own far n S (fun k => locI (L k)) C) (hn : 1 ≤ n ∧ n ≤ 100) (he : eqTo L T n = false) (hlast : 0 ≤ last ∧ last ≤ 1000) :
    Calls Tryd.prog 24 #[.pointer (some ⟨d, 0, none⟩)] w (RetNext w d g t n ag last heard L T) := by
  have HLOC := Lib.hid (locals_any d g c t own far ag age last heard _ _ n S C L T w h hG (by omega))
  have H := Lib.hid h
  have HE := Lib.hid he
  clear h hG he
  go_enter Tryd.func24, Tryd.ntmps24
  go_wp2_with fail
  refine HLOC.out.mono ?_
  rintro e w1 ⟨r, rfl, hrow, hr, hb1⟩
  have H1 := Lib.hid (H.out.kept hb1)
  have HB1 := Lib.hid hb1
  have HR1 := Lib.hid hrow
  have HRW := Lib.hid hr
  have l6 := H1.out.l6
  have l3 := H1.out.l3
  have hq := equal_any r t n L T w1 hrow H1.out.2.1 (by omega)
  rw [HE.out] at hq
  have HQ := Lib.hid hq
  clear hq hrow hr hb1 HLOC
  go_wp2_with fail
  refine HQ.out.mono ?_
  rintro e w2 ⟨rfl, hb2⟩
  have H2 := Lib.hid (H1.out.kept hb2)
  have HR2 := Lib.hid (HR1.out.kept hb2)
  have HB2 := Lib.hid (HB1.out.trans (hb2.mono HB1.out.size))
  have l4 := H2.out.l4
  have f4 := H2.out.1.free 4
  clear hb2 l6 l3 HB1 H1 HR1 HQ
  go_upto_block 0 with fail
  have HMB := Lit0.new (w2.setCell ⟨d, 4, none⟩ (.int .u32 (last + 1))) 42 #[.int .u8 1, .int .u32 (last + 1), .int .i64 (-1), .slice none 0 0, .slice none 0 0]
  have H3 := (H2.out.set4 (last + 1)).kept ((Below.refl _ (w2.setCell ⟨d, 4, none⟩ (.int .u32 (last + 1)))).alloc (Nat.le_refl _) (.cells #[.int .u8 1, .int .u32 (last + 1), .int .i64 (-1), .slice none 0 0, .slice none 0 0] 42))
  have HK3 := Kept.trans (Kept.trans (Kept.below (bs := [d, t]) HB2.out) (Kept.grown (bs := [d, t]) (grown_one w2 d 4 (.int .u32 (last + 1))) (by simp))) (Kept.below (bs := [d, t]) ((Below.refl _ (w2.setCell ⟨d, 4, none⟩ (.int .u32 (last + 1)))).alloc (Nat.le_refl _) (.cells #[.int .u8 1, .int .u32 (last + 1), .int .i64 (-1), .slice none 0 0, .slice none 0 0] 42)))
  have hrd : r ≠ d := by have := H.out.1.lt; have := HRW.out; omega
  have hrt : r ≠ t := by have := H.out.2.1.lt; have := HRW.out; omega
  have HR3 := (HR2.out.far (p := ⟨d, 4, none⟩) hrd (.int .u32 (last + 1))).alloc (.cells #[.int .u8 1, .int .u32 (last + 1), .int .i64 (-1), .slice none 0 0, .slice none 0 0] 42)
  have hmb0 : (w2.setCell ⟨d, 4, none⟩ (.int .u32 (last + 1))).heap.size = w2.heap.size := World.size_setCell _ _ _
  have hsz3 := World.size_alloc (w2.setCell ⟨d, 4, none⟩ (.int .u32 (last + 1))) (.cells #[.int .u8 1, .int .u32 (last + 1), .int .i64 (-1), .slice none 0 0, .slice none 0 0] 42)
  rw [hmb0] at HMB hsz3
  generalize ((w2.setCell ⟨d, 4, none⟩ (.int .u32 (last + 1))).alloc (.cells #[.int .u8 1, .int .u32 (last + 1), .int .i64 (-1), .slice none 0 0, .slice none 0 0] 42)) = w3 at HMB H3 HK3 HR3 hsz3 ⊢
  have hw2 : w.heap.size ≤ w2.heap.size := HB2.out.size
  have hr2 : r < w2.heap.size := HR2.out.lt
  have hd2 : d < w2.heap.size := H2.out.1.lt
  have ht2 : t < w2.heap.size := H2.out.2.1.lt
  clear H2 HR2 HB2 l4 f4 hmb0
  generalize w2.heap.size = mb at HMB hsz3 hw2 hr2 hd2 ht2 ⊢
  obtain ⟨B0, hB0⟩ : ∃ B0, B0 = mb + 1 := ⟨_, rfl⟩
  rw [← hB0] at hsz3
  have HB0 := Lib.hid (show mb < B0 ∧ r < B0 ∧ d < B0 ∧ t < B0 ∧ r ≠ mb ∧ d ≠ mb ∧ t ≠ mb ∧ w.heap.size ≤ mb ∧ w.heap.size ≤ B0 by omega)
  have H3H := Lib.hid H3
  have HMBH := Lib.hid HMB
  have HK3H := Lib.hid HK3
  have HR3H := Lib.hid HR3
  have HSZ3 := Lib.hid (Nat.le_of_eq hsz3.symm)
  have HRD := Lib.hid (And.intro hrd hrt)
  clear H3 HMB HK3 HR3 hsz3 hw2 hr2 hd2 ht2 hB0 hrd hrt
  go_cut [36] from 36 to 129 (fun _ wx => Scanned w d g t n mb B0 ag age last heard L T wx)
  case rest =>
    obtain ⟨f, k, ml, mv, ov, hdone, hbx, hmv, hov, hdk, hkp, hbs⟩ := hcut
    obtain ⟨b1, c1, rfl, hc1, hs1, hb1⟩ := hmv.sees hdone.2.2.2.2.2.1
    obtain ⟨b2, c2, rfl, hc2, hs2, hb2⟩ := hov.sees hdone.2.2.2.2.2.1
    clear H3H HMBH HK3H HR3H HSZ3 H HE hmv hov
    have l6 := hdk.l6
    have l2 := hdk.1.cell 2
    simp only [List.getElem?_toArray, List.getElem?_cons_zero, List.getElem?_cons_succ] at l2
    have f6 := hdk.1.free 6
    have f2 := hdk.1.free 2
    have hmd : mb ≠ d := fun e => HB0.out.2.2.2.2.2.1 e.symm
    have HBX := Lib.hid (Lit0.far (p := ⟨d, 2, none⟩) (hbx.far (p := ⟨d, 6, none⟩) hmd (.pointer (some ⟨mb, 0, none⟩))) hmd (.int .i64 0))
    have hg1 := grown_one wc d 6 (.pointer (some ⟨mb, 0, none⟩))
    have hg2 := grown_one (wc.setCell ⟨d, 6, none⟩ (.pointer (some ⟨mb, 0, none⟩))) d 2 (.int .i64 0)
    have HK := Lib.hid ((hkp.trans (Kept.grown hg1 (by simp))).trans (Kept.grown (bs := [d, t]) hg2 (by simp)))
    have HD := Lib.hid ((hdk.set6 (.pointer (some ⟨mb, 0, none⟩))).set2 0)
    have hb1d : d < b1 := Nat.lt_of_lt_of_le HB0.out.2.2.1 hb1
    have hb2d : d < b2 := Nat.lt_of_lt_of_le HB0.out.2.2.1 hb2
    have HS1 := Lib.hid (Sees.resize (Sees.far (p := ⟨d, 2, none⟩) (Sees.far (p := ⟨d, 6, none⟩) hs1 hb1d (.pointer (some ⟨mb, 0, none⟩))) hb1d (.int .i64 0)))
    have HS2 := Lib.hid (Sees.resize (Sees.far (p := ⟨d, 2, none⟩) (Sees.far (p := ⟨d, 6, none⟩) hs2 hb2d (.pointer (some ⟨mb, 0, none⟩))) hb2d (.int .i64 0)))
    clear hbx hkp hdk hs1 hs2 hg1 hg2 hb1d hb2d
    go_upto_region 17 with fail
    generalize (wc.setCell ⟨d, 6, none⟩ (.pointer (some ⟨mb, 0, none⟩))).setCell ⟨d, 2, none⟩ (.int .i64 0) = w5 at HBX HK HD HS1 HS2 ⊢
    have m0 := HBX.out.cell 0
    have m1 := HBX.out.cell 1
    have m2 := HBX.out.cell 2
    have m3 := HBX.out.cell 3
    have m4 := HBX.out.cell 4
    simp only [List.getElem?_toArray, List.getElem?_cons_zero, List.getElem?_cons_succ] at m0 m1 m2 m3 m4
    go_wp2_with fail
    refine (send_set d g t n b1 b2 ml c1 c2 ag 0 (last + 1) heard (last + 1) f _ _ (MkF L T f) (OnF L T f) w5 HD.out ⟨hdone.2.2.2.2.2.1, by have := hdone.2.2.2.2.2.2.1; omega⟩ hc1 hc2 HS1.out HS2.out).mono ?_
    rintro e w6 ⟨⟨v, rfl⟩, r6, cap, hcap, hdk6, ⟨mk, on, hmsg, hB1, hB2⟩, hr6, hgr⟩
    have HD6 := Lib.hid hdk6
    have HM6 := Lib.hid hmsg
    have HB6 := Lib.hid hB1
    have HB7 := Lib.hid hB2
    have HBX6 := Lib.hid (HBX.out.grown hgr (by simp; exact hmd))
    have HK6 := Lib.hid (HK.out.trans (Kept.grown hgr (by simp)))
    have HSZ := Lib.hid (Nat.le_trans HK.out.size hr6)
    clear hdk6 hmsg hB1 hB2 hgr hr6
    go_wp2_with fail
    refine bodyPost_ret (results_none rfl _ _ _) rfl ?_
    exact ⟨⟨_, rfl⟩, f, k, ml, mb, r6, cap, mk, on, _, _, hdone, hcap, HD6.out, HM6.out, HB6.out, HB7.out, HBX6.out, HB0.out.2.2.2.2.2.2.2.1, HSZ.out, HK6.out⟩
  case first =>
    go_wp2_with fail
    go_loopw [36] (fun v36 wr => ∃ (k : Nat) (F : Int) (ml : Nat) (mv ov : Value), k ≤ n ∧ v36 = .int .i64 k ∧ Hid (Scan (Dd L T) k F ml) ∧ Hid (Lit0 wr mb 42 #[.int .u8 1, .int .u32 (last + 1), .int .i64 F, mv, ov]) ∧ Hid (OwnB wr B0 mv ml (MkF L T F.toNat)) ∧ Hid (OwnB wr B0 ov ml (OnF L T F.toNat)) ∧ Hid (Apart mv ov) ∧
        Hid (Dk wr d g t n ag age (last + 1) heard (.pointer none) (.slice none 0 0) (toldTo L T k)) ∧ Hid (Row wr r 4 n (fun i => .bool (L i))) ∧ Hid (Kept w wr [d, t]) ∧ Hid (B0 ≤ wr.heap.size)) (fun v _ => n - (intOf v).toNat)
    case atStart => exact ⟨0, -1, 0, .slice none 0 0, .slice none 0 0, Nat.zero_le _, rfl, Lib.hid (.inl ⟨rfl, rfl, fun i hi => absurd hi (by omega)⟩), HMBH, Lib.hid (OwnB.nil _ _ _), Lib.hid (OwnB.nil _ _ _), Lib.hid (fun x hx => by simp [Value.ownBlock] at hx), H3H, HR3H, HK3H, HSZ3⟩
    case round =>
      obtain ⟨k, F, ml, mv, ov, hk, rfl, HSC, HBX, HMV, HOV, HAP, HDK, HROW, HKP, HBS⟩ := hrel
      clear H3H HMBH HK3H HR3H HSZ3
      by_cases hkn : k < n
      · have e1 : decide ((k : Int) < (n : Int)) = true := by simp; omega
        have e2 : decide (k < n) = true := by simpa using hkn
        have i0 : (0 : Int) ≤ (k : Int) := by omega
        have i1 : (k : Int) < (n : Int) := by omega
        have qr := HROW.out.cell hkn
        have qt := HDK.out.told hkn
        replace qr : wr.cell? ⟨r, k, none⟩ = some (.bool (L k)) := qr
        replace qt : wr.cell? ⟨t, k, none⟩ = some (.bool (T k)) := by rw [qt, toldTo, if_neg (by omega)]
        have qd := HDK.out.l3
        have b2 := HBX.out.cell 2
        have b3 := HBX.out.cell 3
        have b4 := HBX.out.cell 4
        have fb2 := HBX.out.free 2
        have fb3 := HBX.out.free 3
        have fb4 := HBX.out.free 4
        simp only [List.getElem?_toArray, List.getElem?_cons_zero, List.getElem?_cons_succ] at b2 b3 b4
        by_cases hfull : 0 ≤ F ∧ F + 32 ≤ (k : Int)
        · have t1 : decide ((0 : Int) ≤ F) = true := by simpa using hfull.1
          have v1 : IntKind.i64.wrap (F + 32) = F + 32 := by rw [IntKind.wrap_i64]; omega
          have t2 : decide (F + 32 ≤ (k : Int)) = true := by simpa using hfull.2
          go_wp2_with fail
          go_meet
          obtain ⟨f, rfl, hdone⟩ := HSC.out.done hk (.inr hfull)
          exact ⟨f, k, ml, mv, ov, hdone, HBX.out, HMV.out, HOV.out, HDK.out, HKP.out, HBS.out⟩
        · go_upto_region 7 with fail
          go_cut [36, 54] from 36 to 129 (fun v36 v54 wx => v36 = .int .i64 k ∧ v54 = .bool false ∧ wr = wx)
          case first =>
            rcases HSC.out with ⟨rfl, _, _⟩ | ⟨f, rfl, hx1, hx2, _⟩
            · go_wp2_with fail
              go_meet
              exact ⟨rfl, rfl, rfl⟩
            · have t1 : decide ((0 : Int) ≤ (f : Int)) = true := by simp
              have v1 : IntKind.i64.wrap ((f : Int) + 32) = (f : Int) + 32 := by rw [IntKind.wrap_i64]; omega
              have t2 : decide ((f : Int) + 32 ≤ (k : Int)) = false := by simp; omega
              go_wp2_with fail
              go_meet
              exact ⟨rfl, rfl, rfl⟩
          case rest =>
            obtain ⟨rfl, rfl, hw⟩ := hcut
            subst hw
            by_cases hD : Dd L T k = true
            · have hne : (L k == T k) = false := by unfold Dd at hD; simpa using hD
              go_upto_if 68 with fail
              go_cut [36] from 36 to 129 (fun v36 wx => v36 = .int .i64 k ∧ ∃ (f ml : Nat) (mv ov : Value), Mid (Dd L T) k f ml ∧ Grew wr wx B0 mb ml (.int .u8 1) (.int .u32 (last + 1)) (.int .i64 f) (MkF L T f) (OnF L T f) mv ov)
              case first =>
                rcases HSC.out with ⟨rfl, rfl, hno⟩ | ⟨f, rfl, h2, h3, h4, h5, h6, h7, h8, h9⟩
                · go_wp2_with fail
                  go_meet
                  exact ⟨rfl, k, 0, mv, ov, ⟨Nat.le_refl _, by omega, hD, hno, by omega, fun i hi hk => by omega⟩, ⟨HBX.out.set 2 _, HMV.out.set HB0.out.1 _, HOV.out.set HB0.out.1 _, HAP.out, (Up.refl _ _ _).set _⟩⟩
                · have t3 : decide ((f : Int) < 0) = false := by simp
                  go_wp2_with fail
                  go_meet
                  exact ⟨rfl, f, ml, mv, ov, ⟨by omega, by omega, h4, h5, h7, h9⟩, ⟨HBX.out, HMV.out, HOV.out, HAP.out, Up.refl _ _ _⟩⟩
              case rest =>
                obtain ⟨rfl, f, ml, mv, ov, hmid, hgrew⟩ := hcut
                have HMID := Lib.hid hmid
                have HG0 := Lib.hid hgrew
                have HDK0 := Lib.hid hD
                have hf1 : f ≤ k := hmid.1
                have hf2 : k < f + 32 := hmid.2.1
                have hml : f + ml ≤ k := hmid.2.2.2.2.1
                clear hmid hgrew b2 b3 b4 fb2 fb3 fb4 qr qt qd hfull HSC HBX HMV HOV HAP hD hne
                go_wp2_with fail
                go_loopw [73] (fun _ wx => ∃ (j : Nat) (mv ov : Value), ml ≤ j ∧ j ≤ k - f ∧ Hid (Grew wr wx B0 mb j (.int .u8 1) (.int .u32 (last + 1)) (.int .i64 f) (MkF L T f) (OnF L T f) mv ov)) (fun _ wx => k - f - maskLen wx mb)
                case atStart => exact ⟨ml, mv, ov, Nat.le_refl _, by omega, HG0⟩
                case round =>
                  obtain ⟨j, mw, ow, hj1, hj2, HIN⟩ := hrel
                  obtain ⟨Am, cm, rfl⟩ := HIN.out.m.form
                  obtain ⟨Ao, co, rfl⟩ := HIN.out.o.form
                  have HMW := Lib.hid (maskLen_lit HIN.out.box)
                  have c2 := HIN.out.box.cell 2
                  have c3 := HIN.out.box.cell 3
                  have c4 := HIN.out.box.cell 4
                  have fc3 := HIN.out.box.free 3
                  have fc4 := HIN.out.box.free 4
                  simp only [List.getElem?_toArray, List.getElem?_cons_zero, List.getElem?_cons_succ] at c2 c3 c4
                  have v1 : IntKind.i64.wrap ((k : Int) - (f : Int)) = (k : Int) - (f : Int) := by rw [IntKind.wrap_i64]; omega
                  by_cases hjk : j < k - f
                  · have u1 : decide ((j : Int) < (k : Int) - (f : Int)) = true := by simp; omega
                    go_wp2_with fail
                    go_quiet (fail)
                    go_wp2_with fail
                    have HDUO := Lib.hid (Duo.mk (w0 := wr.drewN nq) (Up.refl _ B0 mb) (Lit0.drewN HIN.out.box nq) (own_drewN HIN.out.m nq) (own_drewN HIN.out.o nq))
                    have HUPW := Lib.hid (up_drewN HIN.out.up nq)
                    have HAPW := Lib.hid HIN.out.apart
                    clear HIN fc3 fc4 c2 c3 c4
                    generalize wr.drewN nq = wA at HDUO HUPW ⊢
                    have HBA := Lib.hid (Nat.le_trans HBS.out HUPW.out.size)
                    have HMBB := Lib.hid HB0.out.1
                    have HPF : Hid (false = MkF L T f j ∧ false = OnF L T f j) := by
                      have := HMID.out.2.2.2.2.2 (f + j) (by omega) (by omega)
                      unfold OnF MkF
                      rw [this]
                      exact Lib.hid ⟨rfl, rfl⟩
                    refine Qn.to ?_
                    refine push12 _ _ _ _ _ _ _ _ _ _ _ _ _ _ _ _ _ _ _ _ _ _ _ _ _ _ _ _ _ _ _ _ _ _ _ _ _ _ _ _ _ _ _ _ _ _ _ _ _ _ _ _ _ _ _ _ _ _ _ _ _ _ _ _ _ _ _ _ _ _ _ _ _ _ _ _ _ _ _ _ _ _ _ _ _ _ _ _ _ _ _ _ _ _ _ _ _ _ _ _ _ _ _ _ _ _ _ _ _ _ _ _ _ _ _ _ _ _ _ _ _ _ _ _ _ _ _ _ _ _ _ _ _ _ _ _ _ _ _ _ _ _ wA B0 mb j cm co Am Ao _ _ _ (MkF L T f) (OnF L T f) HDUO HAPW HBA HMBB (by omega) HPF (Lib.hid ?_)
                    intro _ _ _ _ _ _ _ _ _ _ _ _ _ _ _ _ _ _ g2 cap2 g4 cap4 wS HS
                    have hm1 := maskLen_lit HS.out.box
                    clear HDUO HPF
                    go_wp2_with fail
                    refine ⟨⟨j + 1, .slice (some ⟨g2, 0, none⟩) (j + 1) cap2, .slice (some ⟨g4, 0, none⟩) (j + 1) cap4, (by omega), (by omega), Lib.hid (HS.out.from HUPW.out)⟩, (by rw [hm1, HMW.out]; omega)⟩
                  · have u1 : decide ((j : Int) < (k : Int) - (f : Int)) = false := by simp; omega
                    go_wp2_with fail
                    go_quiet (fail)
                    go_wp2_with fail
                    have HDUO := Lib.hid (Duo.mk (w0 := wr.drewN nq) (Up.refl _ B0 mb) (Lit0.drewN HIN.out.box nq) (own_drewN HIN.out.m nq) (own_drewN HIN.out.o nq))
                    have HUPW := Lib.hid (up_drewN HIN.out.up nq)
                    have HAPW := Lib.hid HIN.out.apart
                    clear HIN fc3 fc4 c2 c3 c4
                    generalize wr.drewN nq = wA at HDUO HUPW ⊢
                    have HBA := Lib.hid (Nat.le_trans HBS.out HUPW.out.size)
                    have HMBB := Lib.hid HB0.out.1
                    have hj : f + j = k := by omega
                    have HPF : Hid (true = MkF L T f j ∧ L k = OnF L T f j) := by
                      unfold OnF MkF
                      rw [hj, HDK0.out]
                      exact Lib.hid ⟨rfl, by simp⟩
                    refine Qn.to ?_
                    refine push13 _ _ _ _ _ _ _ _ _ _ _ _ _ _ _ _ _ _ _ _ _ _ _ _ _ _ _ _ _ _ _ _ _ _ _ _ _ _ _ _ _ _ _ _ _ _ _ _ _ _ _ _ _ _ _ _ _ _ _ _ _ _ _ _ _ _ _ _ _ _ _ _ _ _ _ _ _ _ _ _ _ _ _ _ _ _ _ _ _ _ _ _ _ _ _ _ _ _ _ _ _ _ _ _ _ _ _ _ _ _ _ _ _ _ _ _ _ _ _ _ _ _ _ _ _ _ _ _ _ _ _ _ _ _ _ _ _ _ _ _ _ wA B0 mb j cm co Am Ao _ _ _ (MkF L T f) (OnF L T f) (L k) HDUO HAPW HBA HMBB (by omega) HPF (Lib.hid ?_)
                    intro _ _ _ _ _ _ _ _ _ _ _ _ _ _ _ _ _ _ _ g2 cap2 g4 cap4 wS HS
                    clear HDUO HPF
                    have HU := Lib.hid (HUPW.out.trans HS.out.up)
                    have HD5 := Lib.hid (HU.out.dk HDK.out HB0.out.2.2.1 HB0.out.2.2.2.1 HB0.out.2.2.2.2.2.1 HB0.out.2.2.2.2.2.2.1)
                    have HR5 := Lib.hid (HU.out.row HROW.out HB0.out.2.1 HB0.out.2.2.2.2.1)
                    have HK5 := Lib.hid (HKP.out.up HU.out HB0.out.2.2.2.2.2.2.2.2 HB0.out.2.2.2.2.2.2.2.1)
                    have HZ5 := Lib.hid (Nat.le_trans HBS.out HU.out.size)
                    have q3 := HD5.out.l3
                    have qt := HD5.out.told hkn
                    have ft := HD5.out.2.1.free k
                    go_wp2_with fail
                    refine ⟨⟨k + 1, f, j + 1, .slice (some ⟨g2, 0, none⟩) (j + 1) cap2, .slice (some ⟨g4, 0, none⟩) (j + 1) cap4, (by omega), rfl, Lib.hid ?_, Lib.hid (HS.out.box.far (by exact fun e => HB0.out.2.2.2.2.2.2.1 e.symm) _), Lib.hid (HS.out.m.set HB0.out.2.2.2.1 _), Lib.hid (HS.out.o.set HB0.out.2.2.2.1 _), Lib.hid HS.out.apart, Lib.hid (HD5.out.tell hkn), Lib.hid (HR5.out.far (by exact HRD.out.2) _), Lib.hid (HK5.out.trans (Kept.grown (grown_one _ t k _) (by simp))), Lib.hid (by rw [World.size_setCell]; exact HZ5.out)⟩, (by show n - (k + 1) < n - k; omega)⟩
                    have he : j + 1 = k - f + 1 := by omega
                    rw [he]
                    exact HMID.out.scan HDK0.out
            · have hne : (L k == T k) = true := by unfold Dd at hD; simpa using hD
              go_wp2_with fail
              have hD2 : Dd L T k = false := by simpa using hD
              exact ⟨⟨k + 1, F, ml, mv, ov, by omega, rfl, Lib.hid (HSC.out.same hfull hD2), HBX, HMV, HOV, HAP, Lib.hid (by rw [toldTo_same hD2]; exact HDK.out), HROW, HKP, HBS⟩, by show n - (k + 1) < n - k; omega⟩
      · have e1 : decide ((k : Int) < (n : Int)) = false := by simp; omega
        have e2 : decide (k < n) = false := by simpa using hkn
        go_wp2_with fail
        go_meet
        have hkn' : k = n := by omega
        have hex : ∃ i, i < n ∧ Dd L T i = true := by
          rcases Nat.lt_or_ge 0 1 with _ | _
          · refine Classical.byContradiction fun hno => ?_
            have : eqTo L T n = true := (eqTo_iff L T n).2 fun i hi => by
              refine Classical.byContradiction fun hne => hno ⟨i, hi, ?_⟩
              unfold Dd
              simpa using hne
            rw [HE.out] at this
            cases this
          · omega
        obtain ⟨f, rfl, hdone⟩ := HSC.out.done hk (.inl ⟨hex, hkn'⟩)
        exact ⟨f, k, ml, mv, ov, hdone, HBX.out, HMV.out, HOV.out, HDK.out, HKP.out, HBS.out⟩
end Go.Proofs.YtdjephmkpebnhaaDoor
