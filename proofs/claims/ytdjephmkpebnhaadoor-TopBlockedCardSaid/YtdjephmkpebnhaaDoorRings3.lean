/- A side: Dial and State. -/
import Derived.Test.YtdjephmkpebnhaaDoorRings2
import Derived.Test.YtdjephmkpebnhaaDoorDigits
import Derived.StillTailTactics
import Derived.Maps.RangeWalk
import Derived.Maps.Views
namespace Go.Proofs.YtdjephmkpebnhaaDoor
open Go.RowKit
open Go.Maps (Keyed)

/-- A call's pointer as a value and as a datum. -/
def ptrV (q : Option Nat) : Value := .pointer (q.map fun b => ⟨b, 0, none⟩)
def ptrD (q : Option Nat) : DataW Unit := .lit (.int .i64 (match q with | some b => (b : Int) | none => -1))

theorem ptrV_inj {p q : Option Nat} (h : ptrV p = ptrV q) : p = q := by
  cases p <;> cases q <;> simp [ptrV] at h <;> simp [h]

theorem ptrD_inj {p q : Option Nat} (h : ptrD p = ptrD q) : p = q := by
  unfold ptrD at h
  injection h with h
  injection h with h1 h
  cases p with
  | none => cases q with
    | none => rfl
    | some b =>
      exfalso
      have : (-1 : Int) = (b : Int) := h
      omega
  | some a => cases q with
    | none =>
      exfalso
      have : (a : Int) = -1 := h
      omega
    | some b =>
      have : (a : Int) = (b : Int) := h
      have : a = b := by omega
      rw [this]

/-- How an element reads. -/
noncomputable def ptrR (v : Value) : Option (DataW Unit × List MemPlace) :=
  open Classical in if h : ∃ p : Option Nat, v = ptrV p then some (ptrD h.choose, []) else none

theorem ptrR_of (p : Option Nat) : ptrR (ptrV p) = some (ptrD p, []) := by
  have h : ∃ q : Option Nat, ptrV p = ptrV q := ⟨p, rfl⟩
  unfold ptrR
  rw [dif_pos h]
  rw [← ptrV_inj h.choose_spec]

theorem ptrR_inv {v : Value} {y : DataW Unit × List MemPlace} (h : ptrR v = some y) : ∃ p, v = ptrV p ∧ y = (ptrD p, []) := by
  unfold ptrR at h
  split at h
  · rename_i hp
    injection h with h
    exact ⟨hp.choose, hp.choose_spec, h.symm⟩
  · cases h

theorem under3 : Tryd.prog.underlying 3 = some (.int .i64) := by kernel_rfl
theorem under79 : Tryd.prog.underlying 79 = some (.map 3 85) := by kernel_rfl
theorem keyed3 : Keyed Tryd.prog 3 := Go.Maps.int_keyed under3
theorem zero85 (w : World) : (zeroValue 85).run Tryd.prog w = .ok (ptrV none) w := by kernel_rfl
theorem key3 : keyOf Tryd.prog 3 (.int .i64 1) = some (.int .i64 1) := by
  have hw : (Lit.int .i64 1).wf = true := by decide
  simp [keyOf, mapKey, hw]

theorem map_lookup {w : World} {m n q : Nat} (h : w.ownsMap Tryd.prog 3 ptrR m n ((DataW.map []).put (.int .i64 1) (ptrD (some q)))) :
    (Instr.lookup 79 (.map (some m)) (.int .i64 1) false).run Tryd.prog w = .ok (.pointer (some ⟨q, 0, none⟩)) w := by
  obtain ⟨v, ps, hrun, hv⟩ := h.lookup keyed3 under79 (zero85 w) (ptrR_of none) key3
  obtain ⟨p, rfl, hp⟩ := ptrR_inv hv
  simp only [Prod.mk.injEq] at hp
  have hat := Maps.atKey_put_same (D := (DataW.map [] : DataW Unit)) Maps.isMap_empty (keyed3.key key3) (ptrD (some q)) (ptrD none)
  rw [hrun]
  rw [hat] at hp
  rw [← ptrD_inj hp.1]
  rfl

/-- A side with one call. -/
def Dialed (w : World) (s g m q : Nat) : Prop :=
  (∃ out, Sd w s g m 1 out) ∧ w.ownsMap Tryd.prog 3 ptrR m 1 ((DataW.map []).put (.int .i64 1) (ptrD (some q))) ∧ w.cell? ⟨q, 0, none⟩ = some (.int .u8 1)

theorem state_any (s g m q : Nat) (w : World) (h : Dialed w s g m q) : Calls Tryd.prog 15 #[.pointer (some ⟨s, 0, none⟩), .int .i64 1] w (fun e w' => e = .returned (.int .u8 1) ∧ w = w') := by
  obtain ⟨⟨out, h1⟩, h2, h3⟩ := h
  have HN := Lib.hid (sdnone_any s g m 1 out w h1)
  have hlk := map_lookup h2
  have c5 := Lit0.cell h1 5
  simp only [List.getElem?_toArray, List.getElem?_cons_zero, List.getElem?_cons_succ] at c5
  clear h1 h2
  go_enter Tryd.func15, Tryd.ntmps15
  go_wp2_with fail
  refine HN.out.mono ?_
  rintro e w' ⟨rfl, rfl⟩
  go_wp2_with fail
  go_ret
  exact ⟨rfl, rfl⟩

/-- What Dial leaves. -/
def RetDial (w : World) (s g m c : Nat) (e : Ending) (w' : World) : Prop :=
  e = .returned (.tuple #[.int .i64 1, .int .i64 0]) ∧ ∃ q, Dialed w' s g m q ∧ Grp w' g c 2 1 1 (upd zeros 0 1) zeros (upd zeros 0 1) ∧ Kept w w' [s, c, m]

set_option maxRecDepth 100000 in
set_option maxHeartbeats 4000000 in
theorem dial_any (s g m c : Nat) (w : World) (h : Sd w s g m 0 (.slice none 0 0)) (hG : Grp w g c 2 1 1 zeros zeros zeros) (hm : w.ownsMap Tryd.prog 3 ptrR m 0 (.map [])) (hne : g < m ∧ c < m ∧ m < s ∧ g ≠ c) :
    Calls Tryd.prog 14 #[.pointer (some ⟨s, 0, none⟩), .string ⟨#[49]⟩, .string ⟨#[50]⟩] w (RetDial w s g m c) := by
  have HN := Lib.hid (sdnone_any s g m 0 _ w h)
  have HNA := Lib.hid (fun w => number_one 49 (.inl rfl) w)
  have HNB := Lib.hid (fun w => number_one 50 (.inr rfl) w)
  have H := Lib.hid h
  have HG := Lib.hid hG
  have HM := Lib.hid hm
  have HNE := Lib.hid hne
  clear h hG hm hne
  go_enter Tryd.func14, Tryd.ntmps14
  go_wp2_with fail
  refine HN.out.mono ?_
  rintro e w' ⟨rfl, rfl⟩
  go_wp2_with fail
  refine (HNA.out _).mono ?_
  rintro e w1 ⟨rfl, hb1⟩
  have HB1 := Lib.hid hb1
  clear hb1
  go_wp2_with fail
  refine (HNB.out _).mono ?_
  rintro e w2 ⟨rfl, hb2⟩
  have HB2 := Lib.hid (HB1.out.trans (hb2.mono HB1.out.size))
  have H2 := Lib.hid (H.out.kept HB2.out)
  have HG2 := Lib.hid (HG.out.kept HB2.out)
  have HM2 := Lib.hid (HM.out.kept (row := none) (grown_below HB2.out none) (by simp))
  clear hb2 HB1 HN HNA HNB H HG HM
  go_upto_region 5 with fail
  have c3 := Lit0.cell H2.out 3
  have c6 := Lit0.cell H2.out 6
  simp only [List.getElem?_toArray, List.getElem?_cons_zero, List.getElem?_cons_succ] at c3 c6
  have HHU := Lib.hid (hunt_any g c 2 1 1 zeros zeros zeros 1 w2.drew (HG2.out.drewN 1) (by omega) (fun i hi => by simp [zeros]) (by omega))
  have HNO := Lib.hid (show ¬ ∀ i, i < 1 → freeC (zeros i) (zeros i) = false from fun h => absurd (h 0 (by omega)) (by decide))
  have hsc : s ≠ c := by have := HNE.out; omega
  have hmc : m ≠ c := by have := HNE.out; omega
  go_cut [8, 9] from 8 to 34 (fun v8 v9 wx => v8 = .int .i64 0 ∧ v9 = .int .i64 0 ∧ Sd wx s g m 0 (.slice none 0 0) ∧ wx.ownsMap Tryd.prog 3 ptrR m 0 (.map []) ∧ Grp wx g c 2 1 1 (upd zeros 0 1) zeros (upd zeros 0 1) ∧ Kept w wx [s, c, m])
  case first =>
    go_region_with (go_at_call 11; refine HHU.out.mono ?_; rintro e w3 (⟨hno, _⟩ | ⟨b, hb, hfr, rfl, hG3, hgr3⟩); (exact absurd hno HNO.out))
    all_goals
      obtain rfl : b = 0 := by omega
      have H3 := Lib.hid (show Sd w3 s g m 0 (.slice none 0 0) from Lit0.grown (Lit0.drewN H2.out 1) hgr3 (by simpa using hsc))
      have HM3 := Lib.hid (show w3.ownsMap Tryd.prog 3 ptrR m 0 (.map []) from World.ownsMap.kept (w := w2.drew) HM2.out hgr3 (by simpa using hmc))
      have HG3 := Lib.hid hG3
      have HK3 := Lib.hid (((Kept.below (bs := [s, c, m]) HB2.out).drewN 1).trans (Kept.grown (bs := [s, c, m]) hgr3 (by simp)))
      clear hG3 hgr3 hfr hb
      go_wp2_with fail
      go_meet
      exact ⟨rfl, rfl, H3.out, HM3.out, HG3.out, HK3.out⟩
  case rest =>
    obtain ⟨rfl, rfl, h3, hm3, hg3, hk3⟩ := hcut
    have H3 := Lib.hid h3
    have HM3 := Lib.hid hm3
    have HG3 := Lib.hid hg3
    have HK3 := Lib.hid hk3
    clear h3 hm3 hg3 hk3 H2 HG2 HM2 HB2 c3 c6 HHU HNO
    have c6 := Lit0.cell H3.out 6
    simp only [List.getElem?_toArray, List.getElem?_cons_zero, List.getElem?_cons_succ] at c6
    have f6 := Lit0.free H3.out 6
    go_upto_region 9 with fail
    have H4 := Lib.hid (show Sd (wc.setCell ⟨s, 6, none⟩ (.int .i64 1)) s g m 1 (.slice none 0 0) from Lit0.set H3.out 6 _)
    have hg0 := grown_one wc s 6 (.int .i64 1)
    have HM4 := Lib.hid (World.ownsMap.kept HM3.out hg0 (by have := HNE.out; simp; omega))
    have HG4 := Lib.hid ((Kept.grown (bs := [s]) hg0 (by simp)).grp HG3.out (by have := HNE.out; simp; omega) (by simp; exact fun h => hsc h.symm))
    have HK4 := Lib.hid (HK3.out.trans (Kept.grown (bs := [s, c, m]) hg0 (by simp)))
    clear c6 f6 hg0 H3 HM3 HG3 HK3
    generalize wc.setCell ⟨s, 6, none⟩ (.int .i64 1) = w4 at H4 HM4 HG4 HK4 ⊢
    have c5 := Lit0.cell H4.out 5
    have c6 := Lit0.cell H4.out 6
    simp only [List.getElem?_toArray, List.getElem?_cons_zero, List.getElem?_cons_succ] at c5 c6
    have hs4 : s < w4.heap.size := Lit0.lt H4.out
    go_cut [45] from 45 to 57 (fun _ wx => (∃ q, wx.ownsMap Tryd.prog 3 ptrR m 1 ((DataW.map []).put (.int .i64 1) (ptrD (some q))) ∧ wx.cell? ⟨q, 0, none⟩ = some (.int .u8 1) ∧ w4.heap.size ≤ q ∧ q < wx.heap.size) ∧ Sd wx s g m 1 (.slice none 0 0) ∧ Grp wx g c 2 1 1 (upd zeros 0 1) zeros (upd zeros 0 1) ∧ Kept w wx [s, c, m])
    case first =>
      have hown5 : ((w4.alloc (.cells #[.int .u8 1, .int .i64 0, .int .i64 0, .string ⟨#[49]⟩, .string ⟨#[50]⟩, .int .u8 0] 87)).drew).ownsMap Tryd.prog 3 ptrR m 0 (.map []) := World.ownsMap.alloc HM4.out _
      obtain ⟨w6, hrun6, hown6, hgrow6⟩ := hown5.update keyed3 under79 (by unfold maxLen; omega) key3 (ptrR_of (some w4.heap.size))
      change (Instr.mapUpdate 79 (.map (some m)) (.int .i64 1) (.pointer (some ⟨w4.heap.size, 0, none⟩))).run Tryd.prog _ = _ at hrun6
      have HO6 := Lib.hid hown6
      have HGR6 := Lib.hid hgrow6
      clear hown5 hown6 hgrow6
      go_region
      all_goals
        go_wp2_with fail
        go_meet
        have hm4 : m < w4.heap.size := by have := HNE.out; omega
        have hq := Lit0.drew ((Lit0.new w4 87 #[.int .u8 1, .int .i64 0, .int .i64 0, .string ⟨#[49]⟩, .string ⟨#[50]⟩, .int .u8 0]))
        have hgw := grown_trans (grown_drew (grown_alloc (grown_refl w4 _) (.cells #[.int .u8 1, .int .i64 0, .int .i64 0, .string ⟨#[49]⟩, .string ⟨#[50]⟩, .int .u8 0] 87))) HGR6.out
        have hq6 := Lit0.grown hq HGR6.out (by simp; omega)
        refine ⟨⟨w4.heap.size, HO6.out, hq6.cell 0, Nat.le_refl _, hq6.lt⟩, Lit0.grown H4.out hgw (by have := HNE.out; simp; omega), (Kept.grown (bs := [m]) hgw (by simp)).grp HG4.out (by have := HNE.out; simp; omega) (by simp; exact fun h => hmc h.symm), HK4.out.trans (Kept.grown (bs := [s, c, m]) hgw (by simp))⟩
    case rest =>
      obtain ⟨⟨q, hown5, hq5, hq6, hq7⟩, hsd5, hg5, hk5⟩ := hcut
      have HM5 := Lib.hid hown5
      have HG5 := Lib.hid hg5
      have HK5 := Lib.hid hk5
      have HQ5 := Lib.hid hq5
      have H5 := Lib.hid hsd5
      clear hown5 hg5 hk5 hsd5 hq5 c5 c6 H4 HM4 HG4 HK4
      go_wp2_with fail
      refine (sdsend_any s g m 1 0 _ H5.out).mono ?_
      rintro e w7 ⟨⟨v, rfl⟩, ⟨out, hsd7⟩, hgr7⟩
      have hmw : m < wc.heap.size := by have := HNE.out; have := H5.out.lt; omega
      have hk7 := Kept.grown (bs := [s]) hgr7 (by simp)
      have HM7 := Lib.hid (World.ownsMap.kept HM5.out hgr7 (by have := HNE.out; simp; omega))
      have HG7 := Lib.hid (hk7.grp HG5.out (by have := HNE.out; simp; omega) (by simp; exact fun h => hsc h.symm))
      have HQ7 := Lib.hid (hk7.cell HQ5.out (by simp; omega))
      have HK7 := Lib.hid (HK5.out.trans (hk7.more (cs := [s, c, m]) (by simp)))
      have HS7 := Lib.hid hsd7
      have c6 := Lit0.cell hsd7 6
      simp only [List.getElem?_toArray, List.getElem?_cons_zero, List.getElem?_cons_succ] at c6
      clear hgr7 hk7 hsd7
      go_wp2_with fail
      go_ret2
      exact ⟨rfl, q, ⟨⟨out, HS7.out⟩, HM7.out, HQ7.out⟩, HG7.out, HK7.out⟩
end Go.Proofs.YtdjephmkpebnhaaDoor
