/- The flow control: Tick, Sends, New, perform. -/
import Derived.Test.YtbcalbkficbppaaFlow2
namespace Go.Proofs.Ytbcalbkficbppaa
open Go.RowKit

/-- The ticks since the congestion began, a tick later. -/
def nextSi (ag si : Int) : Int := if si + 1 = ag then 0 else si + 1

/-- A tick's last part, behind the count. -/
theorem tick_tail (ou fa : Bool) (b : Bool) (wt : Int) : (b || (!(ou || fa) && late wt)) = (if ou || fa then b else late wt || b) := by
  cases ou <;> cases fa <;> cases b <;> cases late wt <;> rfl

set_option maxHeartbeats 1000000 in
theorem tick_any (g : Nat) (s : Fs) (w : World) (h : Fl w g s) (hok : s.ok) :
    Calls Try.prog 14 #[.pointer (some ⟨g, 0, none⟩)] w (RetStep w g (if s.fd then 6 else 0) (if s.fd then s else s.tick)) := by
  obtain ⟨ag, mo, wa, co, si, ou, fa, bu, wt, fd⟩ := s
  have c0 := h.cell 0
  have c1 := h.cell 1
  have c2 := h.cell 2
  have c3 := h.cell 3
  have c4 := h.cell 4
  have c5 := h.cell 5
  have c6 := h.cell 6
  have c7 := h.cell 7
  have c8 := h.cell 8
  have c9 := h.cell 9
  have fr : ∀ j, w.frozen? ⟨g, j, none⟩ = false := fun j => h.free j
  simp only [Fs.cells, List.getElem?_toArray, List.getElem?_cons_zero, List.getElem?_cons_succ] at c0 c1 c2 c3 c4 c5 c6 c7 c8 c9
  have hst := state_any g _ w h hok.1.1
  have HST := Lib.hid hst
  have H := Lib.hid h
  have HOK := Lib.hid hok
  clear hst h hok
  have f4 := fr 4
  clear fr
  cases fd
  · have hsi : 0 ≤ si ∧ si < ag ∧ ag ≤ 1048576 := ⟨HOK.out.2.2.2.1.1, HOK.out.2.2.2.1.2, HOK.out.1.2⟩
    obtain ⟨WT, hWT⟩ : ∃ WT, WT = if (ou || fa) = true then wt else down wt := ⟨_, rfl⟩
    obtain ⟨FD, hFD⟩ : ∃ FD, FD = if (ou || fa) = true then late bu else late wt || late bu := ⟨_, rfl⟩
    obtain ⟨NS, hNS⟩ : ∃ NS, NS = nextSi ag si := ⟨_, rfl⟩
    have bNS : 0 ≤ NS ∧ NS < ag := by rw [hNS]; unfold nextSi; split <;> omega
    have hs : Fs.tick ⟨ag, mo, wa, co, si, ou, fa, bu, wt, false⟩ = ⟨ag, mo, wa, co, NS, ou, fa, down bu, WT, FD⟩ := by
      rw [hWT, hFD, hNS]
      unfold Fs.tick nextSi
      simp only [tick_tail]
    rw [if_neg (by simp), if_neg (by simp), hs]
    clear hs
    by_cases hag : si + 1 = ag
    · have d1 : (si + 1 == ag) = true := by simpa using hag
      have hNS0 : NS = 0 := by rw [hNS]; unfold nextSi; rw [if_pos hag]
      have HNS := Lib.hid hNS0
      have HWT0 := Lib.hid hWT
      have HFD0 := Lib.hid hFD
      clear hNS hag hNS0 hWT hFD
      go_enter Try.func14, Try.ntmps14
      go_wp2_with fail
      refine HST.out.mono ?_
      rintro e w' ⟨rfl, rfl⟩
      have H1 : Hid (Fl (w.setCell ⟨g, 4, none⟩ (.int .i64 (si + 1))) g ⟨ag, mo, wa, co, si + 1, ou, fa, bu, wt, false⟩) := Lib.hid (H.out.set4 (si + 1))
      have x0 : (w.setCell ⟨g, 4, none⟩ (.int .i64 (si + 1))).cell? ⟨g, 0, none⟩ = some (.int .i64 ag) := H1.out.cell 0
      have x4 : (w.setCell ⟨g, 4, none⟩ (.int .i64 (si + 1))).cell? ⟨g, 4, none⟩ = some (.int .i64 (si + 1)) := H1.out.cell 4
      have y4 : (w.setCell ⟨g, 4, none⟩ (.int .i64 (si + 1))).frozen? ⟨g, 4, none⟩ = false := H1.out.free 4
      go_wp2_with fail
      go_quiet (fail)
      have v4 : ((w.setCell ⟨g, 4, none⟩ (.int .i64 (si + 1))).drewN nq).cell? ⟨g, 4, none⟩ = some (.int .i64 (si + 1)) := x4
      have u4 : ((w.setCell ⟨g, 4, none⟩ (.int .i64 (si + 1))).drewN nq).frozen? ⟨g, 4, none⟩ = false := y4
      go_wp2_with fail
      have hx : Fl (((w.setCell ⟨g, 4, none⟩ (.int .i64 (si + 1))).drewN nq).setCell ⟨g, 4, none⟩ (.int .i64 0)) g ⟨ag, mo, wa, co, NS, ou, fa, bu, wt, false⟩ := by
        rw [HNS.out]
        exact (H1.out.drewN nq).set4 0
      have hgx : w.grownBy (((w.setCell ⟨g, 4, none⟩ (.int .i64 (si + 1))).drewN nq).setCell ⟨g, 4, none⟩ (.int .i64 0)) (some g) := grown_trans (grown_drewN (grown_one w g 4 _) nq) (grown_one _ g 4 _)
      generalize (((w.setCell ⟨g, 4, none⟩ (.int .i64 (si + 1))).drewN nq).setCell ⟨g, 4, none⟩ (.int .i64 0)) = X at hx hgx ⊢
      have HX := Lib.hid hx
      have HG := Lib.hid hgx
      have hWT := HWT0.out
      have hFD := HFD0.out
      clear hx hgx x0 x4 y4 v4 u4 c0 c1 c2 c3 c4 c5 c6 c7 c8 c9 f4 H1 HST
      have X7 : X.cell? ⟨g, 7, none⟩ = some (.int .i64 bu) := HX.out.cell 7
      have PB := Lib.hid (passed_bu g _ X HX.out (by have := HOK.out; unfold Fs.ok at this ⊢; simp only at this ⊢; omega))
      clear X7
      refine PB.out.mono ?_
      rintro e X2 ⟨rfl, hx2, hg2⟩
      have HX2 := Lib.hid hx2
      have HG2 := Lib.hid (grown_trans HG.out hg2)
      have z5 : X2.cell? ⟨g, 5, none⟩ = some (.bool ou) := hx2.cell 5
      have z6 : X2.cell? ⟨g, 6, none⟩ = some (.bool fa) := hx2.cell 6
      have z9 : X2.frozen? ⟨g, 9, none⟩ = false := hx2.free 9
      clear hx2 hg2 PB HX HG
      obtain ⟨B, hB⟩ : ∃ B, B = late bu := ⟨_, rfl⟩
      rw [← hB] at hFD ⊢
      have HBB := Lib.hid hB
      clear hB
      cases ou
      · cases fa
        · have PW := Lib.hid (passed_wt g _ X2 HX2.out (by have := HOK.out; unfold Fs.ok at this ⊢; simp only at this ⊢; unfold down; split <;> omega))
          have hWT' : WT = down wt := hWT
          have hFD' : FD = (late wt || B) := hFD
          clear hWT hFD
          obtain ⟨L, hL⟩ : ∃ L, L = late wt := ⟨_, rfl⟩
          rw [← hL] at hFD'
          have HL := Lib.hid hL
          have HWT := Lib.hid hWT'
          have HFD := Lib.hid hFD'
          clear hL hWT' hFD'
          go_wp2_with fail
          refine PW.out.mono ?_
          rintro e X3 ⟨rfl, hx3, hg3⟩
          have HX3 := Lib.hid hx3
          have HG3 := Lib.hid (grown_trans HG2.out hg3)
          have z9' : X3.frozen? ⟨g, 9, none⟩ = false := hx3.free 9
          have z9'' : X3.cell? ⟨g, 9, none⟩ = some (.bool false) := hx3.cell 9
          clear hx3 hg3 z5 z6 z9
          simp only [← HL.out]
          cases L
          all_goals
            go_wp2_with fail
            go_ret
            refine ⟨rfl, ?_, grown_trans HG3.out (grown_one _ _ _ _)⟩
            rw [HWT.out, HFD.out]
            exact HX3.out.set9 _
        · have HWT : Hid (WT = wt) := Lib.hid hWT
          have HFD : Hid (FD = B) := Lib.hid hFD
          clear hWT hFD
          have z9'' : X2.cell? ⟨g, 9, none⟩ = some (.bool false) := HX2.out.cell 9
          go_wp2_with fail
          go_ret
          refine ⟨rfl, ?_, grown_trans HG2.out (grown_one _ _ _ _)⟩
          rw [HWT.out, HFD.out]
          exact HX2.out.set9 _
      · have HWT : Hid (WT = wt) := Lib.hid hWT
        have HFD : Hid (FD = B) := Lib.hid hFD
        clear hWT hFD
        have z9'' : X2.cell? ⟨g, 9, none⟩ = some (.bool false) := HX2.out.cell 9
        go_wp2_with fail
        go_ret
        refine ⟨rfl, ?_, grown_trans HG2.out (grown_one _ _ _ _)⟩
        rw [HWT.out, HFD.out]
        exact HX2.out.set9 _
    · have d1 : (si + 1 == ag) = false := by simpa using hag
      have hNS0 : NS = si + 1 := by rw [hNS]; unfold nextSi; rw [if_neg hag]
      have HNS := Lib.hid hNS0
      have HWT0 := Lib.hid hWT
      have HFD0 := Lib.hid hFD
      clear hNS hag hNS0 hWT hFD
      go_enter Try.func14, Try.ntmps14
      go_wp2_with fail
      refine HST.out.mono ?_
      rintro e w' ⟨rfl, rfl⟩
      have H1 : Hid (Fl (w.setCell ⟨g, 4, none⟩ (.int .i64 (si + 1))) g ⟨ag, mo, wa, co, si + 1, ou, fa, bu, wt, false⟩) := Lib.hid (H.out.set4 (si + 1))
      have x0 : (w.setCell ⟨g, 4, none⟩ (.int .i64 (si + 1))).cell? ⟨g, 0, none⟩ = some (.int .i64 ag) := H1.out.cell 0
      have x4 : (w.setCell ⟨g, 4, none⟩ (.int .i64 (si + 1))).cell? ⟨g, 4, none⟩ = some (.int .i64 (si + 1)) := H1.out.cell 4
      go_wp2_with fail
      go_quiet (fail)
      go_wp2_with fail
      have hx : Fl ((w.setCell ⟨g, 4, none⟩ (.int .i64 (si + 1))).drewN nq) g ⟨ag, mo, wa, co, NS, ou, fa, bu, wt, false⟩ := by
        rw [HNS.out]
        exact H1.out.drewN nq
      have hgx : w.grownBy ((w.setCell ⟨g, 4, none⟩ (.int .i64 (si + 1))).drewN nq) (some g) := grown_drewN (grown_one w g 4 _) nq
      generalize (w.setCell ⟨g, 4, none⟩ (.int .i64 (si + 1))).drewN nq = X at hx hgx ⊢
      have HX := Lib.hid hx
      have HG := Lib.hid hgx
      have hWT := HWT0.out
      have hFD := HFD0.out
      clear hx hgx x0 x4 c0 c1 c2 c3 c4 c5 c6 c7 c8 c9 f4 H1 HST
      have X7 : X.cell? ⟨g, 7, none⟩ = some (.int .i64 bu) := HX.out.cell 7
      have PB := Lib.hid (passed_bu g _ X HX.out (by have := HOK.out; unfold Fs.ok at this ⊢; simp only at this ⊢; omega))
      clear X7
      refine PB.out.mono ?_
      rintro e X2 ⟨rfl, hx2, hg2⟩
      have HX2 := Lib.hid hx2
      have HG2 := Lib.hid (grown_trans HG.out hg2)
      have z5 : X2.cell? ⟨g, 5, none⟩ = some (.bool ou) := hx2.cell 5
      have z6 : X2.cell? ⟨g, 6, none⟩ = some (.bool fa) := hx2.cell 6
      have z9 : X2.frozen? ⟨g, 9, none⟩ = false := hx2.free 9
      clear hx2 hg2 PB HX HG
      obtain ⟨B, hB⟩ : ∃ B, B = late bu := ⟨_, rfl⟩
      rw [← hB] at hFD ⊢
      have HBB := Lib.hid hB
      clear hB
      cases ou
      · cases fa
        · have PW := Lib.hid (passed_wt g _ X2 HX2.out (by have := HOK.out; unfold Fs.ok at this ⊢; simp only at this ⊢; unfold down; split <;> omega))
          have hWT' : WT = down wt := hWT
          have hFD' : FD = (late wt || B) := hFD
          clear hWT hFD
          obtain ⟨L, hL⟩ : ∃ L, L = late wt := ⟨_, rfl⟩
          rw [← hL] at hFD'
          have HL := Lib.hid hL
          have HWT := Lib.hid hWT'
          have HFD := Lib.hid hFD'
          clear hL hWT' hFD'
          go_wp2_with fail
          refine PW.out.mono ?_
          rintro e X3 ⟨rfl, hx3, hg3⟩
          have HX3 := Lib.hid hx3
          have HG3 := Lib.hid (grown_trans HG2.out hg3)
          have z9' : X3.frozen? ⟨g, 9, none⟩ = false := hx3.free 9
          have z9'' : X3.cell? ⟨g, 9, none⟩ = some (.bool false) := hx3.cell 9
          clear hx3 hg3 z5 z6 z9
          simp only [← HL.out]
          cases L
          all_goals
            go_wp2_with fail
            go_ret
            refine ⟨rfl, ?_, grown_trans HG3.out (grown_one _ _ _ _)⟩
            rw [HWT.out, HFD.out]
            exact HX3.out.set9 _
        · have HWT : Hid (WT = wt) := Lib.hid hWT
          have HFD : Hid (FD = B) := Lib.hid hFD
          clear hWT hFD
          have z9'' : X2.cell? ⟨g, 9, none⟩ = some (.bool false) := HX2.out.cell 9
          go_wp2_with fail
          go_ret
          refine ⟨rfl, ?_, grown_trans HG2.out (grown_one _ _ _ _)⟩
          rw [HWT.out, HFD.out]
          exact HX2.out.set9 _
      · have HWT : Hid (WT = wt) := Lib.hid hWT
        have HFD : Hid (FD = B) := Lib.hid hFD
        clear hWT hFD
        have z9'' : X2.cell? ⟨g, 9, none⟩ = some (.bool false) := HX2.out.cell 9
        go_wp2_with fail
        go_ret
        refine ⟨rfl, ?_, grown_trans HG2.out (grown_one _ _ _ _)⟩
        rw [HWT.out, HFD.out]
        exact HX2.out.set9 _
  · go_enter Try.func14, Try.ntmps14
    go_wp2_with fail
    refine HST.out.mono ?_
    rintro e w' ⟨rfl, rfl⟩
    go_wp2_with fail
    go_ret
    exact ⟨rfl, H.out, grown_refl _ _⟩
end Go.Proofs.Ytbcalbkficbppaa
