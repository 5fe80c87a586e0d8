/- The law FlowsScript: the walk. -/
import Derived.Test.YtbcalbkficbppaaRel
namespace Go.Proofs.Ytbcalbkficbppaa
open Go.RowKit

/-- What the model sends. -/
def Ms.says (m : Ms) : Int := if m.fd then 9 else if m.ou then 4 else if 0 ≤ m.bg ∧ (m.nw - m.bg) % m.ag = 0 then 5 else 9

theorem Rel.says {i : Nat} {s : Fs} {m : Ms} (h : Rel i s m) : m.says = s.says := by
  obtain ⟨ag, mo, wa, co, si, ou, fa, bu, wt, fd⟩ := s
  obtain ⟨ag', mo', wa', bg, nw, ou', fa', mbu, mwt, fd'⟩ := m
  obtain ⟨hag, hmo, hwa, hfd, hou, hfa, hco, hok, h20, hbg, hsi, hbu, hwt⟩ := h
  simp only at hag hmo hwa hfd hou hfa hco h20 hbg hsi hbu hwt
  subst hag hmo hwa hfd hou hfa
  unfold Ms.says Fs.says Fs.sends
  simp only
  cases fd'
  · cases ou'
    · by_cases hb : 0 ≤ bg
      · rw [hco, hsi hb]
        by_cases hz : (nw - bg) % ag' = 0 <;> simp [hb, hz]
      · rw [hco]
        simp [hb]
    · simp
  · simp

set_option maxRecDepth 100000 in
theorem says_model (g : Nat) (m : Ms) (w : World) (h : Ml w g m) (hag : 1 ≤ m.ag ∧ m.ag ≤ 20) (hbg : (-1 ≤ m.bg ∧ m.bg ≤ m.nw) ∧ m.nw ≤ 1000) :
    Calls Try.prog 26 #[.pointer (some ⟨g, 0, none⟩)] w fun e w' => e = .returned (.int .u8 m.says) ∧ ∃ n, w' = w.drewN n := by
  obtain ⟨ag, mo, wa, bg, nw, ou, fa, bu, wt, fd⟩ := m
  have c0 := h.cell 0
  have c3 := h.cell 3
  have c4 := h.cell 4
  have c5 := h.cell 5
  have c9 := h.cell 9
  simp only [Ms.cells, List.getElem?_toArray, List.getElem?_cons_zero, List.getElem?_cons_succ] at c0 c3 c4 c5 c9
  simp only at hag hbg
  clear h
  cases fd
  · cases ou
    · by_cases hb : 0 ≤ bg
      · have d1 : decide (0 ≤ bg) = true := by simpa using hb
        obtain ⟨km, hkm⟩ : ∃ km, km = (nw - bg) % ag := ⟨_, rfl⟩
        have htm : Int.tmod (nw - bg) ag = km := by rw [hkm, Int.tmod_eq_emod_of_nonneg (by omega)]
        have hr : 0 ≤ km ∧ km < ag := by rw [hkm]; exact ⟨Int.emod_nonneg _ (by omega), Int.emod_lt_of_pos _ (by omega)⟩
        have ag0 : (ag == 0) = false := by rw [beq_eq_false_iff_ne]; omega
        have ag0' : ¬ ag = 0 := by omega
        have wkm : IntKind.i64.wrap km = km := IntWalk.i64_in _ (by omega)
        have wkm' : wrap64 km = km := w64 _ (by omega)
        have wsb : IntKind.i64.wrap (nw - bg) = nw - bg := IntWalk.i64_in _ (by omega)
        by_cases hz : km = 0
        · have hs : Ms.says ⟨ag, mo, wa, bg, nw, false, fa, bu, wt, false⟩ = 5 := by
            unfold Ms.says
            simp only [Bool.false_eq_true, if_false]
            rw [if_pos ⟨hb, by rw [← hkm]; exact hz⟩]
          rw [hs]
          have HZ := Lib.hid hs
          subst hz
          clear hs hkm
          go_enter Try.func26, Try.ntmps26
          go_wp2_with fail
          go_quiet (fail)
          go_wp2_with fail
          go_ret
          exact ⟨rfl, nq, rfl⟩
        · have hs : Ms.says ⟨ag, mo, wa, bg, nw, false, fa, bu, wt, false⟩ = 9 := by
            unfold Ms.says
            simp only [Bool.false_eq_true, if_false]
            rw [if_neg (fun hx => hz (by rw [hkm]; exact hx.2))]
          rw [hs]
          have kz : (km == 0) = false := by rw [beq_eq_false_iff_ne]; exact hz
          clear hs hkm
          go_enter Try.func26, Try.ntmps26
          go_wp2_with fail
          go_quiet (fail)
          go_wp2_with fail
          go_ret
          exact ⟨rfl, nq, rfl⟩
      · have d1 : decide (0 ≤ bg) = false := by simpa using hb
        have hs : Ms.says ⟨ag, mo, wa, bg, nw, false, fa, bu, wt, false⟩ = 9 := by
          unfold Ms.says
          simp only [Bool.false_eq_true, if_false]
          rw [if_neg (fun hx => hb hx.1)]
        rw [hs]
        clear hs
        go_enter Try.func26, Try.ntmps26
        go_wp2_with fail
        go_quiet (fail)
        go_wp2_with fail
        go_ret
        exact ⟨rfl, nq, rfl⟩
    · go_enter Try.func26, Try.ntmps26
      go_wp2_with fail
      go_ret
      exact ⟨rfl, 0, rfl⟩
  · go_enter Try.func26, Try.ntmps26
    go_wp2_with fail
    go_ret
    exact ⟨rfl, 0, rfl⟩

theorem script_many (A : Option Addr) (n cp : Nat) (x y z : Int) (w : World) (hn : 200 < n) :
    Calls Try.prog 7 #[.agg #[.int .u8 x, .int .u8 y, .int .u8 z], .slice A n cp] w (RetBool w true) := by
  have hb0 := (Below.refl _ w).alloc (Nat.le_refl _) (.cells #[.int .u8 x, .int .u8 y, .int .u8 z] 23)
  have dn : decide (200 < (n : Int)) = true := by simp; omega
  clear hn
  go_enter Try.func7, Try.ntmps7
  go_wp2_with fail
  refine (lives_any _).mono ?_
  rintro e w1 ⟨rfl, hb1⟩
  go_wp2_with fail
  go_ret
  exact ⟨rfl, hb0.trans (hb1.mono hb0.size)⟩

theorem script_keep {w w1 w2 : World} {g b o : Nat} {v : Value} (hc : w1.cell? ⟨b, o, none⟩ = some v) (hb : Below w.heap.size w w1) (hg : w1.grownBy w2 (some g)) (h0 : w.heap.size ≤ g) (hl : b < w.heap.size) : w2.cell? ⟨b, o, none⟩ = some v ∧ Below w.heap.size w w2 :=
  ⟨cell_of_grown hc hg (by simp only; omega), hb.trans (below_grown hg h0 hb.size)⟩

theorem rel_start (ag mo wa : Int) (h : (1 ≤ ag ∧ ag ≤ 20) ∧ (1 ≤ mo ∧ mo ≤ 20) ∧ 1 ≤ wa ∧ wa ≤ 20) : Rel 0 (Fs.start ag mo wa) ⟨ag, mo, wa, -1, 0, false, false, -1, -1, false⟩ :=
  ⟨rfl, rfl, rfl, rfl, rfl, rfl, rfl, by unfold Fs.ok Fs.start; simp only; omega, by unfold Fs.start; simp only; omega, by simp, fun hx => absurd hx (by simp), fun _ => .inl ⟨rfl, rfl⟩, fun _ => .inl ⟨rfl, rfl⟩⟩

set_option maxRecDepth 100000 in
set_option maxHeartbeats 4000000 in
theorem script_law (A : Option Addr) (n cp : Nat) (x y z : Int) (S : Nat → Int) (w : World) (hn : n ≤ 200) (hx : 0 ≤ x ∧ x ≤ 255) (hy : 0 ≤ y ∧ y ≤ 255) (hz : 0 ≤ z ∧ z ≤ 255)
    (hS : Sees w w.heap.size A n (fun i => .int .u8 (S i))) (hSb : ∀ i, i < n → 0 ≤ S i ∧ S i ≤ 255) :
    Calls Try.prog 7 #[.agg #[.int .u8 x, .int .u8 y, .int .u8 z], .slice A n cp] w (RetBool w true) := by
  have dn : decide (200 < (n : Int)) = false := by simp; omega
  have HS := Lib.hid hS
  have HSB := Lib.hid hSb
  clear hS hSb
  have hb0 := (Below.refl _ w).alloc (Nat.le_refl _) (.cells #[.int .u8 x, .int .u8 y, .int .u8 z] 23)
  have la := Lit0.new w 23 #[.int .u8 x, .int .u8 y, .int .u8 z]
  have c0 := la.cell 0
  have c1 := la.cell 1
  have c2 := la.cell 2
  simp only [List.getElem?_toArray, List.getElem?_cons_zero, List.getElem?_cons_succ] at c0 c1 c2
  have HB0 := Lib.hid hb0
  have hof := fun w' => of_any x y z w' hx hy hz
  obtain ⟨ag, hag⟩ : ∃ a, a = 1 + x % 20 := ⟨_, rfl⟩
  obtain ⟨mo, hmo⟩ : ∃ a, a = 1 + y % 20 := ⟨_, rfl⟩
  obtain ⟨wa, hwa⟩ : ∃ a, a = 1 + z % 20 := ⟨_, rfl⟩
  have br : (1 ≤ ag ∧ ag ≤ 20) ∧ (1 ≤ mo ∧ mo ≤ 20) ∧ 1 ≤ wa ∧ wa ≤ 20 := by omega
  rw [← hag, ← hmo, ← hwa] at hof
  have HOF := Lib.hid hof
  clear hof hag hmo hwa hx hy hz la hb0
  have LA := Lib.hid (Lit0.new w 23 #[.int .u8 x, .int .u8 y, .int .u8 z])
  go_enter Try.func7, Try.ntmps7
  go_wp2_with fail
  refine (HOF.out _).mono ?_
  rintro e w1 ⟨rfl, hb1⟩
  have HB1 := Lib.hid (HB0.out.trans (hb1.mono HB0.out.size))
  have LA1 := Lib.hid (LA.out.kept hb1)
  clear hb1 c0 c1 c2 HB0 LA
  go_wp2_with fail
  refine (new_good ag mo wa w1 (by unfold okT; simp; omega)).mono ?_
  rintro e w3 ⟨g, rfl, hg, hf, hb3⟩
  have HF3 := Lib.hid hf
  have HB3 := Lib.hid (HB1.out.trans (hb3.mono HB1.out.size))
  have LA3 := LA1.out.kept hb3
  have hg0 : Hid (w.heap.size ≤ g) := Lib.hid (Nat.le_trans HB1.out.size hg)
  have c0 := LA3.cell 0
  have c1 := LA3.cell 1
  have c2 := LA3.cell 2
  simp only [List.getElem?_toArray, List.getElem?_cons_zero, List.getElem?_cons_succ] at c0 c1 c2
  have BR := Lib.hid br
  clear hf hb3 hg HB1 LA1 LA3
  go_wp2_with fail
  refine (HOF.out _).mono ?_
  rintro e w4 ⟨rfl, hb4⟩
  have HF4 := Lib.hid (HF3.out.kept hb4)
  have HB4 := Lib.hid (HB3.out.trans (hb4.mono HB3.out.size))
  clear hb4 c0 c1 c2 HF3 HB3
  go_wp2_with fail
  have lm := Lit0.new w4 56 (Ms.cells ⟨ag, mo, wa, -1, 0, false, false, -1, -1, false⟩)
  have HB5 := Lib.hid (HB4.out.alloc HB4.out.size (.cells (Ms.cells ⟨ag, mo, wa, -1, 0, false, false, -1, -1, false⟩) 56))
  have HF5 := Lib.hid (HF4.out.kept ((Below.refl _ w4).alloc (Nat.le_refl _) (.cells (Ms.cells ⟨ag, mo, wa, -1, 0, false, false, -1, -1, false⟩) 56)))
  have hgm0 : Hid (w.heap.size ≤ w4.heap.size) := Lib.hid HB4.out.size
  have hgm : Hid (g ≠ w4.heap.size) := Lib.hid (by have := HF4.out.lt; omega)
  have HM5 := Lib.hid (show Ml _ w4.heap.size ⟨ag, mo, wa, -1, 0, false, false, -1, -1, false⟩ from lm)
  clear lm HF4 HB4
  simp only [Ms.cells] at HB5 HF5 HM5
  generalize w4.heap.size = gm at hgm0 hgm HM5 ⊢
  generalize w4.alloc _ = w5 at HB5 HF5 HM5 ⊢
  go_loopw [8] (fun v8 wr => ∃ (i : Nat) (s : Fs) (m : Ms), i ≤ n ∧ v8 = .int .i64 i ∧ Hid (Fl wr g s) ∧ Hid (Ml wr gm m) ∧ Hid (Rel i s m) ∧ Hid (Below w.heap.size w wr)) (fun v _ => n - (intOf v).toNat)
  case atStart => exact ⟨0, _, _, by omega, rfl, HF5, HM5, Lib.hid (rel_start ag mo wa BR.out), HB5⟩
  case round =>
    obtain ⟨i, s, m, hi, rfl, HFr, HMr, HRr, HBr⟩ := hrel
    by_cases hin : i < n
    · have din : decide ((i : Int) < (n : Int)) = true := by simp; omega
      have din' : decide (i < n) = true := by simpa using hin
      obtain ⟨bs, off, rfl⟩ := HS.out.form (by omega)
      have cS := (HS.out.below HBr.out).cell hin
      have hSi := HSB.out i hin
      generalize S i = a at cS hSi
      have hP := perform_any g s a wr.drew HFr.out HRr.out.hok hSi
      obtain ⟨m', hrel', hact⟩ := rel_any HRr.out (by omega) a hSi
      obtain ⟨E, hE⟩ : ∃ E, E = if s.fd = true then (6 : Int) else performE a := ⟨_, rfl⟩
      obtain ⟨s', hs'⟩ : ∃ s', s' = if s.fd = true then s else s.perform a := ⟨_, rfl⟩
      rw [← hE, ← hs'] at hP
      rw [← hs'] at hrel'
      rw [← hE] at hact
      have HP := Lib.hid hP
      have HA := Lib.hid (show ∀ (w : World), Ml w gm m → Calls Try.prog 25 #[.pointer (some ⟨gm, 0, none⟩), .int .u8 a] w (RetM w gm E m') from hact gm)
      have HREL := Lib.hid hrel'
      have hsb : Below w.heap.size w wr := HBr.out
      have hm0 : Ml wr.drew gm m := HMr.out
      have hl0 : bs < w.heap.size := HS.out.block (by omega)
      clear hE hs' hP hact hrel' hSi
      have i0 : (0 : Int) ≤ (i : Int) := by omega
      have i1 : (i : Int) < (n : Int) := by omega
      go_wp2_with fail
      go_region_held3 (fun w' => w'.cell? ⟨bs, off + i, none⟩ = some (.int .u8 a) ∧ Below w.heap.size w w')
        (first | exact ⟨cS, Below.drew hsb⟩ | with_reducible assumption | with_reducible exact s6 | with_reducible exact s7 | go_keep)
        (first | (go_at_call 24; (with_reducible refine HP.out.mono ?_); rintro e w6 ⟨rfl, hf6, hg6⟩; have s6 : w6.cell? ⟨bs, off + i, none⟩ = some (.int .u8 a) ∧ Below w.heap.size w w6 := script_keep (w1 := wr.drew) cS (Below.drew hsb) hg6 hg0.out hl0) | (go_at_call 25; (with_reducible refine (HA.out _ (hm0.grown hg6 (by simpa using Ne.symm hgm.out))).mono ?_); rintro e w7 ⟨rfl, hf7, hg7⟩; have s7 : w7.cell? ⟨bs, off + i, none⟩ = some (.int .u8 a) ∧ Below w.heap.size w w7 := script_keep s6.1 s6.2 hg7 hgm0.out hl0))
      have F7 := Lib.hid (hf6.grown hg7 (by simpa using hgm.out))
      have M7 := Lib.hid hf7
      have B7 := Lib.hid s7.2
      clear s6 s7 hf6 hg6 hf7 hg7 cS hsb hm0 hl0 HA HP
      obtain ⟨ag1, mo1, wa1, co, si, ou, fa, bu, wt, fd⟩ := s'
      obtain ⟨ag2, mo2, wa2, bg, nw, ou2, fa2, bu2, wt2, fd2⟩ := m'
      obtain rfl : ou2 = ou := HREL.out.hou
      obtain rfl : fa2 = fa := HREL.out.hfa
      obtain rfl : fd2 = fd := HREL.out.hfd
      obtain rfl : ag2 = ag1 := HREL.out.hag
      have dbg : decide (0 ≤ bg) = co := HREL.out.hco.symm
      go_wp2_with fail
      refine (show Calls Try.prog 20 #[.pointer (some ⟨g, 0, none⟩)] w7 (fun e w' => e = .returned (.tuple #[.bool co, .bool (ou2 || fa2)]) ∧ Below w7.heap.size w7 w') from held_any g _ w7 F7.out).mono ?_
      rintro e w8 ⟨rfl, hb8⟩
      have F8 := Lib.hid (F7.out.kept hb8)
      have M8 := Lib.hid (M7.out.kept hb8)
      have B8 := Lib.hid (B7.out.trans (hb8.mono B7.out.size))
      clear hb8 F7 M7 B7
      have m3 := M8.out.cell 3
      have m5 := M8.out.cell 5
      have m6 := M8.out.cell 6
      have m9 := M8.out.cell 9
      simp only [Ms.cells, List.getElem?_toArray, List.getElem?_cons_zero, List.getElem?_cons_succ] at m3 m5 m6 m9
      obtain ⟨V, hV⟩ : ∃ V, V = Fs.says ⟨ag2, mo1, wa1, co, si, ou2, fa2, bu, wt, fd2⟩ := ⟨_, rfl⟩
      have hV2 : V = Ms.says ⟨ag2, mo2, wa2, bg, nw, ou2, fa2, bu2, wt2, fd2⟩ := hV.trans HREL.out.says.symm
      have Q13 := Lib.hid (fun (m : Nat) => quiet_left (n := m) (show Calls Try.prog 13 #[.pointer (some ⟨g, 0, none⟩)] (w8.drewN m) (fun e w' => e = .returned (.int .u8 V) ∧ w8.drewN m = w') from by rw [hV]; exact says_any g _ (w8.drewN m) (F8.out.drewN m) HREL.out.hok.1.1))
      have hag2 : 1 ≤ ag2 ∧ ag2 ≤ 20 := ⟨HREL.out.hok.1.1, HREL.out.h20.1⟩
      have hbg2 : (-1 ≤ bg ∧ bg ≤ nw) ∧ nw ≤ 1000 := by have := HREL.out.hbg; simp only at this; omega
      have Q26 := Lib.hid (fun (m : Nat) => Calls.quiet_of (n := m) (show Calls Try.prog 26 #[.pointer (some ⟨gm, 0, none⟩)] (w8.drewN m) (fun e w' => e = .returned (.int .u8 V) ∧ ∃ k, w' = (w8.drewN m).drewN k) from by rw [hV2]; exact says_model gm _ (w8.drewN m) (M8.out.drewN m) hag2 hbg2))
      have Q15 := Lib.hid (fun (m : Nat) => quiet_left (n := m) (show Calls Try.prog 15 #[.pointer (some ⟨g, 0, none⟩)] (w8.drewN m) (fun e w' => e = .returned (.bool fd2) ∧ w8.drewN m = w') from failed_any g _ (w8.drewN m) (F8.out.drewN m)))
      clear hV hV2 hag2 hbg2
      cases ou2
      all_goals
        go_wp2_with fail
        go_quiet ((first | (go_at_call 13; with_reducible exact Q13.out _) | (go_at_call 26; with_reducible exact Q26.out _) | (go_at_call 15; with_reducible exact Q15.out _)))
        go_wp2_with fail
        go_roundw
        case rel => exact ⟨i + 1, _, _, by omega, by simp, Lib.hid (F8.out.drewN nq), Lib.hid (M8.out.drewN nq), HREL, Lib.hid (Below.drewN' B8.out nq)⟩
        case measure => simp [intOf]; omega
    · have din : decide ((i : Int) < (n : Int)) = false := by simp; omega
      have din' : decide (i < n) = false := by simp; omega
      go_wp2_with fail
      refine (lives_any _).mono ?_
      rintro e w4 ⟨rfl, hb4⟩
      go_wp2_with fail
      go_ret
      exact ⟨rfl, HBr.out.trans (hb4.mono HBr.out.size)⟩
end Go.Proofs.Ytbcalbkficbppaa
