/- The law FlowsBusy: the walk. -/
import Derived.Test.YtbcalbkficbppaaWaitWalk
import Derived.IntWalk
namespace Go.Proofs.Ytbcalbkficbppaa
open Go.RowKit

/-- A flow control that hears nothing. -/
def busyS (ag mo wa : Int) (co : Bool) (si : Int) : Fs := ⟨ag, mo, wa, co, si, false, false, 0, 0, false⟩

theorem busy_ok (ag mo wa : Int) (co : Bool) (si : Int) (h : (1 ≤ ag ∧ ag ≤ 20) ∧ (1 ≤ mo ∧ mo ≤ 20) ∧ 1 ≤ wa ∧ wa ≤ 20) (hs : 0 ≤ si ∧ si < ag) : (busyS ag mo wa co si).ok := by
  unfold busyS Fs.ok
  simp only
  omega

theorem busy_congest (ag mo wa : Int) (co : Bool) (si : Int) (g : Nat) (w : World) (hf : Fl w g (busyS ag mo wa co si)) (hok : (busyS ag mo wa co si).ok) :
    Calls Try.prog 12 #[.pointer (some ⟨g, 0, none⟩), .bool true] w (RetStep w g 0 (busyS ag mo wa true (if co then si else 0))) := by
  have := congest_any g (busyS ag mo wa co si) true w hf hok
  cases co <;> exact this

theorem busy_calm (ag mo wa : Int) (co : Bool) (si : Int) (g : Nat) (w : World) (hf : Fl w g (busyS ag mo wa co si)) (hok : (busyS ag mo wa co si).ok) :
    Calls Try.prog 12 #[.pointer (some ⟨g, 0, none⟩), .bool false] w (RetStep w g 0 (busyS ag mo wa false (if co then si else 0))) := by
  have := congest_any g (busyS ag mo wa co si) false w hf hok
  cases co <;> exact this

theorem busy_tick (ag mo wa : Int) (co : Bool) (si : Int) (g : Nat) (w : World) (hf : Fl w g (busyS ag mo wa co si)) (hok : (busyS ag mo wa co si).ok) :
    Calls Try.prog 14 #[.pointer (some ⟨g, 0, none⟩)] w (RetStep w g 0 (busyS ag mo wa co (nextSi ag si))) := tick_any g (busyS ag mo wa co si) w hf hok

theorem busy_says (ag mo wa : Int) (si : Int) (g : Nat) (w : World) (hf : Fl w g (busyS ag mo wa true si)) (hag : 1 ≤ ag) :
    Calls Try.prog 13 #[.pointer (some ⟨g, 0, none⟩)] w (fun e w' => e = .returned (.int .u8 (if si = 0 then 5 else 9)) ∧ w = w') := by
  have := says_any g (busyS ag mo wa true si) w hf hag
  have e : (busyS ag mo wa true si).says = if si = 0 then 5 else 9 := by
    unfold Fs.says Fs.sends busyS
    by_cases h : si = 0 <;> simp [h]
  rw [e] at this
  exact this

theorem busy_calmly (ag mo wa : Int) (si : Int) (g : Nat) (w : World) (hf : Fl w g (busyS ag mo wa false si)) (hag : 1 ≤ ag) :
    Calls Try.prog 13 #[.pointer (some ⟨g, 0, none⟩)] w (fun e w' => e = .returned (.int .u8 9) ∧ w = w') := says_any g (busyS ag mo wa false si) w hf hag

theorem next_mod (ag : Int) (k : Nat) (h : 1 ≤ ag) : nextSi ag ((k : Int) % ag) = ((k + 1 : Nat) : Int) % ag := by
  have h1 := Int.emod_nonneg (k : Int) (show ag ≠ 0 by omega)
  have h2 := Int.emod_lt_of_pos (k : Int) (show 0 < ag by omega)
  unfold nextSi
  have e : ((k + 1 : Nat) : Int) = (k : Int) % ag + 1 + ag * ((k : Int) / ag) := by
    have h3 := Int.emod_add_mul_ediv (k : Int) ag
    generalize ag * ((k : Int) / ag) = t at h3 ⊢
    omega
  rw [e, Int.add_mul_emod_self_left]
  split
  · next h3 => rw [h3, Int.emod_self]
  · rw [Int.emod_eq_of_lt (a := (k : Int) % ag + 1) (b := ag) (by omega) (by omega)]

theorem next_range (ag si : Int) (h : 0 ≤ si ∧ si < ag) : 0 ≤ nextSi ag si ∧ nextSi ag si < ag := by unfold nextSi; split <;> omega
theorem mod_range (ag : Int) (k : Nat) (h : 1 ≤ ag) : 0 ≤ (k : Int) % ag ∧ (k : Int) % ag < ag := ⟨Int.emod_nonneg _ (by omega), Int.emod_lt_of_pos _ (by omega)⟩

/-- One of two states, and only block g has turned. -/
def Step2 (w0 w' : World) (g : Nat) (a b : Fs) : Prop := w0.grownBy w' (some g) ∧ (Fl w' g a ∨ Fl w' g b)

theorem Step2.first {w0 w' : World} {g : Nat} {a b : Fs} (hg : w0.grownBy w' (some g)) (h : Fl w' g a) : Step2 w0 w' g a b := ⟨hg, .inl h⟩
theorem Step2.second {w0 w1 w' : World} {g : Nat} {a b c : Fs} (h0 : Step2 w0 w1 g a c) (hg : w1.grownBy w' (some g)) (h : Fl w' g b) : Step2 w0 w' g a b := ⟨grown_trans h0.1 hg, .inr h⟩

theorem busy_congest2 (ag mo wa : Int) (co : Bool) (si : Int) (g : Nat) (w0 w : World) (hf : Step2 w0 w g (busyS ag mo wa co si) (busyS ag mo wa true (if co then si else 0))) (hok : ∀ c s, 0 ≤ s ∧ s < ag → (busyS ag mo wa c s).ok) (hs : 0 ≤ si ∧ si < ag) :
    Calls Try.prog 12 #[.pointer (some ⟨g, 0, none⟩), .bool true] w (RetStep w g 0 (busyS ag mo wa true (if co then si else 0))) := by
  rcases hf.2 with h | h
  · exact busy_congest ag mo wa co si g w h (hok _ _ hs)
  · exact busy_congest ag mo wa true (if co then si else 0) g w h (hok _ _ (by cases co <;> simp <;> omega))

theorem cell_of_grown {w w' : World} {g : Nat} {p : Addr} {v : Value} (h : w.cell? p = some v) (hb : w.grownBy w' (some g)) (hne : p.block ≠ g) : w'.cell? p = some v := by
  have hl := cell_lt h
  unfold World.cell? at h ⊢
  rw [hb.block p.block hl (by simpa using hne)]
  exact h

theorem busy_keep {w0 w w' : World} {g : Nat} {p : Addr} {v : Value} {a b c : Fs} (h : w.cell? p = some v ∧ Step2 w0 w g a c) (hne : p.block ≠ g) (hg : w.grownBy w' (some g)) (hf : Fl w' g b) : w'.cell? p = some v ∧ Step2 w0 w' g a b :=
  ⟨cell_of_grown h.1 hg hne, h.2.second hg hf⟩

set_option maxRecDepth 100000 in
set_option maxHeartbeats 4000000 in
theorem busy_law (x y z fi pa : Int) (w : World) (hx : 0 ≤ x ∧ x ≤ 255) (hy : 0 ≤ y ∧ y ≤ 255) (hz : 0 ≤ z ∧ z ≤ 255) (hfi : 0 ≤ fi ∧ fi ≤ 255) (hpa : 0 ≤ pa ∧ pa ≤ 255) :
    Calls Try.prog 3 #[.agg #[.int .u8 x, .int .u8 y, .int .u8 z], .int .u8 fi, .int .u8 pa] w (RetBool w true) := by
  have hb0 := (Below.refl _ w).alloc (Nat.le_refl _) (.cells #[.int .u8 x, .int .u8 y, .int .u8 z] 23)
  have la := Lit0.new w 23 #[.int .u8 x, .int .u8 y, .int .u8 z]
  have c0 := la.cell 0
  have c1 := la.cell 1
  have c2 := la.cell 2
  simp only [List.getElem?_toArray, List.getElem?_cons_zero, List.getElem?_cons_succ] at c0 c1 c2
  have HB0 := Lib.hid hb0
  have hof := fun w' => of_any x y z w' hx hy hz
  obtain ⟨ag, hag⟩ : ∃ a, a = 1 + x % 20 := ⟨_, rfl⟩
  obtain ⟨mo, hmo⟩ : ∃ a, a = 1 + y % 20 := ⟨_, rfl⟩
  obtain ⟨wa, hwa⟩ : ∃ a, a = 1 + z % 20 := ⟨_, rfl⟩
  have br : (1 ≤ ag ∧ ag ≤ 20) ∧ (1 ≤ mo ∧ mo ≤ 20) ∧ 1 ≤ wa ∧ wa ≤ 20 := by omega
  rw [← hag, ← hmo, ← hwa] at hof
  have HOF := Lib.hid hof
  clear hof hag hmo hwa hx hy hz la hb0
  go_enter Try.func3, Try.ntmps3
  go_wp2_with fail
  refine (HOF.out _).mono ?_
  rintro e w1 ⟨rfl, hb1⟩
  have HB1 := Lib.hid (HB0.out.trans (hb1.mono HB0.out.size))
  clear hb1 c0 c1 c2 HB0
  go_wp2_with fail
  have lu := Lit0.new w1 25 #[.int .i64 ag, .int .i64 mo, .int .i64 wa]
  have hb2 := HB1.out.alloc HB1.out.size (.cells #[.int .i64 ag, .int .i64 mo, .int .i64 wa] 25)
  generalize hgu : w1.heap.size = gu at lu ⊢
  generalize w1.alloc (.cells #[.int .i64 ag, .int .i64 mo, .int .i64 wa] 25) = w2 at lu hb2 ⊢
  refine (new_good ag mo wa w2 (by unfold okT; simp; omega)).mono ?_
  rintro e w3 ⟨g, rfl, hg, hf, hb3⟩
  have HF3 := Lib.hid (show Fl w3 g (busyS ag mo wa false 0) from hf)
  have LU3 := Lib.hid (lu.kept hb3)
  have HB3 := Lib.hid (hb2.trans (hb3.mono hb2.size))
  have hg0 : Hid (w.heap.size ≤ g) := Lib.hid (Nat.le_trans hb2.size hg)
  have hgne : Hid (gu ≠ g) := Lib.hid (by have := lu.lt; omega)
  have BR := Lib.hid br
  clear hf lu hb3 hb2 hg hgu HB1
  go_wp2_with fail
  go_loopw [10] (fun v10 wr => ∃ (r si : Int), (0 ≤ r ∧ r ≤ 2) ∧ v10 = .int .i64 r ∧ Hid (0 ≤ si ∧ si < ag) ∧ Hid (Fl wr g (busyS ag mo wa false si)) ∧ Hid (w3.grownBy wr (some g))) (fun v _ => 2 - (intOf v).toNat)
  case atStart => exact ⟨0, 0, by omega, rfl, Lib.hid (by omega), HF3, Lib.hid (grown_refl _ _)⟩
  case round =>
    obtain ⟨r, si, hr, rfl, HSI, HFr, HGr⟩ := hrel
    have HBr := Lib.hid (below_grown (grown_trans (grown_below (HB3.out.mono (Nat.le_refl _)) _) HGr.out) hg0.out (Nat.le_refl _))
    by_cases hr2 : r < 2
    · rcases (show r = 0 ∨ r = 1 by omega) with rfl | rfl
      · go_wp2_with fail
        go_loopw [12] (fun v12 wr => ∃ (k : Nat) (co : Bool) (sj : Int), (k : Int) ≤ (1 + fi % 60) ∧ v12 = .int .i64 k ∧ Hid ((if co then sj else 0) = (k : Int) % ag) ∧ Hid (0 ≤ sj ∧ sj < ag) ∧ Hid (Fl wr g (busyS ag mo wa co sj)) ∧ Hid (w3.grownBy wr (some g))) (fun v _ => ((1 + fi % 60) : Int).toNat - (intOf v).toNat)
        case atStart => exact ⟨0, false, si, by omega, rfl, Lib.hid (by simp), HSI, HFr, HGr⟩
        case round =>
          obtain ⟨k, co, sj, hk, rfl, HKS, HSJ, HFx, HGx⟩ := hrel
          by_cases hkn : (k : Int) < (1 + fi % 60)
          · have dk : decide ((k : Int) < (1 + fi % 60)) = true := by simpa using hkn
            have HKM := Lib.hid (mod_range ag k BR.out.1.1)
            have HC2 := Lib.hid (fun w hs => busy_congest2 ag mo wa co sj g wr w hs (fun c s hs => busy_ok ag mo wa c s BR.out hs) HSJ.out)
            obtain ⟨km, hkm⟩ : ∃ km, km = (k : Int) % ag := ⟨_, rfl⟩
            have HTM : Hid (Int.tmod (k : Int) ag = km) := Lib.hid (by rw [hkm, Int.tmod_eq_emod_of_nonneg (by omega)])
            rw [HKS.out, ← hkm] at HC2
            rw [← hkm] at HKM
            have HKMD := Lib.hid hkm
            have cu0 := (LU3.out.grown HGx.out (by simpa using hgne.out)).cell 0
            simp only [List.getElem?_toArray, List.getElem?_cons_zero] at cu0
            clear hkm
            by_cases hz0 : km = 0
            all_goals
              have HSAYS := Lib.hid (fun w hf => busy_says ag mo wa km g w hf BR.out.1.1)
              first | rw [if_pos hz0] at HSAYS | rw [if_neg hz0] at HSAYS
              have kz : (km == 0) = decide (km = 0) := by rw [Bool.eq_iff_iff]; simp
              go_wp2_with fail
              have hne : gu ≠ g := hgne.out
              have hfx : Fl wr g (busyS ag mo wa co sj) := HFx.out
              have htm := HTM.out
              have ag0 : (ag == 0) = false := by rw [beq_eq_false_iff_ne]; have := BR.out.1.1; omega
              have ag0' : ¬ ag = 0 := by have := BR.out.1.1; omega
              have wkm : IntKind.i64.wrap km = km := IntWalk.i64_in _ (by have := HKM.out; have := BR.out.1; omega)
              have wkm' : wrap64 km = km := w64 _ (by have := HKM.out; have := BR.out.1; omega)
              go_region_held3 (fun w' => w'.cell? ⟨gu, 0, none⟩ = some (.int .i64 ag) ∧ Step2 wr w' g (busyS ag mo wa co sj) (busyS ag mo wa true km))
                (first | exact ⟨cu0, Step2.first (grown_drew (grown_refl _ _)) hfx⟩ | assumption | exact busy_keep (by assumption) hne hg5 hf5 | go_keep)
                (first | (go_at_call 12; refine (HC2.out _ (And.right (by assumption))).mono ?_; rintro e w5 ⟨rfl, hf5, hg5⟩) | (go_at_call 13; refine (HSAYS.out _ hf5).mono ?_; rintro e w6 ⟨rfl, rfl⟩))
              have hst : Step2 wr w5 g (busyS ag mo wa co sj) (busyS ag mo wa true km) := And.right (by assumption)
              have G5 := Lib.hid (grown_trans HGx.out hst.1)
              have HTK := Lib.hid (busy_tick ag mo wa true km g w5 hf5 (busy_ok ag mo wa true km BR.out HKM.out))
              clear hst hf5 hg5 hfx
              go_wp2_with fail
              refine HTK.out.mono ?_
              rintro e w6 ⟨rfl, hf6, hg6⟩
              have F6 := Lib.hid hf6
              have G6 := Lib.hid (grown_trans G5.out hg6)
              clear hf6 hg6
              go_wp2_with fail
              go_roundw
              case rel => exact ⟨k + 1, true, nextSi ag km, by omega, by simp, Lib.hid (by rw [if_pos rfl, HKMD.out]; exact next_mod ag k BR.out.1.1), Lib.hid (next_range ag km HKM.out), F6, G6⟩
              case measure => simp [intOf]; omega
          · have dk : decide ((k : Int) < (1 + fi % 60)) = false := by simpa using hkn
            go_wp2_with fail
            have HCA := Lib.hid (busy_calm ag mo wa co sj g wr HFx.out (busy_ok ag mo wa co sj BR.out HSJ.out))
            refine HCA.out.mono ?_
            rintro e w5 ⟨rfl, hf5, hg5⟩
            have F5 := Lib.hid hf5
            have G5 := Lib.hid (grown_trans HGx.out hg5)
            have HS5 : Hid (0 ≤ (if co then sj else 0) ∧ (if co then sj else 0) < ag) := Lib.hid (by have := HSJ.out; have := BR.out.1.1; cases co <;> simp <;> omega)
            clear hf5 hg5
            go_wp2_with fail
            go_loopw [13] (fun v13 wr => ∃ (m : Nat) (sm : Int), (m : Int) ≤ pa % 30 ∧ v13 = .int .i64 m ∧ Hid (0 ≤ sm ∧ sm < ag) ∧ Hid (Fl wr g (busyS ag mo wa false sm)) ∧ Hid (w3.grownBy wr (some g))) (fun v _ => (pa % 30 : Int).toNat - (intOf v).toNat)
            case atStart => exact ⟨0, _, by omega, rfl, HS5, F5, G5⟩
            case round =>
              obtain ⟨m, sm, hm, rfl, HSM, HFm, HGm⟩ := hrel
              by_cases hmn : (m : Int) < pa % 30
              · have dm : decide ((m : Int) < pa % 30) = true := by simpa using hmn
                go_wp2_with fail
                refine (busy_calmly ag mo wa sm g wr HFm.out BR.out.1.1).mono ?_
                rintro e w6 ⟨rfl, rfl⟩
                have HTK := Lib.hid (busy_tick ag mo wa false sm g wr HFm.out (busy_ok ag mo wa false sm BR.out HSM.out))
                go_wp2_with fail
                refine HTK.out.mono ?_
                rintro e w6 ⟨rfl, hf6, hg6⟩
                have F6 := Lib.hid hf6
                have G6 := Lib.hid (grown_trans HGm.out hg6)
                clear hf6 hg6
                go_wp2_with fail
                go_roundw
                case rel => exact ⟨m + 1, nextSi ag sm, by omega, by simp, Lib.hid (next_range ag sm HSM.out), F6, G6⟩
                case measure => simp [intOf]; omega
              · have dm : decide ((m : Int) < pa % 30) = false := by simpa using hmn
                go_wp2_with fail
                go_roundw
                case rel => exact ⟨0 + 1, sm, by omega, by simp, HSM, HFm, HGm⟩
                case measure => simp [intOf]
      · go_wp2_with fail
        go_loopw [12] (fun v12 wr => ∃ (k : Nat) (co : Bool) (sj : Int), (k : Int) ≤ 60 ∧ v12 = .int .i64 k ∧ Hid ((if co then sj else 0) = (k : Int) % ag) ∧ Hid (0 ≤ sj ∧ sj < ag) ∧ Hid (Fl wr g (busyS ag mo wa co sj)) ∧ Hid (w3.grownBy wr (some g))) (fun v _ => (60 : Int).toNat - (intOf v).toNat)
        case atStart => exact ⟨0, false, si, by omega, rfl, Lib.hid (by simp), HSI, HFr, HGr⟩
        case round =>
          obtain ⟨k, co, sj, hk, rfl, HKS, HSJ, HFx, HGx⟩ := hrel
          by_cases hkn : (k : Int) < 60
          · have dk : decide ((k : Int) < 60) = true := by simpa using hkn
            have HKM := Lib.hid (mod_range ag k BR.out.1.1)
            have HC2 := Lib.hid (fun w hs => busy_congest2 ag mo wa co sj g wr w hs (fun c s hs => busy_ok ag mo wa c s BR.out hs) HSJ.out)
            obtain ⟨km, hkm⟩ : ∃ km, km = (k : Int) % ag := ⟨_, rfl⟩
            have HTM : Hid (Int.tmod (k : Int) ag = km) := Lib.hid (by rw [hkm, Int.tmod_eq_emod_of_nonneg (by omega)])
            rw [HKS.out, ← hkm] at HC2
            rw [← hkm] at HKM
            have HKMD := Lib.hid hkm
            have cu0 := (LU3.out.grown HGx.out (by simpa using hgne.out)).cell 0
            simp only [List.getElem?_toArray, List.getElem?_cons_zero] at cu0
            clear hkm
            by_cases hz0 : km = 0
            all_goals
              have HSAYS := Lib.hid (fun w hf => busy_says ag mo wa km g w hf BR.out.1.1)
              first | rw [if_pos hz0] at HSAYS | rw [if_neg hz0] at HSAYS
              have kz : (km == 0) = decide (km = 0) := by rw [Bool.eq_iff_iff]; simp
              go_wp2_with fail
              have hne : gu ≠ g := hgne.out
              have hfx : Fl wr g (busyS ag mo wa co sj) := HFx.out
              have htm := HTM.out
              have ag0 : (ag == 0) = false := by rw [beq_eq_false_iff_ne]; have := BR.out.1.1; omega
              have ag0' : ¬ ag = 0 := by have := BR.out.1.1; omega
              have wkm : IntKind.i64.wrap km = km := IntWalk.i64_in _ (by have := HKM.out; have := BR.out.1; omega)
              have wkm' : wrap64 km = km := w64 _ (by have := HKM.out; have := BR.out.1; omega)
              go_region_held3 (fun w' => w'.cell? ⟨gu, 0, none⟩ = some (.int .i64 ag) ∧ Step2 wr w' g (busyS ag mo wa co sj) (busyS ag mo wa true km))
                (first | exact ⟨cu0, Step2.first (grown_drew (grown_refl _ _)) hfx⟩ | assumption | exact busy_keep (by assumption) hne hg5 hf5 | go_keep)
                (first | (go_at_call 12; refine (HC2.out _ (And.right (by assumption))).mono ?_; rintro e w5 ⟨rfl, hf5, hg5⟩) | (go_at_call 13; refine (HSAYS.out _ hf5).mono ?_; rintro e w6 ⟨rfl, rfl⟩))
              have hst : Step2 wr w5 g (busyS ag mo wa co sj) (busyS ag mo wa true km) := And.right (by assumption)
              have G5 := Lib.hid (grown_trans HGx.out hst.1)
              have HTK := Lib.hid (busy_tick ag mo wa true km g w5 hf5 (busy_ok ag mo wa true km BR.out HKM.out))
              clear hst hf5 hg5 hfx
              go_wp2_with fail
              refine HTK.out.mono ?_
              rintro e w6 ⟨rfl, hf6, hg6⟩
              have F6 := Lib.hid hf6
              have G6 := Lib.hid (grown_trans G5.out hg6)
              clear hf6 hg6
              go_wp2_with fail
              go_roundw
              case rel => exact ⟨k + 1, true, nextSi ag km, by omega, by simp, Lib.hid (by rw [if_pos rfl, HKMD.out]; exact next_mod ag k BR.out.1.1), Lib.hid (next_range ag km HKM.out), F6, G6⟩
              case measure => simp [intOf]; omega
          · have dk : decide ((k : Int) < 60) = false := by simpa using hkn
            go_wp2_with fail
            have HCA := Lib.hid (busy_calm ag mo wa co sj g wr HFx.out (busy_ok ag mo wa co sj BR.out HSJ.out))
            refine HCA.out.mono ?_
            rintro e w5 ⟨rfl, hf5, hg5⟩
            have F5 := Lib.hid hf5
            have G5 := Lib.hid (grown_trans HGx.out hg5)
            have HS5 : Hid (0 ≤ (if co then sj else 0) ∧ (if co then sj else 0) < ag) := Lib.hid (by have := HSJ.out; have := BR.out.1.1; cases co <;> simp <;> omega)
            clear hf5 hg5
            go_wp2_with fail
            go_loopw [13] (fun v13 wr => ∃ (m : Nat) (sm : Int), (m : Int) ≤ pa % 30 ∧ v13 = .int .i64 m ∧ Hid (0 ≤ sm ∧ sm < ag) ∧ Hid (Fl wr g (busyS ag mo wa false sm)) ∧ Hid (w3.grownBy wr (some g))) (fun v _ => (pa % 30 : Int).toNat - (intOf v).toNat)
            case atStart => exact ⟨0, _, by omega, rfl, HS5, F5, G5⟩
            case round =>
              obtain ⟨m, sm, hm, rfl, HSM, HFm, HGm⟩ := hrel
              by_cases hmn : (m : Int) < pa % 30
              · have dm : decide ((m : Int) < pa % 30) = true := by simpa using hmn
                go_wp2_with fail
                refine (busy_calmly ag mo wa sm g wr HFm.out BR.out.1.1).mono ?_
                rintro e w6 ⟨rfl, rfl⟩
                have HTK := Lib.hid (busy_tick ag mo wa false sm g wr HFm.out (busy_ok ag mo wa false sm BR.out HSM.out))
                go_wp2_with fail
                refine HTK.out.mono ?_
                rintro e w6 ⟨rfl, hf6, hg6⟩
                have F6 := Lib.hid hf6
                have G6 := Lib.hid (grown_trans HGm.out hg6)
                clear hf6 hg6
                go_wp2_with fail
                go_roundw
                case rel => exact ⟨m + 1, nextSi ag sm, by omega, by simp, Lib.hid (next_range ag sm HSM.out), F6, G6⟩
                case measure => simp [intOf]; omega
              · have dm : decide ((m : Int) < pa % 30) = false := by simpa using hmn
                go_wp2_with fail
                go_roundw
                case rel => exact ⟨1 + 1, sm, by omega, by simp, HSM, HFm, HGm⟩
                case measure => simp [intOf]
    · obtain rfl : r = 2 := by omega
      go_wp2_with fail
      refine (failed_any g _ wr HFr.out).mono ?_
      rintro e w4 ⟨rfl, rfl⟩
      go_wp2_with fail
      refine (lives_any _).mono ?_
      rintro e w4 ⟨rfl, hb4⟩
      go_wp2_with fail
      go_ret
      exact ⟨rfl, HBr.out.trans (hb4.mono HBr.out.size)⟩
end Go.Proofs.Ytbcalbkficbppaa
