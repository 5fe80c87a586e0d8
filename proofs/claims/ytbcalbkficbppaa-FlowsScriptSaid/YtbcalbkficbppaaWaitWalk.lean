/- The law FlowsWait: the walk. -/
import Derived.Test.YtbcalbkficbppaaKeep
import Derived.Test.YtbcalbkficbppaaLives
namespace Go.Proofs.Ytbcalbkficbppaa
open Go.RowKit

theorem wait_many (A : Option Addr) (n cp : Nat) (x y z : Int) (w : World) (hn : 100 < n) :
    Calls Try.prog 8 #[.agg #[.int .u8 x, .int .u8 y, .int .u8 z], .slice A n cp] w (RetBool w true) := by
  have hb0 := (Below.refl _ w).alloc (Nat.le_refl _) (.cells #[.int .u8 x, .int .u8 y, .int .u8 z] 23)
  have dn : decide (100 < (n : Int)) = true := by simp; omega
  clear hn
  go_enter Try.func8, Try.ntmps8
  go_wp2_with fail
  refine (lives_any _).mono ?_
  rintro e w1 ⟨rfl, hb1⟩
  go_wp2_with fail
  go_ret
  exact ⟨rfl, hb0.trans (hb1.mono hb0.size)⟩

theorem quiet_left {P : Program} {f : FuncId} {args : Array Value} {w : World} {n : Nat} {v : Value} (h : Calls P f args (w.drewN n) fun e w' => e = .returned v ∧ w.drewN n = w') : Calls P f args (w.drewN n) fun e w'' => e = .returned v ∧ ∃ m, w'' = w.drewN m :=
  h.mono fun _ _ ⟨he, hm⟩ => ⟨he, n, hm.symm⟩

/-- The state behind some counted ticks. -/
def waitS (ag mo wa si : Int) (ou fa : Bool) (k : Int) : Fs := ⟨ag, mo, wa, false, si, ou, fa, 0, wa - k, decide (k = wa)⟩

/-- How many ticks are counted behind one more. -/
def more (own far : Bool) (k : Int) : Int := if own || far then k else k + 1

theorem wait_tick (ag mo wa si k : Int) (ou fa : Bool) (hk : 0 ≤ k ∧ k < wa) : Fs.tick ⟨ag, mo, wa, false, si, ou, fa, 0, wa - k, false⟩ = waitS ag mo wa (nextSi ag si) ou fa (more ou fa k) := by
  unfold Fs.tick waitS more nextSi down late
  cases ou <;> cases fa <;> simp
  all_goals first | omega | (constructor <;> first | omega | (rw [if_neg (by omega)]; omega) | (rw [decide_eq_decide]; omega) | skip)

set_option maxRecDepth 100000 in
set_option maxHeartbeats 4000000 in
theorem wait_law (A : Option Addr) (n cp : Nat) (x y z : Int) (S : Nat → Int) (w : World) (hn : n ≤ 100) (hx : 0 ≤ x ∧ x ≤ 255) (hy : 0 ≤ y ∧ y ≤ 255) (hz : 0 ≤ z ∧ z ≤ 255)
    (hS : Sees w w.heap.size A n (fun i => .int .u8 (S i))) (hSb : ∀ i, i < n → 0 ≤ S i ∧ S i ≤ 255) :
    Calls Try.prog 8 #[.agg #[.int .u8 x, .int .u8 y, .int .u8 z], .slice A n cp] w (RetBool w true) := by
  have dn : decide (100 < (n : Int)) = false := by simp; omega
  have HS := Lib.hid hS
  have HSB := Lib.hid hSb
  clear hS hSb
  have hb0 := (Below.refl _ w).alloc (Nat.le_refl _) (.cells #[.int .u8 x, .int .u8 y, .int .u8 z] 23)
  have la := Lit0.new w 23 #[.int .u8 x, .int .u8 y, .int .u8 z]
  have c0 := la.cell 0
  have c1 := la.cell 1
  have c2 := la.cell 2
  simp only [List.getElem?_toArray, List.getElem?_cons_zero, List.getElem?_cons_succ] at c0 c1 c2
  have HB0 := Lib.hid hb0
  have hof := fun w' => of_any x y z w' hx hy hz
  obtain ⟨ag, hag⟩ : ∃ a, a = 1 + x % 20 := ⟨_, rfl⟩
  obtain ⟨mo, hmo⟩ : ∃ a, a = 1 + y % 20 := ⟨_, rfl⟩
  obtain ⟨wa, hwa⟩ : ∃ a, a = 1 + z % 20 := ⟨_, rfl⟩
  have br : (1 ≤ ag ∧ ag ≤ 20) ∧ (1 ≤ mo ∧ mo ≤ 20) ∧ 1 ≤ wa ∧ wa ≤ 20 := by omega
  rw [← hag, ← hmo, ← hwa] at hof
  have HOF := Lib.hid hof
  clear hof hag hmo hwa hx hy hz la hb0
  go_enter Try.func8, Try.ntmps8
  go_wp2_with fail
  refine (HOF.out _).mono ?_
  rintro e w1 ⟨rfl, hb1⟩
  have HB1 := Lib.hid (HB0.out.trans (hb1.mono HB0.out.size))
  clear hb1 c0 c1 c2 HB0
  go_wp2_with fail
  have lu := Lit0.new w1 25 #[.int .i64 ag, .int .i64 mo, .int .i64 wa]
  have hb2 := HB1.out.alloc HB1.out.size (.cells #[.int .i64 ag, .int .i64 mo, .int .i64 wa] 25)
  generalize hgu : w1.heap.size = gu at lu ⊢
  generalize w1.alloc (.cells #[.int .i64 ag, .int .i64 mo, .int .i64 wa] 25) = w2 at lu hb2 ⊢
  refine (new_good ag mo wa w2 (by unfold okT; simp; omega)).mono ?_
  rintro e w3 ⟨g, rfl, hg, hf, hb3⟩
  have HF3 := Lib.hid hf
  have LU3 := Lib.hid (lu.kept hb3)
  have HB3 := Lib.hid (hb2.trans (hb3.mono hb2.size))
  have hg0 : Hid (w.heap.size ≤ g) := Lib.hid (Nat.le_trans hb2.size hg)
  have hgne : Hid (gu ≠ g) := Lib.hid (by have := lu.lt; omega)
  have OK0 := Lib.hid (show (Fs.start ag mo wa).ok by unfold Fs.ok Fs.start; simp only; omega)
  clear hf lu hb3 hb2 hg hgu HB1
  go_wp2_with fail
  have ho := open_any g (Fs.start ag mo wa) true false w3 HF3.out OK0.out
  have e4 : (if (Fs.start ag mo wa).fd = true then Fs.start ag mo wa else (Fs.start ag mo wa).open_ true false) = waitS ag mo wa 0 false false 0 := by
    unfold waitS Fs.start Fs.open_
    simp
    omega
  rw [e4] at ho
  have HO := Lib.hid (show Calls Try.prog 17 #[.pointer (some ⟨g, 0, none⟩), .bool true, .bool false] w3 (RetStep w3 g 0 (waitS ag mo wa 0 false false 0)) from ho)
  clear ho e4
  refine HO.out.mono ?_
  rintro e w4 ⟨rfl, hf4, hg4⟩
  have HF4 := Lib.hid hf4
  have HG4 := Lib.hid hg4
  clear hf4 hg4
  go_wp2_with fail
  go_loopw [8, 9] (fun v8 v9 wr => ∃ (k si : Int) (ou fa : Bool) (i : Nat), i ≤ n ∧ v8 = .int .i64 k ∧ v9 = .int .i64 i ∧ (0 ≤ k ∧ k ≤ wa) ∧ Hid (0 ≤ si ∧ si < ag) ∧ Hid (Fl wr g (waitS ag mo wa si ou fa k)) ∧ Hid (w3.grownBy wr (some g))) (fun _ v _ => n - (intOf v).toNat)
  case atStart => exact ⟨0, 0, false, false, 0, by omega, rfl, rfl, by omega, Lib.hid (by omega), HF4, HG4⟩
  case round =>
    obtain ⟨k, si, ou, fa, i, hi, rfl, rfl, hk, HSI, HFr, HGr⟩ := hrel
    have HBr := Lib.hid (below_grown (grown_trans (grown_below (HB3.out.mono (Nat.le_refl _)) _) HGr.out) hg0.out (Nat.le_refl _))
    have LUr := LU3.out.grown HGr.out (by simpa using hgne.out)
    have u2 := LUr.cell 2
    simp only [List.getElem?_toArray, List.getElem?_cons_zero, List.getElem?_cons_succ] at u2
    clear LUr
    by_cases hin : i < n
    · have din : decide ((i : Int) < (n : Int)) = true := by simp; omega
      have din' : decide (i < n) = true := by simpa using hin
      by_cases hkw : k < wa
      · have dkw : decide (k < wa) = true := by simpa using hkw
        obtain ⟨bs, off, rfl⟩ := HS.out.form (by omega)
        have cS := (HS.out.below HBr.out).cell hin
        have hSi := HSB.out i hin
        generalize S i = s at cS hSi
        obtain ⟨own, hown⟩ : ∃ o, (bits BinOp.and IntKind.u8 s 1 == 1) = o := ⟨_, rfl⟩
        obtain ⟨far, hfar⟩ : ∃ o, (bits BinOp.and IntKind.u8 s 2 == 2) = o := ⟨_, rfl⟩
        have i0 : (0 : Int) ≤ (i : Int) := by omega
        have i1 : (i : Int) < (n : Int) := by omega
        go_wp2_with fail
        go_quiet (fail)
        have hbits : True := trivial
        clear hbits hown hfar cS hSi i0 i1
        have hfs : waitS ag mo wa si ou fa k = ⟨ag, mo, wa, false, si, ou, fa, 0, wa - k, false⟩ := by
          unfold waitS
          rw [show decide (k = wa) = false by simp; omega]
        have F0 : Hid (Fl (wr.drewN nq) g ⟨ag, mo, wa, false, si, ou, fa, 0, wa - k, false⟩) := Lib.hid (by rw [← hfs]; exact HFr.out.drewN nq)
        have G0 := Lib.hid (grown_drewN HGr.out nq)
        have okA : ∀ (o f : Bool), (⟨ag, mo, wa, false, si, o, f, 0, wa - k, false⟩ : Fs).ok := fun o f => by
          have := HSI.out
          unfold Fs.ok
          simp only
          omega
        have OKA := Lib.hid okA
        have HT := Lib.hid (fun (o f : Bool) => wait_tick ag mo wa si k o f ⟨hk.1, hkw⟩)
        clear hfs okA HFr HGr
        generalize wr.drewN nq = wd at F0 G0 ⊢
        cases own <;> cases far
        · -- own false, far false
          go_wp2_with fail
          refine (show Calls Try.prog 27 #[.pointer (some ⟨g, 0, none⟩), .bool false] wd (RetStep wd g 0 ⟨ag, mo, wa, false, si, false, fa, 0, wa - k, false⟩) from outage_any g ⟨ag, mo, wa, false, si, ou, fa, 0, wa - k, false⟩ false wd F0.out (OKA.out _ _)).mono ?_
          rintro e x1 ⟨rfl, hf1, hg1⟩
          have F1 := Lib.hid hf1
          have G1 := Lib.hid (grown_trans G0.out hg1)
          clear hf1 hg1 F0 G0
          go_wp2_with fail
          refine (show Calls Try.prog 19 #[.pointer (some ⟨g, 0, none⟩), .int .u8 4, .bool false] x1 (RetStep x1 g 0 ⟨ag, mo, wa, false, si, false, false, 0, wa - k, false⟩) from hear_any g ⟨ag, mo, wa, false, si, false, fa, 0, wa - k, false⟩ 4 false x1 F1.out (OKA.out _ _) (by decide)).mono ?_
          rintro e x2 ⟨rfl, hf2, hg2⟩
          have F2 := Lib.hid hf2
          have G2 := Lib.hid (grown_trans G1.out hg2)
          clear hf2 hg2 F1 G1
          go_wp2_with fail
          refine (show Calls Try.prog 20 #[.pointer (some ⟨g, 0, none⟩)] x2 (fun e w' => e = .returned (.tuple #[.bool false, .bool false]) ∧ Below x2.heap.size x2 w') from held_any g ⟨ag, mo, wa, false, si, false, false, 0, wa - k, false⟩ x2 F2.out).mono ?_
          rintro e x3 ⟨rfl, hb3⟩
          have F3 := Lib.hid (F2.out.kept hb3)
          have G3 := Lib.hid (grown_trans G2.out (grown_below hb3 _))
          clear hb3 F2 G2
          go_wp2_with fail
          refine (show Calls Try.prog 13 #[.pointer (some ⟨g, 0, none⟩)] x3 (fun e w' => e = .returned (.int .u8 9) ∧ x3 = w') from says_any g ⟨ag, mo, wa, false, si, false, false, 0, wa - k, false⟩ x3 F3.out (OKA.out false false).1.1).mono ?_
          rintro e x4 ⟨rfl, rfl⟩
          go_wp2_with fail
          have ht := tick_any g ⟨ag, mo, wa, false, si, false, false, 0, wa - k, false⟩ x3 F3.out (OKA.out _ _)
          rw [if_neg (show ¬ ((⟨ag, mo, wa, false, si, false, false, 0, wa - k, false⟩ : Fs).fd = true) by simp), if_neg (show ¬ ((⟨ag, mo, wa, false, si, false, false, 0, wa - k, false⟩ : Fs).fd = true) by simp), HT.out false false] at ht
          have HTK := Lib.hid (show Calls Try.prog 14 #[.pointer (some ⟨g, 0, none⟩)] x3 (RetStep x3 g 0 (waitS ag mo wa (nextSi ag si) false false (k + 1))) from ht)
          clear ht
          refine HTK.out.mono ?_
          rintro e x5 ⟨rfl, hf5, hg5⟩
          have F5 := Lib.hid hf5
          have G5 := Lib.hid (grown_trans G3.out hg5)
          have HFAIL := Lib.hid (show Calls Try.prog 15 #[.pointer (some ⟨g, 0, none⟩)] x5 (fun e w' => e = .returned (.bool (decide (k + 1 = wa))) ∧ x5 = w') from failed_any g _ x5 hf5)
          have v2 := (LU3.out.grown G5.out (by simpa using hgne.out)).cell 2
          simp only [List.getElem?_toArray, List.getElem?_cons_zero, List.getElem?_cons_succ] at v2
          obtain ⟨D, hD⟩ : ∃ D, D = decide (k + 1 = wa) := ⟨_, rfl⟩
          have kw : (k + 1 == wa) = D := by rw [hD, Bool.eq_iff_iff]; simp
          clear hf5 hg5 F3 G3
          have HQ := Lib.hid (fun (m : Nat) => quiet_left (n := m) (show Calls Try.prog 15 #[.pointer (some ⟨g, 0, none⟩)] (x5.drewN m) (fun e w' => e = .returned (.bool D) ∧ x5.drewN m = w') from by rw [hD]; exact failed_any g _ (x5.drewN m) (F5.out.drewN m)))
          clear hD HFAIL
          cases D
          all_goals
            go_wp2_with fail
            go_quiet ((go_at_call 15; exact HQ.out _))
            clear HQ
            go_wp2_with fail
            go_roundw
            case rel => exact ⟨k + 1, nextSi ag si, false, false, i + 1, by omega, rfl, by simp, by omega, Lib.hid (by have := HSI.out; unfold nextSi; split <;> omega), Lib.hid (F5.out.drewN nq), Lib.hid (grown_drewN G5.out nq)⟩
            case measure => simp [intOf]; omega
        · -- own false, far true
          go_wp2_with fail
          refine (show Calls Try.prog 27 #[.pointer (some ⟨g, 0, none⟩), .bool false] wd (RetStep wd g 0 ⟨ag, mo, wa, false, si, false, fa, 0, wa - k, false⟩) from outage_any g ⟨ag, mo, wa, false, si, ou, fa, 0, wa - k, false⟩ false wd F0.out (OKA.out _ _)).mono ?_
          rintro e x1 ⟨rfl, hf1, hg1⟩
          have F1 := Lib.hid hf1
          have G1 := Lib.hid (grown_trans G0.out hg1)
          clear hf1 hg1 F0 G0
          go_wp2_with fail
          refine (show Calls Try.prog 19 #[.pointer (some ⟨g, 0, none⟩), .int .u8 4, .bool true] x1 (RetStep x1 g 0 ⟨ag, mo, wa, false, si, false, true, 0, wa - k, false⟩) from hear_any g ⟨ag, mo, wa, false, si, false, fa, 0, wa - k, false⟩ 4 true x1 F1.out (OKA.out _ _) (by decide)).mono ?_
          rintro e x2 ⟨rfl, hf2, hg2⟩
          have F2 := Lib.hid hf2
          have G2 := Lib.hid (grown_trans G1.out hg2)
          clear hf2 hg2 F1 G1
          go_wp2_with fail
          refine (show Calls Try.prog 20 #[.pointer (some ⟨g, 0, none⟩)] x2 (fun e w' => e = .returned (.tuple #[.bool false, .bool true]) ∧ Below x2.heap.size x2 w') from held_any g ⟨ag, mo, wa, false, si, false, true, 0, wa - k, false⟩ x2 F2.out).mono ?_
          rintro e x3 ⟨rfl, hb3⟩
          have F3 := Lib.hid (F2.out.kept hb3)
          have G3 := Lib.hid (grown_trans G2.out (grown_below hb3 _))
          clear hb3 F2 G2
          go_wp2_with fail
          refine (show Calls Try.prog 13 #[.pointer (some ⟨g, 0, none⟩)] x3 (fun e w' => e = .returned (.int .u8 9) ∧ x3 = w') from says_any g ⟨ag, mo, wa, false, si, false, true, 0, wa - k, false⟩ x3 F3.out (OKA.out false false).1.1).mono ?_
          rintro e x4 ⟨rfl, rfl⟩
          go_wp2_with fail
          have ht := tick_any g ⟨ag, mo, wa, false, si, false, true, 0, wa - k, false⟩ x3 F3.out (OKA.out _ _)
          rw [if_neg (show ¬ ((⟨ag, mo, wa, false, si, false, true, 0, wa - k, false⟩ : Fs).fd = true) by simp), if_neg (show ¬ ((⟨ag, mo, wa, false, si, false, true, 0, wa - k, false⟩ : Fs).fd = true) by simp), HT.out false true] at ht
          have HTK := Lib.hid (show Calls Try.prog 14 #[.pointer (some ⟨g, 0, none⟩)] x3 (RetStep x3 g 0 (waitS ag mo wa (nextSi ag si) false true (k))) from ht)
          clear ht
          refine HTK.out.mono ?_
          rintro e x5 ⟨rfl, hf5, hg5⟩
          have F5 := Lib.hid hf5
          have G5 := Lib.hid (grown_trans G3.out hg5)
          have HFAIL := Lib.hid (show Calls Try.prog 15 #[.pointer (some ⟨g, 0, none⟩)] x5 (fun e w' => e = .returned (.bool (decide (k = wa))) ∧ x5 = w') from failed_any g _ x5 hf5)
          have v2 := (LU3.out.grown G5.out (by simpa using hgne.out)).cell 2
          simp only [List.getElem?_toArray, List.getElem?_cons_zero, List.getElem?_cons_succ] at v2
          obtain ⟨D, hD⟩ : ∃ D, D = decide (k = wa) := ⟨_, rfl⟩
          have kw : (k == wa) = D := by rw [hD, Bool.eq_iff_iff]; simp
          clear hf5 hg5 F3 G3
          have HQ := Lib.hid (fun (m : Nat) => quiet_left (n := m) (show Calls Try.prog 15 #[.pointer (some ⟨g, 0, none⟩)] (x5.drewN m) (fun e w' => e = .returned (.bool D) ∧ x5.drewN m = w') from by rw [hD]; exact failed_any g _ (x5.drewN m) (F5.out.drewN m)))
          clear hD HFAIL
          cases D
          all_goals
            go_wp2_with fail
            go_quiet ((go_at_call 15; exact HQ.out _))
            clear HQ
            go_wp2_with fail
            go_roundw
            case rel => exact ⟨k, nextSi ag si, false, true, i + 1, by omega, rfl, by simp, by omega, Lib.hid (by have := HSI.out; unfold nextSi; split <;> omega), Lib.hid (F5.out.drewN nq), Lib.hid (grown_drewN G5.out nq)⟩
            case measure => simp [intOf]; omega
        · -- own true, far false
          go_wp2_with fail
          refine (show Calls Try.prog 27 #[.pointer (some ⟨g, 0, none⟩), .bool true] wd (RetStep wd g 0 ⟨ag, mo, wa, false, si, true, fa, 0, wa - k, false⟩) from outage_any g ⟨ag, mo, wa, false, si, ou, fa, 0, wa - k, false⟩ true wd F0.out (OKA.out _ _)).mono ?_
          rintro e x1 ⟨rfl, hf1, hg1⟩
          have F1 := Lib.hid hf1
          have G1 := Lib.hid (grown_trans G0.out hg1)
          clear hf1 hg1 F0 G0
          go_wp2_with fail
          refine (show Calls Try.prog 19 #[.pointer (some ⟨g, 0, none⟩), .int .u8 4, .bool false] x1 (RetStep x1 g 0 ⟨ag, mo, wa, false, si, true, false, 0, wa - k, false⟩) from hear_any g ⟨ag, mo, wa, false, si, true, fa, 0, wa - k, false⟩ 4 false x1 F1.out (OKA.out _ _) (by decide)).mono ?_
          rintro e x2 ⟨rfl, hf2, hg2⟩
          have F2 := Lib.hid hf2
          have G2 := Lib.hid (grown_trans G1.out hg2)
          clear hf2 hg2 F1 G1
          go_wp2_with fail
          refine (show Calls Try.prog 20 #[.pointer (some ⟨g, 0, none⟩)] x2 (fun e w' => e = .returned (.tuple #[.bool false, .bool true]) ∧ Below x2.heap.size x2 w') from held_any g ⟨ag, mo, wa, false, si, true, false, 0, wa - k, false⟩ x2 F2.out).mono ?_
          rintro e x3 ⟨rfl, hb3⟩
          have F3 := Lib.hid (F2.out.kept hb3)
          have G3 := Lib.hid (grown_trans G2.out (grown_below hb3 _))
          clear hb3 F2 G2
          go_wp2_with fail
          refine (show Calls Try.prog 13 #[.pointer (some ⟨g, 0, none⟩)] x3 (fun e w' => e = .returned (.int .u8 4) ∧ x3 = w') from says_any g ⟨ag, mo, wa, false, si, true, false, 0, wa - k, false⟩ x3 F3.out (OKA.out false false).1.1).mono ?_
          rintro e x4 ⟨rfl, rfl⟩
          go_wp2_with fail
          have ht := tick_any g ⟨ag, mo, wa, false, si, true, false, 0, wa - k, false⟩ x3 F3.out (OKA.out _ _)
          rw [if_neg (show ¬ ((⟨ag, mo, wa, false, si, true, false, 0, wa - k, false⟩ : Fs).fd = true) by simp), if_neg (show ¬ ((⟨ag, mo, wa, false, si, true, false, 0, wa - k, false⟩ : Fs).fd = true) by simp), HT.out true false] at ht
          have HTK := Lib.hid (show Calls Try.prog 14 #[.pointer (some ⟨g, 0, none⟩)] x3 (RetStep x3 g 0 (waitS ag mo wa (nextSi ag si) true false (k))) from ht)
          clear ht
          refine HTK.out.mono ?_
          rintro e x5 ⟨rfl, hf5, hg5⟩
          have F5 := Lib.hid hf5
          have G5 := Lib.hid (grown_trans G3.out hg5)
          have HFAIL := Lib.hid (show Calls Try.prog 15 #[.pointer (some ⟨g, 0, none⟩)] x5 (fun e w' => e = .returned (.bool (decide (k = wa))) ∧ x5 = w') from failed_any g _ x5 hf5)
          have v2 := (LU3.out.grown G5.out (by simpa using hgne.out)).cell 2
          simp only [List.getElem?_toArray, List.getElem?_cons_zero, List.getElem?_cons_succ] at v2
          obtain ⟨D, hD⟩ : ∃ D, D = decide (k = wa) := ⟨_, rfl⟩
          have kw : (k == wa) = D := by rw [hD, Bool.eq_iff_iff]; simp
          clear hf5 hg5 F3 G3
          have HQ := Lib.hid (fun (m : Nat) => quiet_left (n := m) (show Calls Try.prog 15 #[.pointer (some ⟨g, 0, none⟩)] (x5.drewN m) (fun e w' => e = .returned (.bool D) ∧ x5.drewN m = w') from by rw [hD]; exact failed_any g _ (x5.drewN m) (F5.out.drewN m)))
          clear hD HFAIL
          cases D
          all_goals
            go_wp2_with fail
            go_quiet ((go_at_call 15; exact HQ.out _))
            clear HQ
            go_wp2_with fail
            go_roundw
            case rel => exact ⟨k, nextSi ag si, true, false, i + 1, by omega, rfl, by simp, by omega, Lib.hid (by have := HSI.out; unfold nextSi; split <;> omega), Lib.hid (F5.out.drewN nq), Lib.hid (grown_drewN G5.out nq)⟩
            case measure => simp [intOf]; omega
        · -- own true, far true
          go_wp2_with fail
          refine (show Calls Try.prog 27 #[.pointer (some ⟨g, 0, none⟩), .bool true] wd (RetStep wd g 0 ⟨ag, mo, wa, false, si, true, fa, 0, wa - k, false⟩) from outage_any g ⟨ag, mo, wa, false, si, ou, fa, 0, wa - k, false⟩ true wd F0.out (OKA.out _ _)).mono ?_
          rintro e x1 ⟨rfl, hf1, hg1⟩
          have F1 := Lib.hid hf1
          have G1 := Lib.hid (grown_trans G0.out hg1)
          clear hf1 hg1 F0 G0
          go_wp2_with fail
          refine (show Calls Try.prog 19 #[.pointer (some ⟨g, 0, none⟩), .int .u8 4, .bool true] x1 (RetStep x1 g 0 ⟨ag, mo, wa, false, si, true, true, 0, wa - k, false⟩) from hear_any g ⟨ag, mo, wa, false, si, true, fa, 0, wa - k, false⟩ 4 true x1 F1.out (OKA.out _ _) (by decide)).mono ?_
          rintro e x2 ⟨rfl, hf2, hg2⟩
          have F2 := Lib.hid hf2
          have G2 := Lib.hid (grown_trans G1.out hg2)
          clear hf2 hg2 F1 G1
          go_wp2_with fail
          refine (show Calls Try.prog 20 #[.pointer (some ⟨g, 0, none⟩)] x2 (fun e w' => e = .returned (.tuple #[.bool false, .bool true]) ∧ Below x2.heap.size x2 w') from held_any g ⟨ag, mo, wa, false, si, true, true, 0, wa - k, false⟩ x2 F2.out).mono ?_
          rintro e x3 ⟨rfl, hb3⟩
          have F3 := Lib.hid (F2.out.kept hb3)
          have G3 := Lib.hid (grown_trans G2.out (grown_below hb3 _))
          clear hb3 F2 G2
          go_wp2_with fail
          refine (show Calls Try.prog 13 #[.pointer (some ⟨g, 0, none⟩)] x3 (fun e w' => e = .returned (.int .u8 4) ∧ x3 = w') from says_any g ⟨ag, mo, wa, false, si, true, true, 0, wa - k, false⟩ x3 F3.out (OKA.out false false).1.1).mono ?_
          rintro e x4 ⟨rfl, rfl⟩
          go_wp2_with fail
          have ht := tick_any g ⟨ag, mo, wa, false, si, true, true, 0, wa - k, false⟩ x3 F3.out (OKA.out _ _)
          rw [if_neg (show ¬ ((⟨ag, mo, wa, false, si, true, true, 0, wa - k, false⟩ : Fs).fd = true) by simp), if_neg (show ¬ ((⟨ag, mo, wa, false, si, true, true, 0, wa - k, false⟩ : Fs).fd = true) by simp), HT.out true true] at ht
          have HTK := Lib.hid (show Calls Try.prog 14 #[.pointer (some ⟨g, 0, none⟩)] x3 (RetStep x3 g 0 (waitS ag mo wa (nextSi ag si) true true (k))) from ht)
          clear ht
          refine HTK.out.mono ?_
          rintro e x5 ⟨rfl, hf5, hg5⟩
          have F5 := Lib.hid hf5
          have G5 := Lib.hid (grown_trans G3.out hg5)
          have HFAIL := Lib.hid (show Calls Try.prog 15 #[.pointer (some ⟨g, 0, none⟩)] x5 (fun e w' => e = .returned (.bool (decide (k = wa))) ∧ x5 = w') from failed_any g _ x5 hf5)
          have v2 := (LU3.out.grown G5.out (by simpa using hgne.out)).cell 2
          simp only [List.getElem?_toArray, List.getElem?_cons_zero, List.getElem?_cons_succ] at v2
          obtain ⟨D, hD⟩ : ∃ D, D = decide (k = wa) := ⟨_, rfl⟩
          have kw : (k == wa) = D := by rw [hD, Bool.eq_iff_iff]; simp
          clear hf5 hg5 F3 G3
          have HQ := Lib.hid (fun (m : Nat) => quiet_left (n := m) (show Calls Try.prog 15 #[.pointer (some ⟨g, 0, none⟩)] (x5.drewN m) (fun e w' => e = .returned (.bool D) ∧ x5.drewN m = w') from by rw [hD]; exact failed_any g _ (x5.drewN m) (F5.out.drewN m)))
          clear hD HFAIL
          cases D
          all_goals
            go_wp2_with fail
            go_quiet ((go_at_call 15; exact HQ.out _))
            clear HQ
            go_wp2_with fail
            go_roundw
            case rel => exact ⟨k, nextSi ag si, true, true, i + 1, by omega, rfl, by simp, by omega, Lib.hid (by have := HSI.out; unfold nextSi; split <;> omega), Lib.hid (F5.out.drewN nq), Lib.hid (grown_drewN G5.out nq)⟩
            case measure => simp [intOf]; omega
      · have dkw : decide (k < wa) = false := by simpa using hkw
        go_wp2_with fail
        refine (lives_any _).mono ?_
        rintro e w4 ⟨rfl, hb4⟩
        go_wp2_with fail
        go_ret
        exact ⟨rfl, HBr.out.trans (hb4.mono HBr.out.size)⟩
    · have din : decide ((i : Int) < (n : Int)) = false := by simp; omega
      have din' : decide (i < n) = false := by simp; omega
      go_wp2_with fail
      refine (lives_any _).mono ?_
      rintro e w4 ⟨rfl, hb4⟩
      go_wp2_with fail
      go_ret
      exact ⟨rfl, HBr.out.trans (hb4.mono HBr.out.size)⟩
end Go.Proofs.Ytbcalbkficbppaa
