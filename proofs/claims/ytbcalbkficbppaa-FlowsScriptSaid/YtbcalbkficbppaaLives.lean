/- 'lives': the chapter's examples hold. -/
import Derived.Test.YtbcalbkficbppaaFlow4
import Derived.Test.YtbcalbkficbppaaLevels
namespace Go.Proofs.Ytbcalbkficbppaa
open Go.RowKit

theorem usual_any (w : World) : Calls Try.prog 32 #[] w fun e w' => e = .returned (.agg #[.int .i64 2, .int .i64 60, .int .i64 20]) ∧ Below w.heap.size w w' := by
  go_enter Try.func32, Try.ntmps32
  go_wp2_with fail
  have hb1 := (Below.refl _ w).alloc (Nat.le_refl _) (.cells #[.int .i64 2, .int .i64 60, .int .i64 20] 25)
  have hl := Lit0.new w 25 #[.int .i64 2, .int .i64 60, .int .i64 20]
  have q0 := hl.cell 0
  have q1 := hl.cell 1
  have q2 := hl.cell 2
  simp only [List.getElem?_toArray, List.getElem?_cons_zero, List.getElem?_cons_succ] at q0 q1 q2
  refine bodyPost_ret (v := .agg #[.int .i64 2, .int .i64 60, .int .i64 20]) (by simp [results, Try.results32, go_sem, q0, q1, q2]) rfl ⟨rfl, hb1⟩

theorem marks_any (w : World) : Calls Try.prog 31 #[] w fun e w' => e = .returned (.agg #[.int .i64 4, .int .i64 8, .int .i64 12, .int .i64 2, .int .i64 6, .int .i64 10]) ∧ Below w.heap.size w w' := by
  go_enter Try.func31, Try.ntmps31
  go_wp2_with fail
  have hb1 := (Below.refl _ w).alloc (Nat.le_refl _) (.cells #[.int .i64 4, .int .i64 8, .int .i64 12, .int .i64 2, .int .i64 6, .int .i64 10] 45)
  have hl := Lit0.new w 45 #[.int .i64 4, .int .i64 8, .int .i64 12, .int .i64 2, .int .i64 6, .int .i64 10]
  have q0 := hl.cell 0
  have q1 := hl.cell 1
  have q2 := hl.cell 2
  have q3 := hl.cell 3
  have q4 := hl.cell 4
  have q5 := hl.cell 5
  simp only [List.getElem?_toArray, List.getElem?_cons_zero, List.getElem?_cons_succ] at q0 q1 q2 q3 q4 q5
  refine bodyPost_ret (v := .agg #[.int .i64 4, .int .i64 8, .int .i64 12, .int .i64 2, .int .i64 6, .int .i64 10]) (by simp [results, Try.results31, go_sem, q0, q1, q2, q3, q4, q5]) rfl ⟨rfl, hb1⟩

theorem new_good (a b c : Int) (w : World) (h : okT a b c = true) : Calls Try.prog 11 #[.agg #[.int .i64 a, .int .i64 b, .int .i64 c]] w fun e w' => ∃ g, e = .returned (.tuple #[.pointer (some ⟨g, 0, none⟩), .int .i64 0]) ∧ w.heap.size ≤ g ∧ Fl w' g (Fs.start a b c) ∧ Below w.heap.size w w' :=
  (new_any a b c w).mono fun e w' hp => by
    rcases hp with ⟨h0, _⟩ | ⟨_, h1⟩
    · rw [h] at h0; cases h0
    · exact h1

def sA : Nat → Fs
  | 0 => ⟨2, 3, 5, true, 0, false, false, 0, 0, false⟩
  | 1 => ⟨2, 3, 5, true, 1, false, false, 0, 0, false⟩
  | 2 => ⟨2, 3, 5, true, 0, false, false, 0, 0, false⟩
  | 3 => ⟨2, 3, 5, true, 1, false, false, 0, 0, false⟩
  | 4 => ⟨2, 3, 5, true, 0, false, false, 0, 0, false⟩
  | 5 => ⟨2, 3, 5, true, 1, false, false, 0, 0, false⟩
  | _ => ⟨2, 3, 5, true, 0, false, false, 0, 0, false⟩
def sB : Nat → Fs
  | 0 => ⟨2, 3, 5, false, 0, false, false, 0, 5, false⟩
  | 1 => ⟨2, 3, 5, false, 1, false, false, 2, 4, false⟩
  | 2 => ⟨2, 3, 5, false, 0, false, false, 1, 3, false⟩
  | 3 => ⟨2, 3, 5, false, 1, false, false, 0, 4, true⟩
  | 4 => ⟨2, 3, 5, false, 1, false, false, 0, 4, true⟩
  | 5 => ⟨2, 3, 5, false, 1, false, false, 0, 4, true⟩
  | _ => ⟨2, 3, 5, false, 1, false, false, 0, 4, true⟩
def sC : Nat → Fs
  | 0 => ⟨2, 3, 5, false, 0, false, false, 0, 5, false⟩
  | 1 => ⟨2, 3, 5, false, 1, false, false, 2, 4, false⟩
  | 2 => ⟨2, 3, 5, false, 0, false, false, 0, 4, false⟩
  | 3 => ⟨2, 3, 5, false, 1, false, false, 0, 3, false⟩
  | 4 => ⟨2, 3, 5, false, 0, false, false, 0, 2, false⟩
  | 5 => ⟨2, 3, 5, false, 1, false, false, 0, 1, false⟩
  | _ => ⟨2, 3, 5, false, 0, false, false, 0, 0, true⟩

def exLens (k : Nat) : Int := ([3, 4, 3, 2, 9, 7, 6, 20] : List Int).getD k 0
def exWant (k : Nat) : Int := ([0, 1, 1, 0, 2, 2, 1, 3] : List Int).getD k 0
theorem exWant_is : ∀ k : Fin 8, lvs 4 8 12 2 6 10 exLens (k.val + 1) = exWant k.val := by decide +kernel

set_option maxRecDepth 100000 in
set_option maxHeartbeats 4000000 in
theorem lives_any (w : World) : Calls Try.prog 16 #[] w (RetBool w true) := by
  have hb0 := (Below.refl _ w).alloc (Nat.le_refl _) (.cells #[.int .i64 2, .int .i64 3, .int .i64 5] 25)
  have hl0 := Lit0.new w 25 #[.int .i64 2, .int .i64 3, .int .i64 5]
  have HB0 := Lib.hid hb0
  have HL0 := Lib.hid hl0
  clear hb0 hl0
  go_enter Try.func16, Try.ntmps16
  go_wp2_with fail
  generalize w.alloc (.cells #[.int .i64 2, .int .i64 3, .int .i64 5] 25) = w1 at HB0 HL0 ⊢
  refine (new_good 2 3 5 w1 (by decide)).mono ?_
  rintro e w2 ⟨ga, rfl, hga, hfa, hb⟩
  have L2 := HL0.out.kept hb
  have c0 := L2.cell 0
  have c1 := L2.cell 1
  have c2 := L2.cell 2
  simp only [List.getElem?_toArray, List.getElem?_cons_zero, List.getElem?_cons_succ] at c0 c1 c2
  have HL2 := Lib.hid L2
  have HA2 := Lib.hid hfa
  have HB2 := Lib.hid (HB0.out.trans (hb.mono HB0.out.size))
  have hga' := Nat.le_trans HB0.out.size hga
  clear hfa hb hga HB0 HL0 L2
  go_wp2_with fail
  refine (new_good 2 3 5 w2 (by decide)).mono ?_
  rintro e w3 ⟨gb, rfl, hgb, hfb, hb⟩
  have L3 := HL2.out.kept hb
  have c0' := L3.cell 0
  have c1' := L3.cell 1
  have c2' := L3.cell 2
  simp only [List.getElem?_toArray, List.getElem?_cons_zero, List.getElem?_cons_succ] at c0' c1' c2'
  have HA3 := Lib.hid (HA2.out.kept hb)
  have HF3 := Lib.hid hfb
  have hab : ga < gb := Nat.lt_of_lt_of_le HA2.out.lt hgb
  have HB3 := Lib.hid (HB2.out.trans (hb.mono HB2.out.size))
  have hgb' := Nat.le_trans HB2.out.size hgb
  clear hfb hb hgb HB2 HL2 HA2 L3 c0 c1 c2
  go_wp2_with fail
  refine (new_good 2 3 5 w3 (by decide)).mono ?_
  rintro e w4 ⟨gc, rfl, hgc, hfc, hb⟩
  have hbc : gb < gc := Nat.lt_of_lt_of_le HF3.out.lt hgc
  have Fga := Lib.hid (HA3.out.kept hb)
  have Fgb := Lib.hid (HF3.out.kept hb)
  have Fgc := Lib.hid hfc
  have FB := Lib.hid (HB3.out.trans (hb.mono HB3.out.size))
  have hgc' := Nat.le_trans HB3.out.size hgc
  have NE := Lib.hid (show ga ≠ gb ∧ ga ≠ gc ∧ gb ≠ gc ∧ gb ≠ ga ∧ gc ≠ ga ∧ gc ≠ gb by omega)
  have GE := Lib.hid (show w.heap.size ≤ ga ∧ w.heap.size ≤ gb ∧ w.heap.size ≤ gc from ⟨hga', hgb', hgc'⟩)
  clear hfc hb hgc HB3 HA3 HF3 c0' c1' c2' hga' hgb' hgc' hab hbc
  go_wp2_with fail
  refine (show Calls Try.prog 12 #[.pointer (some ⟨ga, 0, none⟩), .bool true] w4 (RetStep w4 ga 0 ⟨2, 3, 5, true, 0, false, false, 0, 0, false⟩) from congest_any ga (Fs.start 2 3 5) true w4 Fga.out (by unfold Fs.ok; decide)).mono ?_
  rintro e v0 ⟨rfl, hf, hg⟩
  have Xga := Lib.hid hf
  have Xgb := Lib.hid (Fgb.out.grown hg (by simpa using NE.out.2.2.2.1))
  have Xgc := Lib.hid (Fgc.out.grown hg (by simpa using NE.out.2.2.2.2.1))
  have XB := Lib.hid (below_grown (grown_trans (grown_below (FB.out.mono (Nat.le_refl _)) _) hg) GE.out.1 (Nat.le_refl _))
  clear hf hg Fga Fgb Fgc FB
  have Fga := Xga
  have Fgb := Xgb
  have Fgc := Xgc
  have FB := XB
  clear Xga Xgb Xgc XB
  go_wp2_with fail
  refine (show Calls Try.prog 17 #[.pointer (some ⟨gb, 0, none⟩), .bool true, .bool false] v0 (RetStep v0 gb 0 ⟨2, 3, 5, false, 0, false, false, 0, 5, false⟩) from open_any gb (Fs.start 2 3 5) true false v0 Fgb.out (by unfold Fs.ok; decide)).mono ?_
  rintro e v1 ⟨rfl, hf, hg⟩
  have Xga := Lib.hid (Fga.out.grown hg (by simpa using NE.out.1))
  have Xgb := Lib.hid hf
  have Xgc := Lib.hid (Fgc.out.grown hg (by simpa using NE.out.2.2.2.2.2))
  have XB := Lib.hid (below_grown (grown_trans (grown_below (FB.out.mono (Nat.le_refl _)) _) hg) GE.out.2.1 (Nat.le_refl _))
  clear hf hg Fga Fgb Fgc FB
  have Fga := Xga
  have Fgb := Xgb
  have Fgc := Xgc
  have FB := XB
  clear Xga Xgb Xgc XB
  go_wp2_with fail
  refine (show Calls Try.prog 17 #[.pointer (some ⟨gc, 0, none⟩), .bool true, .bool false] v1 (RetStep v1 gc 0 ⟨2, 3, 5, false, 0, false, false, 0, 5, false⟩) from open_any gc (Fs.start 2 3 5) true false v1 Fgc.out (by unfold Fs.ok; decide)).mono ?_
  rintro e v2 ⟨rfl, hf, hg⟩
  have Xga := Lib.hid (Fga.out.grown hg (by simpa using NE.out.2.1))
  have Xgb := Lib.hid (Fgb.out.grown hg (by simpa using NE.out.2.2.1))
  have Xgc := Lib.hid hf
  have XB := Lib.hid (below_grown (grown_trans (grown_below (FB.out.mono (Nat.le_refl _)) _) hg) GE.out.2.2 (Nat.le_refl _))
  clear hf hg Fga Fgb Fgc FB
  have Fga := Xga
  have Fgb := Xgb
  have Fgc := Xgc
  have FB := XB
  clear Xga Xgb Xgc XB
  go_wp2_with fail
  go_loopw [8] (fun v wr => ∃ k : Nat, k ≤ 6 ∧ v = .int .i64 k ∧ Hid (Fl wr ga (sA k)) ∧ Hid (Fl wr gb (sB k)) ∧ Hid (Fl wr gc (sC k)) ∧ Hid (Below w.heap.size w wr)) (fun v _ => 6 - (intOf v).toNat)
  case atStart => exact ⟨0, by decide, rfl, Fga, Fgb, Fgc, FB⟩
  case round =>
    obtain ⟨k, hk, rfl, HA, HB, HC, HBB⟩ := hrel
    have hk' : k = 0 ∨ k = 1 ∨ k = 2 ∨ k = 3 ∨ k = 4 ∨ k = 5 ∨ k = 6 := by omega
    rcases hk' with rfl | rfl | rfl | rfl | rfl | rfl | rfl
    · -- round 0
      have Fga : Hid (Fl wr ga ⟨2, 3, 5, true, 0, false, false, 0, 0, false⟩) := HA
      have Fgb : Hid (Fl wr gb ⟨2, 3, 5, false, 0, false, false, 0, 5, false⟩) := HB
      have Fgc : Hid (Fl wr gc ⟨2, 3, 5, false, 0, false, false, 0, 5, false⟩) := HC
      have FB := HBB
      clear HA HB HC HBB
      go_wp2_with fail
      refine (show Calls Try.prog 13 #[.pointer (some ⟨ga, 0, none⟩)] wr (fun e w' => e = .returned (.int .u8 5) ∧ wr = w') from says_any ga ⟨2, 3, 5, true, 0, false, false, 0, 0, false⟩ wr Fga.out (by decide)).mono ?_
      rintro e x0 ⟨rfl, rfl⟩
      go_wp2_with fail
      refine (show Calls Try.prog 19 #[.pointer (some ⟨gb, 0, none⟩), .int .u8 5, .bool true] wr (RetStep wr gb 0 ⟨2, 3, 5, false, 0, false, false, 3, 5, false⟩) from hear_any gb ⟨2, 3, 5, false, 0, false, false, 0, 5, false⟩ 5 true wr Fgb.out (by unfold Fs.ok; decide) (by decide)).mono ?_
      rintro e x1 ⟨rfl, hf, hg⟩
      have Xga := Lib.hid (Fga.out.grown hg (by simpa using NE.out.1))
      have Xgb := Lib.hid hf
      have Xgc := Lib.hid (Fgc.out.grown hg (by simpa using NE.out.2.2.2.2.2))
      have XB := Lib.hid (below_grown (grown_trans (grown_below (FB.out.mono (Nat.le_refl _)) _) hg) GE.out.2.1 (Nat.le_refl _))
      clear hf hg Fga Fgb Fgc FB
      have Fga := Xga
      have Fgb := Xgb
      have Fgc := Xgc
      have FB := XB
      clear Xga Xgb Xgc XB
      go_wp2_with fail
      refine (show Calls Try.prog 19 #[.pointer (some ⟨gc, 0, none⟩), .int .u8 5, .bool true] x1 (RetStep x1 gc 0 ⟨2, 3, 5, false, 0, false, false, 3, 5, false⟩) from hear_any gc ⟨2, 3, 5, false, 0, false, false, 0, 5, false⟩ 5 true x1 Fgc.out (by unfold Fs.ok; decide) (by decide)).mono ?_
      rintro e x2 ⟨rfl, hf, hg⟩
      have Xga := Lib.hid (Fga.out.grown hg (by simpa using NE.out.2.1))
      have Xgb := Lib.hid (Fgb.out.grown hg (by simpa using NE.out.2.2.1))
      have Xgc := Lib.hid hf
      have XB := Lib.hid (below_grown (grown_trans (grown_below (FB.out.mono (Nat.le_refl _)) _) hg) GE.out.2.2 (Nat.le_refl _))
      clear hf hg Fga Fgb Fgc FB
      have Fga := Xga
      have Fgb := Xgb
      have Fgc := Xgc
      have FB := XB
      clear Xga Xgb Xgc XB
      go_wp2_with fail
      refine (show Calls Try.prog 14 #[.pointer (some ⟨ga, 0, none⟩)] x2 (RetStep x2 ga 0 ⟨2, 3, 5, true, 1, false, false, 0, 0, false⟩) from tick_any ga ⟨2, 3, 5, true, 0, false, false, 0, 0, false⟩ x2 Fga.out (by unfold Fs.ok; decide)).mono ?_
      rintro e x3 ⟨rfl, hf, hg⟩
      have Xga := Lib.hid hf
      have Xgb := Lib.hid (Fgb.out.grown hg (by simpa using NE.out.2.2.2.1))
      have Xgc := Lib.hid (Fgc.out.grown hg (by simpa using NE.out.2.2.2.2.1))
      have XB := Lib.hid (below_grown (grown_trans (grown_below (FB.out.mono (Nat.le_refl _)) _) hg) GE.out.1 (Nat.le_refl _))
      clear hf hg Fga Fgb Fgc FB
      have Fga := Xga
      have Fgb := Xgb
      have Fgc := Xgc
      have FB := XB
      clear Xga Xgb Xgc XB
      go_wp2_with fail
      refine (show Calls Try.prog 14 #[.pointer (some ⟨gb, 0, none⟩)] x3 (RetStep x3 gb 0 ⟨2, 3, 5, false, 1, false, false, 2, 4, false⟩) from tick_any gb ⟨2, 3, 5, false, 0, false, false, 3, 5, false⟩ x3 Fgb.out (by unfold Fs.ok; decide)).mono ?_
      rintro e x4 ⟨rfl, hf, hg⟩
      have Xga := Lib.hid (Fga.out.grown hg (by simpa using NE.out.1))
      have Xgb := Lib.hid hf
      have Xgc := Lib.hid (Fgc.out.grown hg (by simpa using NE.out.2.2.2.2.2))
      have XB := Lib.hid (below_grown (grown_trans (grown_below (FB.out.mono (Nat.le_refl _)) _) hg) GE.out.2.1 (Nat.le_refl _))
      clear hf hg Fga Fgb Fgc FB
      have Fga := Xga
      have Fgb := Xgb
      have Fgc := Xgc
      have FB := XB
      clear Xga Xgb Xgc XB
      go_wp2_with fail
      refine (show Calls Try.prog 14 #[.pointer (some ⟨gc, 0, none⟩)] x4 (RetStep x4 gc 0 ⟨2, 3, 5, false, 1, false, false, 2, 4, false⟩) from tick_any gc ⟨2, 3, 5, false, 0, false, false, 3, 5, false⟩ x4 Fgc.out (by unfold Fs.ok; decide)).mono ?_
      rintro e x5 ⟨rfl, hf, hg⟩
      have Xga := Lib.hid (Fga.out.grown hg (by simpa using NE.out.2.1))
      have Xgb := Lib.hid (Fgb.out.grown hg (by simpa using NE.out.2.2.1))
      have Xgc := Lib.hid hf
      have XB := Lib.hid (below_grown (grown_trans (grown_below (FB.out.mono (Nat.le_refl _)) _) hg) GE.out.2.2 (Nat.le_refl _))
      clear hf hg Fga Fgb Fgc FB
      have Fga := Xga
      have Fgb := Xgb
      have Fgc := Xgc
      have FB := XB
      clear Xga Xgb Xgc XB
      go_wp2_with fail
      refine (failed_any gb ⟨2, 3, 5, false, 1, false, false, 2, 4, false⟩ x5 Fgb.out).mono ?_
      rintro e y0 ⟨rfl, rfl⟩
      go_wp2_with fail
      refine (failed_any gc ⟨2, 3, 5, false, 1, false, false, 2, 4, false⟩ x5 Fgc.out).mono ?_
      rintro e y1 ⟨rfl, rfl⟩
      go_wp2_with fail
      go_roundw
      case rel => exact ⟨1, by decide, rfl, Fga, Fgb, Fgc, FB⟩
      case measure => simp [intOf]
    · -- round 1
      have Fga : Hid (Fl wr ga ⟨2, 3, 5, true, 1, false, false, 0, 0, false⟩) := HA
      have Fgb : Hid (Fl wr gb ⟨2, 3, 5, false, 1, false, false, 2, 4, false⟩) := HB
      have Fgc : Hid (Fl wr gc ⟨2, 3, 5, false, 1, false, false, 2, 4, false⟩) := HC
      have FB := HBB
      clear HA HB HC HBB
      go_wp2_with fail
      refine (show Calls Try.prog 13 #[.pointer (some ⟨ga, 0, none⟩)] wr (fun e w' => e = .returned (.int .u8 9) ∧ wr = w') from says_any ga ⟨2, 3, 5, true, 1, false, false, 0, 0, false⟩ wr Fga.out (by decide)).mono ?_
      rintro e x0 ⟨rfl, rfl⟩
      go_wp2_with fail
      refine (show Calls Try.prog 17 #[.pointer (some ⟨gc, 0, none⟩), .bool true, .bool true] wr (RetStep wr gc 0 ⟨2, 3, 5, false, 1, false, false, 0, 5, false⟩) from open_any gc ⟨2, 3, 5, false, 1, false, false, 2, 4, false⟩ true true wr Fgc.out (by unfold Fs.ok; decide)).mono ?_
      rintro e x1 ⟨rfl, hf, hg⟩
      have Xga := Lib.hid (Fga.out.grown hg (by simpa using NE.out.2.1))
      have Xgb := Lib.hid (Fgb.out.grown hg (by simpa using NE.out.2.2.1))
      have Xgc := Lib.hid hf
      have XB := Lib.hid (below_grown (grown_trans (grown_below (FB.out.mono (Nat.le_refl _)) _) hg) GE.out.2.2 (Nat.le_refl _))
      clear hf hg Fga Fgb Fgc FB
      have Fga := Xga
      have Fgb := Xgb
      have Fgc := Xgc
      have FB := XB
      clear Xga Xgb Xgc XB
      go_wp2_with fail
      refine (show Calls Try.prog 14 #[.pointer (some ⟨ga, 0, none⟩)] x1 (RetStep x1 ga 0 ⟨2, 3, 5, true, 0, false, false, 0, 0, false⟩) from tick_any ga ⟨2, 3, 5, true, 1, false, false, 0, 0, false⟩ x1 Fga.out (by unfold Fs.ok; decide)).mono ?_
      rintro e x2 ⟨rfl, hf, hg⟩
      have Xga := Lib.hid hf
      have Xgb := Lib.hid (Fgb.out.grown hg (by simpa using NE.out.2.2.2.1))
      have Xgc := Lib.hid (Fgc.out.grown hg (by simpa using NE.out.2.2.2.2.1))
      have XB := Lib.hid (below_grown (grown_trans (grown_below (FB.out.mono (Nat.le_refl _)) _) hg) GE.out.1 (Nat.le_refl _))
      clear hf hg Fga Fgb Fgc FB
      have Fga := Xga
      have Fgb := Xgb
      have Fgc := Xgc
      have FB := XB
      clear Xga Xgb Xgc XB
      go_wp2_with fail
      refine (show Calls Try.prog 14 #[.pointer (some ⟨gb, 0, none⟩)] x2 (RetStep x2 gb 0 ⟨2, 3, 5, false, 0, false, false, 1, 3, false⟩) from tick_any gb ⟨2, 3, 5, false, 1, false, false, 2, 4, false⟩ x2 Fgb.out (by unfold Fs.ok; decide)).mono ?_
      rintro e x3 ⟨rfl, hf, hg⟩
      have Xga := Lib.hid (Fga.out.grown hg (by simpa using NE.out.1))
      have Xgb := Lib.hid hf
      have Xgc := Lib.hid (Fgc.out.grown hg (by simpa using NE.out.2.2.2.2.2))
      have XB := Lib.hid (below_grown (grown_trans (grown_below (FB.out.mono (Nat.le_refl _)) _) hg) GE.out.2.1 (Nat.le_refl _))
      clear hf hg Fga Fgb Fgc FB
      have Fga := Xga
      have Fgb := Xgb
      have Fgc := Xgc
      have FB := XB
      clear Xga Xgb Xgc XB
      go_wp2_with fail
      refine (show Calls Try.prog 14 #[.pointer (some ⟨gc, 0, none⟩)] x3 (RetStep x3 gc 0 ⟨2, 3, 5, false, 0, false, false, 0, 4, false⟩) from tick_any gc ⟨2, 3, 5, false, 1, false, false, 0, 5, false⟩ x3 Fgc.out (by unfold Fs.ok; decide)).mono ?_
      rintro e x4 ⟨rfl, hf, hg⟩
      have Xga := Lib.hid (Fga.out.grown hg (by simpa using NE.out.2.1))
      have Xgb := Lib.hid (Fgb.out.grown hg (by simpa using NE.out.2.2.1))
      have Xgc := Lib.hid hf
      have XB := Lib.hid (below_grown (grown_trans (grown_below (FB.out.mono (Nat.le_refl _)) _) hg) GE.out.2.2 (Nat.le_refl _))
      clear hf hg Fga Fgb Fgc FB
      have Fga := Xga
      have Fgb := Xgb
      have Fgc := Xgc
      have FB := XB
      clear Xga Xgb Xgc XB
      go_wp2_with fail
      refine (failed_any gb ⟨2, 3, 5, false, 0, false, false, 1, 3, false⟩ x4 Fgb.out).mono ?_
      rintro e y0 ⟨rfl, rfl⟩
      go_wp2_with fail
      refine (failed_any gc ⟨2, 3, 5, false, 0, false, false, 0, 4, false⟩ x4 Fgc.out).mono ?_
      rintro e y1 ⟨rfl, rfl⟩
      go_wp2_with fail
      go_roundw
      case rel => exact ⟨2, by decide, rfl, Fga, Fgb, Fgc, FB⟩
      case measure => simp [intOf]
    · -- round 2
      have Fga : Hid (Fl wr ga ⟨2, 3, 5, true, 0, false, false, 0, 0, false⟩) := HA
      have Fgb : Hid (Fl wr gb ⟨2, 3, 5, false, 0, false, false, 1, 3, false⟩) := HB
      have Fgc : Hid (Fl wr gc ⟨2, 3, 5, false, 0, false, false, 0, 4, false⟩) := HC
      have FB := HBB
      clear HA HB HC HBB
      go_wp2_with fail
      refine (show Calls Try.prog 13 #[.pointer (some ⟨ga, 0, none⟩)] wr (fun e w' => e = .returned (.int .u8 5) ∧ wr = w') from says_any ga ⟨2, 3, 5, true, 0, false, false, 0, 0, false⟩ wr Fga.out (by decide)).mono ?_
      rintro e x0 ⟨rfl, rfl⟩
      go_wp2_with fail
      refine (show Calls Try.prog 19 #[.pointer (some ⟨gb, 0, none⟩), .int .u8 5, .bool true] wr (RetStep wr gb 0 ⟨2, 3, 5, false, 0, false, false, 1, 5, false⟩) from hear_any gb ⟨2, 3, 5, false, 0, false, false, 1, 3, false⟩ 5 true wr Fgb.out (by unfold Fs.ok; decide) (by decide)).mono ?_
      rintro e x1 ⟨rfl, hf, hg⟩
      have Xga := Lib.hid (Fga.out.grown hg (by simpa using NE.out.1))
      have Xgb := Lib.hid hf
      have Xgc := Lib.hid (Fgc.out.grown hg (by simpa using NE.out.2.2.2.2.2))
      have XB := Lib.hid (below_grown (grown_trans (grown_below (FB.out.mono (Nat.le_refl _)) _) hg) GE.out.2.1 (Nat.le_refl _))
      clear hf hg Fga Fgb Fgc FB
      have Fga := Xga
      have Fgb := Xgb
      have Fgc := Xgc
      have FB := XB
      clear Xga Xgb Xgc XB
      go_wp2_with fail
      refine (show Calls Try.prog 19 #[.pointer (some ⟨gc, 0, none⟩), .int .u8 5, .bool false] x1 (RetStep x1 gc 0 ⟨2, 3, 5, false, 0, false, false, 0, 4, false⟩) from hear_any gc ⟨2, 3, 5, false, 0, false, false, 0, 4, false⟩ 5 false x1 Fgc.out (by unfold Fs.ok; decide) (by decide)).mono ?_
      rintro e x2 ⟨rfl, hf, hg⟩
      have Xga := Lib.hid (Fga.out.grown hg (by simpa using NE.out.2.1))
      have Xgb := Lib.hid (Fgb.out.grown hg (by simpa using NE.out.2.2.1))
      have Xgc := Lib.hid hf
      have XB := Lib.hid (below_grown (grown_trans (grown_below (FB.out.mono (Nat.le_refl _)) _) hg) GE.out.2.2 (Nat.le_refl _))
      clear hf hg Fga Fgb Fgc FB
      have Fga := Xga
      have Fgb := Xgb
      have Fgc := Xgc
      have FB := XB
      clear Xga Xgb Xgc XB
      go_wp2_with fail
      refine (show Calls Try.prog 14 #[.pointer (some ⟨ga, 0, none⟩)] x2 (RetStep x2 ga 0 ⟨2, 3, 5, true, 1, false, false, 0, 0, false⟩) from tick_any ga ⟨2, 3, 5, true, 0, false, false, 0, 0, false⟩ x2 Fga.out (by unfold Fs.ok; decide)).mono ?_
      rintro e x3 ⟨rfl, hf, hg⟩
      have Xga := Lib.hid hf
      have Xgb := Lib.hid (Fgb.out.grown hg (by simpa using NE.out.2.2.2.1))
      have Xgc := Lib.hid (Fgc.out.grown hg (by simpa using NE.out.2.2.2.2.1))
      have XB := Lib.hid (below_grown (grown_trans (grown_below (FB.out.mono (Nat.le_refl _)) _) hg) GE.out.1 (Nat.le_refl _))
      clear hf hg Fga Fgb Fgc FB
      have Fga := Xga
      have Fgb := Xgb
      have Fgc := Xgc
      have FB := XB
      clear Xga Xgb Xgc XB
      go_wp2_with fail
      refine (show Calls Try.prog 14 #[.pointer (some ⟨gb, 0, none⟩)] x3 (RetStep x3 gb 0 ⟨2, 3, 5, false, 1, false, false, 0, 4, true⟩) from tick_any gb ⟨2, 3, 5, false, 0, false, false, 1, 5, false⟩ x3 Fgb.out (by unfold Fs.ok; decide)).mono ?_
      rintro e x4 ⟨rfl, hf, hg⟩
      have Xga := Lib.hid (Fga.out.grown hg (by simpa using NE.out.1))
      have Xgb := Lib.hid hf
      have Xgc := Lib.hid (Fgc.out.grown hg (by simpa using NE.out.2.2.2.2.2))
      have XB := Lib.hid (below_grown (grown_trans (grown_below (FB.out.mono (Nat.le_refl _)) _) hg) GE.out.2.1 (Nat.le_refl _))
      clear hf hg Fga Fgb Fgc FB
      have Fga := Xga
      have Fgb := Xgb
      have Fgc := Xgc
      have FB := XB
      clear Xga Xgb Xgc XB
      go_wp2_with fail
      refine (show Calls Try.prog 14 #[.pointer (some ⟨gc, 0, none⟩)] x4 (RetStep x4 gc 0 ⟨2, 3, 5, false, 1, false, false, 0, 3, false⟩) from tick_any gc ⟨2, 3, 5, false, 0, false, false, 0, 4, false⟩ x4 Fgc.out (by unfold Fs.ok; decide)).mono ?_
      rintro e x5 ⟨rfl, hf, hg⟩
      have Xga := Lib.hid (Fga.out.grown hg (by simpa using NE.out.2.1))
      have Xgb := Lib.hid (Fgb.out.grown hg (by simpa using NE.out.2.2.1))
      have Xgc := Lib.hid hf
      have XB := Lib.hid (below_grown (grown_trans (grown_below (FB.out.mono (Nat.le_refl _)) _) hg) GE.out.2.2 (Nat.le_refl _))
      clear hf hg Fga Fgb Fgc FB
      have Fga := Xga
      have Fgb := Xgb
      have Fgc := Xgc
      have FB := XB
      clear Xga Xgb Xgc XB
      go_wp2_with fail
      refine (failed_any gb ⟨2, 3, 5, false, 1, false, false, 0, 4, true⟩ x5 Fgb.out).mono ?_
      rintro e y0 ⟨rfl, rfl⟩
      go_wp2_with fail
      refine (failed_any gc ⟨2, 3, 5, false, 1, false, false, 0, 3, false⟩ x5 Fgc.out).mono ?_
      rintro e y1 ⟨rfl, rfl⟩
      go_wp2_with fail
      go_roundw
      case rel => exact ⟨3, by decide, rfl, Fga, Fgb, Fgc, FB⟩
      case measure => simp [intOf]
    · -- round 3
      have Fga : Hid (Fl wr ga ⟨2, 3, 5, true, 1, false, false, 0, 0, false⟩) := HA
      have Fgb : Hid (Fl wr gb ⟨2, 3, 5, false, 1, false, false, 0, 4, true⟩) := HB
      have Fgc : Hid (Fl wr gc ⟨2, 3, 5, false, 1, false, false, 0, 3, false⟩) := HC
      have FB := HBB
      clear HA HB HC HBB
      go_wp2_with fail
      refine (show Calls Try.prog 13 #[.pointer (some ⟨ga, 0, none⟩)] wr (fun e w' => e = .returned (.int .u8 9) ∧ wr = w') from says_any ga ⟨2, 3, 5, true, 1, false, false, 0, 0, false⟩ wr Fga.out (by decide)).mono ?_
      rintro e x0 ⟨rfl, rfl⟩
      go_wp2_with fail
      refine (show Calls Try.prog 14 #[.pointer (some ⟨ga, 0, none⟩)] wr (RetStep wr ga 0 ⟨2, 3, 5, true, 0, false, false, 0, 0, false⟩) from tick_any ga ⟨2, 3, 5, true, 1, false, false, 0, 0, false⟩ wr Fga.out (by unfold Fs.ok; decide)).mono ?_
      rintro e x1 ⟨rfl, hf, hg⟩
      have Xga := Lib.hid hf
      have Xgb := Lib.hid (Fgb.out.grown hg (by simpa using NE.out.2.2.2.1))
      have Xgc := Lib.hid (Fgc.out.grown hg (by simpa using NE.out.2.2.2.2.1))
      have XB := Lib.hid (below_grown (grown_trans (grown_below (FB.out.mono (Nat.le_refl _)) _) hg) GE.out.1 (Nat.le_refl _))
      clear hf hg Fga Fgb Fgc FB
      have Fga := Xga
      have Fgb := Xgb
      have Fgc := Xgc
      have FB := XB
      clear Xga Xgb Xgc XB
      go_wp2_with fail
      refine (show Calls Try.prog 14 #[.pointer (some ⟨gb, 0, none⟩)] x1 (RetStep x1 gb 6 ⟨2, 3, 5, false, 1, false, false, 0, 4, true⟩) from tick_any gb ⟨2, 3, 5, false, 1, false, false, 0, 4, true⟩ x1 Fgb.out (by unfold Fs.ok; decide)).mono ?_
      rintro e x2 ⟨rfl, hf, hg⟩
      have Xga := Lib.hid (Fga.out.grown hg (by simpa using NE.out.1))
      have Xgb := Lib.hid hf
      have Xgc := Lib.hid (Fgc.out.grown hg (by simpa using NE.out.2.2.2.2.2))
      have XB := Lib.hid (below_grown (grown_trans (grown_below (FB.out.mono (Nat.le_refl _)) _) hg) GE.out.2.1 (Nat.le_refl _))
      clear hf hg Fga Fgb Fgc FB
      have Fga := Xga
      have Fgb := Xgb
      have Fgc := Xgc
      have FB := XB
      clear Xga Xgb Xgc XB
      go_wp2_with fail
      refine (show Calls Try.prog 14 #[.pointer (some ⟨gc, 0, none⟩)] x2 (RetStep x2 gc 0 ⟨2, 3, 5, false, 0, false, false, 0, 2, false⟩) from tick_any gc ⟨2, 3, 5, false, 1, false, false, 0, 3, false⟩ x2 Fgc.out (by unfold Fs.ok; decide)).mono ?_
      rintro e x3 ⟨rfl, hf, hg⟩
      have Xga := Lib.hid (Fga.out.grown hg (by simpa using NE.out.2.1))
      have Xgb := Lib.hid (Fgb.out.grown hg (by simpa using NE.out.2.2.1))
      have Xgc := Lib.hid hf
      have XB := Lib.hid (below_grown (grown_trans (grown_below (FB.out.mono (Nat.le_refl _)) _) hg) GE.out.2.2 (Nat.le_refl _))
      clear hf hg Fga Fgb Fgc FB
      have Fga := Xga
      have Fgb := Xgb
      have Fgc := Xgc
      have FB := XB
      clear Xga Xgb Xgc XB
      go_wp2_with fail
      refine (failed_any gb ⟨2, 3, 5, false, 1, false, false, 0, 4, true⟩ x3 Fgb.out).mono ?_
      rintro e y0 ⟨rfl, rfl⟩
      go_wp2_with fail
      refine (failed_any gc ⟨2, 3, 5, false, 0, false, false, 0, 2, false⟩ x3 Fgc.out).mono ?_
      rintro e y1 ⟨rfl, rfl⟩
      go_wp2_with fail
      go_roundw
      case rel => exact ⟨4, by decide, rfl, Fga, Fgb, Fgc, FB⟩
      case measure => simp [intOf]
    · -- round 4
      have Fga : Hid (Fl wr ga ⟨2, 3, 5, true, 0, false, false, 0, 0, false⟩) := HA
      have Fgb : Hid (Fl wr gb ⟨2, 3, 5, false, 1, false, false, 0, 4, true⟩) := HB
      have Fgc : Hid (Fl wr gc ⟨2, 3, 5, false, 0, false, false, 0, 2, false⟩) := HC
      have FB := HBB
      clear HA HB HC HBB
      go_wp2_with fail
      refine (show Calls Try.prog 13 #[.pointer (some ⟨ga, 0, none⟩)] wr (fun e w' => e = .returned (.int .u8 5) ∧ wr = w') from says_any ga ⟨2, 3, 5, true, 0, false, false, 0, 0, false⟩ wr Fga.out (by decide)).mono ?_
      rintro e x0 ⟨rfl, rfl⟩
      go_wp2_with fail
      refine (show Calls Try.prog 19 #[.pointer (some ⟨gb, 0, none⟩), .int .u8 5, .bool true] wr (RetStep wr gb 6 ⟨2, 3, 5, false, 1, false, false, 0, 4, true⟩) from hear_any gb ⟨2, 3, 5, false, 1, false, false, 0, 4, true⟩ 5 true wr Fgb.out (by unfold Fs.ok; decide) (by decide)).mono ?_
      rintro e x1 ⟨rfl, hf, hg⟩
      have Xga := Lib.hid (Fga.out.grown hg (by simpa using NE.out.1))
      have Xgb := Lib.hid hf
      have Xgc := Lib.hid (Fgc.out.grown hg (by simpa using NE.out.2.2.2.2.2))
      have XB := Lib.hid (below_grown (grown_trans (grown_below (FB.out.mono (Nat.le_refl _)) _) hg) GE.out.2.1 (Nat.le_refl _))
      clear hf hg Fga Fgb Fgc FB
      have Fga := Xga
      have Fgb := Xgb
      have Fgc := Xgc
      have FB := XB
      clear Xga Xgb Xgc XB
      go_wp2_with fail
      refine (show Calls Try.prog 19 #[.pointer (some ⟨gc, 0, none⟩), .int .u8 5, .bool false] x1 (RetStep x1 gc 0 ⟨2, 3, 5, false, 0, false, false, 0, 2, false⟩) from hear_any gc ⟨2, 3, 5, false, 0, false, false, 0, 2, false⟩ 5 false x1 Fgc.out (by unfold Fs.ok; decide) (by decide)).mono ?_
      rintro e x2 ⟨rfl, hf, hg⟩
      have Xga := Lib.hid (Fga.out.grown hg (by simpa using NE.out.2.1))
      have Xgb := Lib.hid (Fgb.out.grown hg (by simpa using NE.out.2.2.1))
      have Xgc := Lib.hid hf
      have XB := Lib.hid (below_grown (grown_trans (grown_below (FB.out.mono (Nat.le_refl _)) _) hg) GE.out.2.2 (Nat.le_refl _))
      clear hf hg Fga Fgb Fgc FB
      have Fga := Xga
      have Fgb := Xgb
      have Fgc := Xgc
      have FB := XB
      clear Xga Xgb Xgc XB
      go_wp2_with fail
      refine (show Calls Try.prog 14 #[.pointer (some ⟨ga, 0, none⟩)] x2 (RetStep x2 ga 0 ⟨2, 3, 5, true, 1, false, false, 0, 0, false⟩) from tick_any ga ⟨2, 3, 5, true, 0, false, false, 0, 0, false⟩ x2 Fga.out (by unfold Fs.ok; decide)).mono ?_
      rintro e x3 ⟨rfl, hf, hg⟩
      have Xga := Lib.hid hf
      have Xgb := Lib.hid (Fgb.out.grown hg (by simpa using NE.out.2.2.2.1))
      have Xgc := Lib.hid (Fgc.out.grown hg (by simpa using NE.out.2.2.2.2.1))
      have XB := Lib.hid (below_grown (grown_trans (grown_below (FB.out.mono (Nat.le_refl _)) _) hg) GE.out.1 (Nat.le_refl _))
      clear hf hg Fga Fgb Fgc FB
      have Fga := Xga
      have Fgb := Xgb
      have Fgc := Xgc
      have FB := XB
      clear Xga Xgb Xgc XB
      go_wp2_with fail
      refine (show Calls Try.prog 14 #[.pointer (some ⟨gb, 0, none⟩)] x3 (RetStep x3 gb 6 ⟨2, 3, 5, false, 1, false, false, 0, 4, true⟩) from tick_any gb ⟨2, 3, 5, false, 1, false, false, 0, 4, true⟩ x3 Fgb.out (by unfold Fs.ok; decide)).mono ?_
      rintro e x4 ⟨rfl, hf, hg⟩
      have Xga := Lib.hid (Fga.out.grown hg (by simpa using NE.out.1))
      have Xgb := Lib.hid hf
      have Xgc := Lib.hid (Fgc.out.grown hg (by simpa using NE.out.2.2.2.2.2))
      have XB := Lib.hid (below_grown (grown_trans (grown_below (FB.out.mono (Nat.le_refl _)) _) hg) GE.out.2.1 (Nat.le_refl _))
      clear hf hg Fga Fgb Fgc FB
      have Fga := Xga
      have Fgb := Xgb
      have Fgc := Xgc
      have FB := XB
      clear Xga Xgb Xgc XB
      go_wp2_with fail
      refine (show Calls Try.prog 14 #[.pointer (some ⟨gc, 0, none⟩)] x4 (RetStep x4 gc 0 ⟨2, 3, 5, false, 1, false, false, 0, 1, false⟩) from tick_any gc ⟨2, 3, 5, false, 0, false, false, 0, 2, false⟩ x4 Fgc.out (by unfold Fs.ok; decide)).mono ?_
      rintro e x5 ⟨rfl, hf, hg⟩
      have Xga := Lib.hid (Fga.out.grown hg (by simpa using NE.out.2.1))
      have Xgb := Lib.hid (Fgb.out.grown hg (by simpa using NE.out.2.2.1))
      have Xgc := Lib.hid hf
      have XB := Lib.hid (below_grown (grown_trans (grown_below (FB.out.mono (Nat.le_refl _)) _) hg) GE.out.2.2 (Nat.le_refl _))
      clear hf hg Fga Fgb Fgc FB
      have Fga := Xga
      have Fgb := Xgb
      have Fgc := Xgc
      have FB := XB
      clear Xga Xgb Xgc XB
      go_wp2_with fail
      refine (failed_any gb ⟨2, 3, 5, false, 1, false, false, 0, 4, true⟩ x5 Fgb.out).mono ?_
      rintro e y0 ⟨rfl, rfl⟩
      go_wp2_with fail
      refine (failed_any gc ⟨2, 3, 5, false, 1, false, false, 0, 1, false⟩ x5 Fgc.out).mono ?_
      rintro e y1 ⟨rfl, rfl⟩
      go_wp2_with fail
      go_roundw
      case rel => exact ⟨5, by decide, rfl, Fga, Fgb, Fgc, FB⟩
      case measure => simp [intOf]
    · -- round 5
      have Fga : Hid (Fl wr ga ⟨2, 3, 5, true, 1, false, false, 0, 0, false⟩) := HA
      have Fgb : Hid (Fl wr gb ⟨2, 3, 5, false, 1, false, false, 0, 4, true⟩) := HB
      have Fgc : Hid (Fl wr gc ⟨2, 3, 5, false, 1, false, false, 0, 1, false⟩) := HC
      have FB := HBB
      clear HA HB HC HBB
      go_wp2_with fail
      refine (show Calls Try.prog 13 #[.pointer (some ⟨ga, 0, none⟩)] wr (fun e w' => e = .returned (.int .u8 9) ∧ wr = w') from says_any ga ⟨2, 3, 5, true, 1, false, false, 0, 0, false⟩ wr Fga.out (by decide)).mono ?_
      rintro e x0 ⟨rfl, rfl⟩
      go_wp2_with fail
      refine (show Calls Try.prog 14 #[.pointer (some ⟨ga, 0, none⟩)] wr (RetStep wr ga 0 ⟨2, 3, 5, true, 0, false, false, 0, 0, false⟩) from tick_any ga ⟨2, 3, 5, true, 1, false, false, 0, 0, false⟩ wr Fga.out (by unfold Fs.ok; decide)).mono ?_
      rintro e x1 ⟨rfl, hf, hg⟩
      have Xga := Lib.hid hf
      have Xgb := Lib.hid (Fgb.out.grown hg (by simpa using NE.out.2.2.2.1))
      have Xgc := Lib.hid (Fgc.out.grown hg (by simpa using NE.out.2.2.2.2.1))
      have XB := Lib.hid (below_grown (grown_trans (grown_below (FB.out.mono (Nat.le_refl _)) _) hg) GE.out.1 (Nat.le_refl _))
      clear hf hg Fga Fgb Fgc FB
      have Fga := Xga
      have Fgb := Xgb
      have Fgc := Xgc
      have FB := XB
      clear Xga Xgb Xgc XB
      go_wp2_with fail
      refine (show Calls Try.prog 14 #[.pointer (some ⟨gb, 0, none⟩)] x1 (RetStep x1 gb 6 ⟨2, 3, 5, false, 1, false, false, 0, 4, true⟩) from tick_any gb ⟨2, 3, 5, false, 1, false, false, 0, 4, true⟩ x1 Fgb.out (by unfold Fs.ok; decide)).mono ?_
      rintro e x2 ⟨rfl, hf, hg⟩
      have Xga := Lib.hid (Fga.out.grown hg (by simpa using NE.out.1))
      have Xgb := Lib.hid hf
      have Xgc := Lib.hid (Fgc.out.grown hg (by simpa using NE.out.2.2.2.2.2))
      have XB := Lib.hid (below_grown (grown_trans (grown_below (FB.out.mono (Nat.le_refl _)) _) hg) GE.out.2.1 (Nat.le_refl _))
      clear hf hg Fga Fgb Fgc FB
      have Fga := Xga
      have Fgb := Xgb
      have Fgc := Xgc
      have FB := XB
      clear Xga Xgb Xgc XB
      go_wp2_with fail
      refine (show Calls Try.prog 14 #[.pointer (some ⟨gc, 0, none⟩)] x2 (RetStep x2 gc 0 ⟨2, 3, 5, false, 0, false, false, 0, 0, true⟩) from tick_any gc ⟨2, 3, 5, false, 1, false, false, 0, 1, false⟩ x2 Fgc.out (by unfold Fs.ok; decide)).mono ?_
      rintro e x3 ⟨rfl, hf, hg⟩
      have Xga := Lib.hid (Fga.out.grown hg (by simpa using NE.out.2.1))
      have Xgb := Lib.hid (Fgb.out.grown hg (by simpa using NE.out.2.2.1))
      have Xgc := Lib.hid hf
      have XB := Lib.hid (below_grown (grown_trans (grown_below (FB.out.mono (Nat.le_refl _)) _) hg) GE.out.2.2 (Nat.le_refl _))
      clear hf hg Fga Fgb Fgc FB
      have Fga := Xga
      have Fgb := Xgb
      have Fgc := Xgc
      have FB := XB
      clear Xga Xgb Xgc XB
      go_wp2_with fail
      refine (failed_any gb ⟨2, 3, 5, false, 1, false, false, 0, 4, true⟩ x3 Fgb.out).mono ?_
      rintro e y0 ⟨rfl, rfl⟩
      go_wp2_with fail
      refine (failed_any gc ⟨2, 3, 5, false, 0, false, false, 0, 0, true⟩ x3 Fgc.out).mono ?_
      rintro e y1 ⟨rfl, rfl⟩
      go_wp2_with fail
      go_roundw
      case rel => exact ⟨6, by decide, rfl, Fga, Fgb, Fgc, FB⟩
      case measure => simp [intOf]
    · go_wp2_with fail
      refine (marks_any wr).mono ?_
      rintro e x1 ⟨rfl, hb1⟩
      have FB1 := Lib.hid (HBB.out.trans (hb1.mono HBB.out.size))
      clear hb1 HA HB HC
      go_wp2_with fail
      have hl := Lit0.new x1 3 #[.int .i64 3, .int .i64 4, .int .i64 3, .int .i64 2, .int .i64 9, .int .i64 7, .int .i64 6, .int .i64 20]
      have hb2 := FB1.out.alloc FB1.out.size (.cells #[.int .i64 3, .int .i64 4, .int .i64 3, .int .i64 2, .int .i64 9, .int .i64 7, .int .i64 6, .int .i64 20] 3)
      have hsee := hl.sees (n := 8) (f := fun k => .int .i64 (exLens k)) (fun k hk => by
        have h8 : k = 0 ∨ k = 1 ∨ k = 2 ∨ k = 3 ∨ k = 4 ∨ k = 5 ∨ k = 6 ∨ k = 7 := by omega
        rcases h8 with rfl | rfl | rfl | rfl | rfl | rfl | rfl | rfl <;> rfl)
      generalize x1.alloc (.cells #[.int .i64 3, .int .i64 4, .int .i64 3, .int .i64 2, .int .i64 9, .int .i64 7, .int .i64 6, .int .i64 20] 3) = x2 at hb2 hsee ⊢
      have FB2 := Lib.hid hb2
      have HSEE := Lib.hid hsee
      clear hl hb2 hsee
      refine (Levels_any 4 8 12 2 6 10 (some ⟨x1.heap.size, 0, none⟩) 8 8 exLens x2 (by decide) HSEE.out).mono ?_
      rintro e x3 (⟨h, _⟩ | ⟨_, gl, rfl, hgl, hrow, hb3⟩)
      · exact absurd ⟨by decide, fun i hi => by
          have h8 : i = 0 ∨ i = 1 ∨ i = 2 ∨ i = 3 ∨ i = 4 ∨ i = 5 ∨ i = 6 ∨ i = 7 := by omega
          rcases h8 with rfl | rfl | rfl | rfl | rfl | rfl | rfl | rfl <;> decide⟩ h
      have HROW := Lib.hid (hrow.congr (f' := fun j => .int .i64 (exWant j)) (fun j hj => by
        have := exWant_is ⟨j, hj⟩
        simp only at this
        rw [this]))
      have FB3 := Lib.hid (FB2.out.trans (hb3.mono FB2.out.size))
      clear hrow hb3 HSEE
      go_wp2_with fail
      have hw := Lit0.new x3 3 #[.int .i64 0, .int .i64 1, .int .i64 1, .int .i64 0, .int .i64 2, .int .i64 2, .int .i64 1, .int .i64 3]
      have hb4 := FB3.out.alloc FB3.out.size (.cells #[.int .i64 0, .int .i64 1, .int .i64 1, .int .i64 0, .int .i64 2, .int .i64 2, .int .i64 1, .int .i64 3] 3)
      have hrow4 := HROW.out.alloc (.cells #[.int .i64 0, .int .i64 1, .int .i64 1, .int .i64 0, .int .i64 2, .int .i64 2, .int .i64 1, .int .i64 3] 3)
      have hsw := hw.sees (n := 8) (f := fun k => .int .i64 (exWant k)) (fun k hk => by
        have h8 : k = 0 ∨ k = 1 ∨ k = 2 ∨ k = 3 ∨ k = 4 ∨ k = 5 ∨ k = 6 ∨ k = 7 := by omega
        rcases h8 with rfl | rfl | rfl | rfl | rfl | rfl | rfl | rfl <;> rfl)
      generalize x3.alloc (.cells #[.int .i64 0, .int .i64 1, .int .i64 1, .int .i64 0, .int .i64 2, .int .i64 2, .int .i64 1, .int .i64 3] 3) = x4 at hb4 hrow4 hsw ⊢
      have FB4 := Lib.hid hb4
      have HR4 := Lib.hid hrow4
      have HW4 := Lib.hid hsw
      clear hw hb4 hrow4 hsw FB3 HROW
      go_loopw [13] (fun v wr => ∃ k : Nat, k ≤ 8 ∧ v = .int .i64 k ∧ Hid (Below x4.heap.size x4 wr)) (fun v _ => 8 - (intOf v).toNat)
      case atStart => exact ⟨0, by decide, rfl, Lib.hid (Below.refl _ _)⟩
      case round =>
        obtain ⟨k, hk, rfl, HX⟩ := hrel
        by_cases hk8 : k < 8
        · have dk : decide ((k : Int) < 8) = true := by simp; omega
          have dk' : decide (k < 8) = true := by simpa using hk8
          have k0 : (0 : Int) ≤ (k : Int) := by omega
          have k1 : (k : Int) < 8 := by omega
          have r1 := (HR4.out.kept HX.out).cell hk8
          have r2 := (HW4.out.below HX.out).cell hk8
          simp only [Nat.zero_add] at r2
          replace r1 : _ = some (Value.int .i64 (exWant k)) := r1
          replace r2 : _ = some (Value.int .i64 (exWant k)) := r2
          generalize exWant k = z at r1 r2
          have zz : (z != z) = false := by simp
          go_wp2_with fail
          go_quiet (fail)
          go_wp2_with fail
          go_roundw
          case rel => exact ⟨k + 1, by omega, by simp, Lib.hid (Below.drewN' HX.out _)⟩
          case measure => simp [intOf]; omega
        · have dk : decide ((k : Int) < 8) = false := by simp; omega
          have dk' : decide (k < 8) = false := by simp; omega
          go_wp2_with fail
          refine (usual_any wr).mono ?_
          rintro e x5 ⟨rfl, hb5⟩
          go_wp2_with fail
          go_ret
          exact ⟨rfl, FB4.out.trans ((HX.out.trans (hb5.mono HX.out.size)).mono FB4.out.size)⟩
end Go.Proofs.Ytbcalbkficbppaa
