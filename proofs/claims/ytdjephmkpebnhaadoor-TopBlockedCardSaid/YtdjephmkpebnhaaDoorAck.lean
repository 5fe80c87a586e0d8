/- Hear: an Ack. -/
import Derived.Test.YtdjephmkpebnhaaDoorHear
import Derived.Test.YtdjephmkpebnhaaDoorNextA
namespace Go.Proofs.YtdjephmkpebnhaaDoor
open Go.RowKit

/-- What hearing an Ack leaves: what next leaves, behind the open message's end. -/
def RetAcked (w : World) (d g c t n : Nat) (own far ag age last heard : Int) (T : Nat → Bool) (S B C : Nat → Int) (Q : World → Ending → World → Prop) (e : Ending) (w' : World) : Prop :=
  (∃ v, e = .returned v) ∧ ∃ w1 e1, Kept w w1 [d] ∧ Dk w1 d g t n ag age last heard (.pointer none) (.slice none 0 0) T ∧ Grp w1 g c own far n S B C ∧ Q w1 e1 w'

set_option maxRecDepth 100000 in
set_option maxHeartbeats 4000000 in
theorem hear_ack (d g c t n mb : Nat) (own far ag age last heard Sr : Int) (F mv ov : Value) (T : Nat → Bool) (S B C : Nat → Int) (Q : World → Ending → World → Prop) (w : World) (h : Dk w d g t n ag age last heard (.pointer (some ⟨mb, 0, none⟩)) (.slice none 0 0) T) (hG : Grp w g c own far n S B C)
    (hSr : Sr ≠ 0) (hbx : Lit0 w mb 42 #[.int .u8 1, .int .u32 Sr, F, mv, ov]) (hne : g ≠ d ∧ c ≠ d ∧ mb ≠ d)
    (hnx : ∀ w1, Dk w1 d g t n ag age last heard (.pointer none) (.slice none 0 0) T → Grp w1 g c own far n S B C → Kept w w1 [d] → Calls Tryd.prog 24 #[.pointer (some ⟨d, 0, none⟩)] w1 (fun e w' => (∃ v, e = .returned v) ∧ Q w1 e w')) :
    Calls Tryd.prog 10 #[.pointer (some ⟨d, 0, none⟩), .agg #[.int .u8 2, .int .u32 Sr, .int .i64 0, .slice none 0 0, .slice none 0 0]] w (RetAcked w d g c t n own far ag age last heard T S B C Q) := by
  have hb := (Below.refl w.heap.size w).alloc (Nat.le_refl _) (.cells #[.int .u8 2, .int .u32 Sr, .int .i64 0, .slice none 0 0, .slice none 0 0] 42)
  have l0 := Lit0.new w 42 #[.int .u8 2, .int .u32 Sr, .int .i64 0, .slice none 0 0, .slice none 0 0]
  have HH := Lib.hid (h.kept hb)
  have HG := Lib.hid (hG.kept hb)
  have HX := Lib.hid (hbx.kept hb)
  have HV := Lib.hid (fun w' => valid_ack Sr w' hSr)
  have HB := Lib.hid hb
  have HL := Lib.hid l0
  have HNE := Lib.hid hne
  have HNX := Lib.hid hnx
  have hsz : (w.alloc (.cells #[.int .u8 2, .int .u32 Sr, .int .i64 0, .slice none 0 0, .slice none 0 0] 42)).heap.size = w.heap.size + 1 := World.size_alloc _ _
  have hdw : d < w.heap.size := h.1.lt
  have hmw : mb < w.heap.size := hbx.lt
  clear h hG hb l0 hbx hne hSr hnx
  go_enter Tryd.func10, Tryd.ntmps10
  go_wp2_with fail
  generalize w.alloc (.cells #[.int .u8 2, .int .u32 Sr, .int .i64 0, .slice none 0 0, .slice none 0 0] 42) = w1 at HH HG HX HB HL hsz ⊢
  have hN := none_any d g w1 HH.out.l0
  have HN := Lib.hid hN
  clear hN
  refine HN.out.mono ?_
  rintro e w2 ⟨rfl, rfl⟩
  clear HN
  have c0 := HL.out.cell 0
  have c1 := HL.out.cell 1
  have c2 := HL.out.cell 2
  have c3 := HL.out.cell 3
  have c4 := HL.out.cell 4
  simp only [List.getElem?_toArray, List.getElem?_cons_zero, List.getElem?_cons_succ] at c0 c1 c2 c3 c4
  have sz : HearS w.heap.size d g (.int .u8 2) (.int .u32 Sr) (.int .i64 0) (.slice none 0 0) (.slice none 0 0) w1 w1 := ⟨c0, c1, c2, c3, c4, HH.out.l0, Below.refl _ _⟩
  have sd := sz.drew
  have hhd : w.heap.size < w1.heap.size ∧ d < w1.heap.size := by omega
  have HHD := Lib.hid hhd
  have HVS := Lib.hid (fun w' (s : HearS w.heap.size d g (.int .u8 2) (.int .u32 Sr) (.int .i64 0) (.slice none 0 0) (.slice none 0 0) w1 w') => HV.out w')
  have HGS := Lib.hid (fun w' (s : HearS w.heap.size d g (.int .u8 2) (.int .u32 Sr) (.int .i64 0) (.slice none 0 0) (.slice none 0 0) w1 w') => size_any g c own far n w' (HG.out.1.kept s.2.2.2.2.2.2))
  clear c0 c1 c2 c3 c4 hhd
  go_wp2_with fail
  go_region_held3 (HearS w.heap.size d g (.int .u8 2) (.int .u32 Sr) (.int .i64 0) (.slice none 0 0) (.slice none 0 0) w1)
    (first | with_reducible assumption | with_reducible exact sd | ((repeat (first | with_reducible exact s5 | with_reducible exact sz | (with_reducible refine HearS.drew ?_))); done))
    (first | (go_at_call 26; (with_reducible refine (HVS.out _ (by assumption)).mono ?_); rintro e w5 ⟨rfl, hb5⟩; have s5 := HearS.keep HHD.out hb5 (by assumption); obtain ⟨hc5, hf5⟩ := bcell hb5; (try simp only [drew_size, drew_cell, drew_frozen] at hc5 hf5)) | (go_at_call 18; (with_reducible refine (HGS.out _ (by assumption)).mono ?_); rintro e w6 ⟨rfl, rfl⟩))
  have hs5 := s5.2.2.2.2.2.2
  have h51 := HB.out.trans (hs5.mono HB.out.size)
  have HH5 := Lib.hid (HH.out.kept hs5)
  have HG5 := Lib.hid (HG.out.kept hs5)
  have HL5 := Lib.hid (HL.out.kept hs5)
  have HX5 := Lib.hid (HX.out.kept hs5)
  have HK5 := Lib.hid (Kept.below (bs := [d]) h51)
  have hz5 := hs5.size
  clear s5 hs5 h51 sz sd HHD HVS HGS HH HG HL HX HB HV hb5 hc5 hf5
  have t1 : decide ((n : Int) < 0) = false := by simp
  have l1 := HL5.out.cell 1
  have l0 := HL5.out.cell 0
  have x1 := HX5.out.cell 1
  simp only [List.getElem?_toArray, List.getElem?_cons_zero, List.getElem?_cons_succ] at l0 l1 x1
  have d6 := HH5.out.l6
  have f6 := HH5.out.1.free 6
  go_wp2_with fail
  go_quiet (fail)
  go_wp2_with fail
  have hg0 := Kept.grown (bs := [d]) (grown_one (w5.drewN nq) d 6 (.pointer none)) (by simp)
  have HDA := Lib.hid ((HH5.out.drewN nq).set6 (.pointer none))
  have HGA := Lib.hid (hg0.grp (HG5.out.drewN nq) (by simp; exact HNE.out.1) (by simp; exact HNE.out.2.1))
  have HKA := Lib.hid ((HK5.out.drewN nq).trans hg0)
  clear hg0 HH5 HG5 HL5 HX5 HK5 f6 d6 l0 l1 x1
  generalize (w5.drewN nq).setCell ⟨d, 6, none⟩ (.pointer none) = wA at HDA HGA HKA ⊢
  refine (HNX.out wA HDA.out HGA.out HKA.out).mono ?_
  rintro e w7 ⟨⟨v, rfl⟩, hq⟩
  have HQ := Lib.hid hq
  clear hq
  go_wp2_with fail
  go_ret
  exact ⟨⟨_, rfl⟩, wA, _, HKA.out, HDA.out, HGA.out, HQ.out⟩
end Go.Proofs.YtdjephmkpebnhaaDoor
