/- Hear: a Set. -/
import Derived.Test.YtdjephmkpebnhaaDoorValid
import Derived.Test.YtdjephmkpebnhaaDoorKeep
import Derived.Test.YtdjephmkpebnhaaDoorWith
import Derived.StillTailTactics
namespace Go.Proofs.YtdjephmkpebnhaaDoor
open Go.RowKit

theorem Dk.set5 {w : World} {d g t n : Nat} {ag age last heard : Int} {op out : Value} {T : Nat → Bool} (h : Dk w d g t n ag age last heard op out T) (v : Int) : Dk (w.setCell ⟨d, 5, none⟩ (.int .u32 v)) d g t n ag age last v op out T :=
  ⟨h.1.set 5 _, h.2.1.far (by exact fun e => h.2.2 e.symm) _, h.2.2⟩

/-- A remote block, as a number. -/
def remI (b : Bool) : Int := if b then 2 else 0
theorem setB_rem (b on : Bool) : setB (remI b) 2 on = remI on := by cases b <;> cases on <;> rfl
theorem setB_loc (b on : Bool) : setB (locI b) 1 on = locI on := by cases b <;> cases on <;> rfl

/-- What a Set makes of the remote blocks. -/
def heardTo (R M O : Nat → Bool) (f m i : Nat) : Bool := if f ≤ i ∧ i < f + m ∧ M (i - f) = true then O (i - f) else R i

theorem heardTo_zero (R M O : Nat → Bool) (f : Nat) : heardTo R M O f 0 = R := by
  funext i
  unfold heardTo
  rw [if_neg (by omega)]
theorem heardTo_same {R M O : Nat → Bool} {f i : Nat} (h : M i = false) : heardTo R M O f (i + 1) = heardTo R M O f i := by
  funext j
  unfold heardTo
  by_cases he : j = f + i
  · subst he
    rw [if_neg (fun hc => by
      have e : f + i - f = i := by omega
      rw [e, h] at hc
      exact absurd hc.2.2 (by simp)), if_neg (fun hx => absurd hx.2.1 (by omega))]
  · by_cases hc : f ≤ j ∧ j < f + i ∧ M (j - f) = true
    · rw [if_pos hc, if_pos ⟨hc.1, by omega, hc.2.2⟩]
    · rw [if_neg hc, if_neg (fun hx => hc ⟨hx.1, by omega, hx.2.2⟩)]
theorem heardTo_next {R M O : Nat → Bool} {f i : Nat} (h : M i = true) : upd (fun j => remI (heardTo R M O f i j)) (f + i) (setB (remI (heardTo R M O f i (f + i))) 2 (O i)) = fun j => remI (heardTo R M O f (i + 1) j) := by
  funext j
  rw [setB_rem]
  unfold upd
  by_cases he : j = f + i
  · subst he
    rw [if_pos rfl]
    have e : f + i - f = i := by omega
    unfold heardTo
    rw [if_pos ⟨by omega, by omega, by rw [e]; exact h⟩, e]
  · rw [if_neg he]
    show remI (heardTo R M O f i j) = remI (heardTo R M O f (i + 1) j)
    unfold heardTo
    by_cases hc : f ≤ j ∧ j < f + i ∧ M (j - f) = true
    · rw [if_pos hc, if_pos ⟨hc.1, by omega, hc.2.2⟩]
    · rw [if_neg hc, if_neg (fun hx => hc ⟨hx.1, by omega, hx.2.2⟩)]

/-- What hearing a Set leaves. -/
def RetHeard (w : World) (d g c t n f m : Nat) (own far ag age last Sr : Int) (op : Value) (T : Nat → Bool) (S C : Nat → Int) (R M O : Nat → Bool) (e : Ending) (w' : World) : Prop :=
  (∃ v, e = .returned v) ∧ ∃ r cap, 1 ≤ cap ∧ Dk w' d g t n ag age last Sr op (.slice (some ⟨r, 0, none⟩) 1 cap) T ∧ MsgAt w' r 2 Sr 0 (.slice none 0 0) (.slice none 0 0) ∧ Grp w' g c own far n S (fun i => remI (heardTo R M O f m i)) C ∧ w.heap.size ≤ r ∧ Kept w w' [d, c]

/-- Cells that the test reads, and what stays. -/
abbrev HearS (hp d g : Nat) (a0 a1 a2 a3 a4 : Value) (w0 w' : World) : Prop :=
  w'.cell? ⟨hp, 0, none⟩ = some a0 ∧ w'.cell? ⟨hp, 1, none⟩ = some a1 ∧ w'.cell? ⟨hp, 2, none⟩ = some a2 ∧ w'.cell? ⟨hp, 3, none⟩ = some a3 ∧ w'.cell? ⟨hp, 4, none⟩ = some a4 ∧ w'.cell? ⟨d, 0, none⟩ = some (.pointer (some ⟨g, 0, none⟩)) ∧ Below w0.heap.size w0 w'

theorem HearS.keep {hp d g : Nat} {a0 a1 a2 a3 a4 : Value} {w0 a b : World} (hh : hp < w0.heap.size ∧ d < w0.heap.size) (hb : Below a.heap.size a b) (s : HearS hp d g a0 a1 a2 a3 a4 w0 a) : HearS hp d g a0 a1 a2 a3 a4 w0 b := by
  obtain ⟨h1, h2, h3, h4, h5, h6, h7⟩ := s
  have hs := h7.size
  have hc := fun (bk i : Nat) (h : bk < w0.heap.size) => (hb.cell (p := ⟨bk, i, none⟩) (by exact Nat.lt_of_lt_of_le h hs))
  refine ⟨?_, ?_, ?_, ?_, ?_, ?_, h7.trans (hb.mono hs)⟩
  · rw [hc _ _ hh.1]; exact h1
  · rw [hc _ _ hh.1]; exact h2
  · rw [hc _ _ hh.1]; exact h3
  · rw [hc _ _ hh.1]; exact h4
  · rw [hc _ _ hh.1]; exact h5
  · rw [hc _ _ hh.2]; exact h6
theorem HearS.drew {hp d g : Nat} {a0 a1 a2 a3 a4 : Value} {w0 a : World} (s : HearS hp d g a0 a1 a2 a3 a4 w0 a) : HearS hp d g a0 a1 a2 a3 a4 w0 a.drew := by
  obtain ⟨h1, h2, h3, h4, h5, h6, h7⟩ := s
  exact ⟨h1, h2, h3, h4, h5, h6, h7.drew⟩

set_option maxRecDepth 100000 in
set_option maxHeartbeats 4000000 in
theorem hear_set (d g c t n f m mb ob : Nat) (own far ag age last heard Sr : Int) (op : Value) (T : Nat → Bool) (S C : Nat → Int) (R M O : Nat → Bool) (w : World) (h : Dk w d g t n ag age last heard op (.slice none 0 0) T) (hG : Grp w g c own far n S (fun i => remI (R i)) C)
    (hSr : heard < Sr ∧ 0 ≤ heard ∧ Sr ≤ 2000) (hm : 1 ≤ m ∧ m ≤ 32) (hf : f + m ≤ n) (hn : n ≤ 100) (hM : Sees w w.heap.size (some ⟨mb, 0, none⟩) m (fun k => .bool (M k))) (hO : Sees w w.heap.size (some ⟨ob, 0, none⟩) m (fun k => .bool (O k)))
    (h0 : M 0 = true) (h1 : M (m - 1) = true) (hOM : ∀ i, i < m → O i = true → M i = true) (hne : mb ≠ d ∧ mb ≠ c ∧ ob ≠ d ∧ ob ≠ c ∧ d ≠ c ∧ t ≠ c ∧ g ≠ d ∧ c ≠ d) :
    Calls Tryd.prog 10 #[.pointer (some ⟨d, 0, none⟩), .agg #[.int .u8 1, .int .u32 Sr, .int .i64 (f : Int), .slice (some ⟨mb, 0, none⟩) m m, .slice (some ⟨ob, 0, none⟩) m m]] w (RetHeard w d g c t n f m own far ag age last Sr op T S C R M O) := by
  have hb := (Below.refl w.heap.size w).alloc (Nat.le_refl _) (.cells #[.int .u8 1, .int .u32 Sr, .int .i64 (f : Int), .slice (some ⟨mb, 0, none⟩) m m, .slice (some ⟨ob, 0, none⟩) m m] 42)
  have l0 := Lit0.new w 42 #[.int .u8 1, .int .u32 Sr, .int .i64 (f : Int), .slice (some ⟨mb, 0, none⟩) m m, .slice (some ⟨ob, 0, none⟩) m m]
  have HH := Lib.hid (h.kept hb)
  have HG := Lib.hid (hG.kept hb)
  have HM := Lib.hid ((hM.below hb).more hb.size)
  have HO := Lib.hid ((hO.below hb).more hb.size)
  have HV := Lib.hid (fun w' (hb : Below w.heap.size w w') => valid_set mb ob m Sr f M O w' (by omega) hm (by omega) ((hM.below hb).more hb.size) ((hO.below hb).more hb.size) h0 h1 hOM)
  have HB := Lib.hid hb
  have HL := Lib.hid l0
  have HNE := Lib.hid hne
  have hsz : (w.alloc (.cells #[.int .u8 1, .int .u32 Sr, .int .i64 (f : Int), .slice (some ⟨mb, 0, none⟩) m m, .slice (some ⟨ob, 0, none⟩) m m] 42)).heap.size = w.heap.size + 1 := World.size_alloc _ _
  have hdw : d < w.heap.size := h.1.lt
  have hcw : c < w.heap.size := hG.2.1.lt
  have hgw : g < w.heap.size := hG.1.lt
  have htw : t < w.heap.size := h.2.1.lt
  clear h hG hb l0 hM hO h0 h1 hOM hne
  go_enter Tryd.func10, Tryd.ntmps10
  go_wp2_with fail
  generalize w.alloc (.cells #[.int .u8 1, .int .u32 Sr, .int .i64 (f : Int), .slice (some ⟨mb, 0, none⟩) m m, .slice (some ⟨ob, 0, none⟩) m m] 42) = w1 at HH HG HM HO HB HL hsz ⊢
  have hN := none_any d g w1 HH.out.l0
  have HN := Lib.hid hN
  clear hN
  refine HN.out.mono ?_
  rintro e w2 ⟨rfl, rfl⟩
  clear HN
  have c0 := HL.out.cell 0
  have c1 := HL.out.cell 1
  have c2 := HL.out.cell 2
  have c3 := HL.out.cell 3
  have c4 := HL.out.cell 4
  simp only [List.getElem?_toArray, List.getElem?_cons_zero, List.getElem?_cons_succ] at c0 c1 c2 c3 c4
  have sz : HearS w.heap.size d g (.int .u8 1) (.int .u32 Sr) (.int .i64 (f : Int)) (.slice (some ⟨mb, 0, none⟩) m m) (.slice (some ⟨ob, 0, none⟩) m m) w1 w1 := ⟨c0, c1, c2, c3, c4, HH.out.l0, Below.refl _ _⟩
  have sd := sz.drew
  have hhd : w.heap.size < w1.heap.size ∧ d < w1.heap.size := by omega
  have HHD := Lib.hid hhd
  have HVS := Lib.hid (fun w' (s : HearS w.heap.size d g (.int .u8 1) (.int .u32 Sr) (.int .i64 (f : Int)) (.slice (some ⟨mb, 0, none⟩) m m) (.slice (some ⟨ob, 0, none⟩) m m) w1 w') => HV.out w' (HB.out.trans (s.2.2.2.2.2.2.mono HB.out.size)))
  have HGS := Lib.hid (fun w' (s : HearS w.heap.size d g (.int .u8 1) (.int .u32 Sr) (.int .i64 (f : Int)) (.slice (some ⟨mb, 0, none⟩) m m) (.slice (some ⟨ob, 0, none⟩) m m) w1 w') => size_any g c own far n w' (HG.out.1.kept s.2.2.2.2.2.2))
  have HSV := Lib.hid (show decide ((n : Int) < (f : Int) + (m : Int)) = false by simp; omega)
  clear c0 c1 c2 c3 c4 hhd
  go_wp2_with fail
  go_region_held3 (HearS w.heap.size d g (.int .u8 1) (.int .u32 Sr) (.int .i64 (f : Int)) (.slice (some ⟨mb, 0, none⟩) m m) (.slice (some ⟨ob, 0, none⟩) m m) w1)
    (first | with_reducible assumption | with_reducible exact sd | ((repeat (first | with_reducible exact s5 | with_reducible exact sz | (with_reducible refine HearS.drew ?_))); done))
    (first | (go_at_call 26; (with_reducible refine (HVS.out _ (by assumption)).mono ?_); rintro e w5 ⟨rfl, hb5⟩; have s5 := HearS.keep HHD.out hb5 (by assumption); obtain ⟨hc5, hf5⟩ := bcell hb5; (try simp only [drew_size, drew_cell, drew_frozen] at hc5 hf5)) | (go_at_call 18; (with_reducible refine (HGS.out _ (by assumption)).mono ?_); rintro e w6 ⟨rfl, rfl⟩))
  have hs5 := s5.2.2.2.2.2.2
  have h51 := HB.out.trans (hs5.mono HB.out.size)
  have HH5 := Lib.hid (HH.out.kept hs5)
  have HG5 := Lib.hid (HG.out.kept hs5)
  have HL5 := Lib.hid (HL.out.kept hs5)
  have HM5 := Lib.hid ((HM.out.below hs5).more hs5.size)
  have HO5 := Lib.hid ((HO.out.below hs5).more hs5.size)
  have HK5 := Lib.hid (Kept.below (bs := [d, c]) h51)
  have hz5 := hs5.size
  clear s5 hs5 h51 sz sd HHD HVS HGS HH HG HL HM HO HB HV hb5 hc5 hf5
  have v1 : IntKind.i64.wrap ((f : Int) + (m : Int)) = (f : Int) + (m : Int) := by rw [IntKind.wrap_i64]; omega
  have t1 : decide ((n : Int) < (f : Int) + (m : Int)) = false := by simp; omega
  have l1 := HL5.out.cell 1
  have l0 := HL5.out.cell 0
  simp only [List.getElem?_toArray, List.getElem?_cons_zero, List.getElem?_cons_succ] at l0 l1
  have d5 := HH5.out.l5
  have t2 : decide (heard < Sr) = true := by simpa using hSr.1
  have n1 : ¬ w.heap.size = d := by omega
  have n2 : ¬ d = w.heap.size := by omega
  have f5 := HH5.out.1.free 5
  rw [v1]
  clear HSV
  go_wp2_with fail
  go_quiet (fail)
  go_wp2_with fail
  have hg0 := Kept.grown (bs := [d]) (grown_one (w5.drewN nq) d 5 (.int .u32 Sr)) (by simp)
  have HDA := Lib.hid ((HH5.out.drewN nq).set5 Sr)
  have HGA := Lib.hid (hg0.grp (HG5.out.drewN nq) (by simp; exact HNE.out.2.2.2.2.2.2.1) (by simp; exact HNE.out.2.2.2.2.2.2.2))
  have HLA := Lib.hid ((HL5.out.drewN nq).far (p := ⟨d, 5, none⟩) n1 (.int .u32 Sr))
  have HMA := Lib.hid (hg0.sees (r := mb) (n := m) (f := fun k => .bool (M k)) HM5.out (by simp; exact HNE.out.1))
  have HOA := Lib.hid (hg0.sees (r := ob) (n := m) (f := fun k => .bool (O k)) HO5.out (by simp; exact HNE.out.2.2.1))
  have HKA := Lib.hid ((HK5.out.drewN nq).trans (hg0.more (cs := [d, c]) (by simp)))
  clear hg0 HH5 HG5 HL5 HM5 HO5 HK5 f5 d5 l0 l1 t1 t2
  generalize (w5.drewN nq).setCell ⟨d, 5, none⟩ (.int .u32 Sr) = wA at HDA HGA HLA HMA HOA HKA ⊢
  go_loopw [69] (fun v69 wr => ∃ i : Nat, i ≤ m ∧ v69 = .int .i64 i ∧ Hid (Dk wr d g t n ag age last Sr op (.slice none 0 0) T) ∧ Hid (Grp wr g c own far n S (fun j => remI (heardTo R M O f i j)) C) ∧
      Hid (Lit0 wr w.heap.size 42 #[.int .u8 1, .int .u32 Sr, .int .i64 (f : Int), .slice (some ⟨mb, 0, none⟩) m m, .slice (some ⟨ob, 0, none⟩) m m]) ∧ Hid (Sees wr wr.heap.size (some ⟨mb, 0, none⟩) m (fun k => .bool (M k))) ∧ Hid (Sees wr wr.heap.size (some ⟨ob, 0, none⟩) m (fun k => .bool (O k))) ∧ Hid (Kept w wr [d, c])) (fun v _ => m - (intOf v).toNat)
  case atStart => exact ⟨0, Nat.zero_le _, rfl, HDA, Lib.hid (by rw [heardTo_zero]; exact HGA.out), HLA, HMA, HOA, HKA⟩
  case round =>
    obtain ⟨i, hi, rfl, HD, HG, HL, HM, HO, HK⟩ := hrel
    clear HDA HGA HLA HMA HOA HKA
    by_cases him : i < m
    · have e1 : decide ((i : Int) < (m : Int)) = true := by simp; omega
      have e2 : decide (i < m) = true := by simpa using him
      have i0 : (0 : Int) ≤ (i : Int) := by omega
      have i1 : (i : Int) < (m : Int) := by omega
      have qm := HM.out.cell him
      have qo := HO.out.cell him
      rw [Nat.zero_add] at qm qo
      by_cases hMi : M i = true
      · rw [hMi] at qm
        go_upto_region 16 with fail
        have d0 := HD.out.l0
        have a2 := HL.out.cell 2
        have a4 := HL.out.cell 4
        simp only [List.getElem?_toArray, List.getElem?_cons_zero, List.getElem?_cons_succ] at a2 a4
        have v2 : IntKind.i64.wrap ((f : Int) + (i : Int)) = (f : Int) + (i : Int) := by rw [IntKind.wrap_i64]; omega
        go_still_tail 13, (by kernel_rfl)
        change wpList _ _ _ _ _ wr.drew
        have HSET := Lib.hid (set_any g c own far n (f + i) S (fun j => remI (heardTo R M O f i j)) C 2 (O i) wr.drew (HG.out.drewN 1) (by omega) (.inr rfl))
        clear qm qo d0 a2 a4
        go_wp2_with fail
        refine HSET.out.mono ?_
        rintro e w7 ⟨z, rfl, rfl, hG7, hgr7⟩
        have hk7 := Kept.grown (bs := [c]) hgr7 (by simp)
        have HD7 := Lib.hid (hk7.dk (HD.out.drewN 1) (by simp; exact HNE.out.2.2.2.2.1) (by simp; exact HNE.out.2.2.2.2.2.1))
        have HG7 := Lib.hid hG7
        have HL7 := Lib.hid (hk7.lit (HL.out.drewN 1) (by have := HNE.out; simp; omega))
        have HM7 := Lib.hid (hk7.sees (r := mb) (n := m) (f := fun k => .bool (M k)) HM.out (by simp; exact HNE.out.2.1))
        have HO7 := Lib.hid (hk7.sees (r := ob) (n := m) (f := fun k => .bool (O k)) HO.out (by simp; exact HNE.out.2.2.2.1))
        have HK7 := Lib.hid ((HK.out.drewN 1).trans (hk7.more (cs := [d, c]) (by simp)))
        clear hG7 hgr7 hk7
        go_wp2_with fail
        exact ⟨⟨i + 1, by omega, rfl, HD7, Lib.hid (by rw [← heardTo_next hMi]; exact HG7.out), HL7, HM7, HO7, HK7⟩, by show m - (i + 1) < m - i; omega⟩
      · have hMi2 : M i = false := by simpa using hMi
        rw [hMi2] at qm
        go_wp2_with fail
        exact ⟨⟨i + 1, by omega, rfl, HD, Lib.hid (by rw [heardTo_same hMi2]; exact HG.out), HL, HM, HO, HK⟩, by show m - (i + 1) < m - i; omega⟩
    · have e1 : decide ((i : Int) < (m : Int)) = false := by simp; omega
      have e2 : decide (i < m) = false := by simpa using him
      have him' : i = m := by omega
      subst him'
      have a1 := HL.out.cell 1
      simp only [List.getElem?_toArray, List.getElem?_cons_zero, List.getElem?_cons_succ] at a1
      go_wp2_with fail
      refine (send_ack d g t n ag age last Sr Sr op T wr HD.out).mono ?_
      rintro e w7 ⟨⟨v, rfl⟩, r7, cap, hcap, hdk7, hmsg, hr7, hgr⟩
      go_wp2_with fail
      go_ret
      have hk7 := Kept.grown (bs := [d]) hgr (by simp)
      exact ⟨⟨_, rfl⟩, r7, cap, hcap, hdk7, hmsg, hk7.grp HG.out (by simp; exact HNE.out.2.2.2.2.2.2.1) (by simp; exact HNE.out.2.2.2.2.2.2.2), Nat.le_trans HK.out.size hr7, HK.out.trans (hk7.more (cs := [d, c]) (by simp))⟩
end Go.Proofs.YtdjephmkpebnhaaDoor
