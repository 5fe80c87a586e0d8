/- Calls: a side. -/
import Derived.Test.YtdjephmkpebnhaaDoorDesk
import Derived.Test.YtdjephmkpebnhaaDoorHunt2
import Derived.Test.YtdjephmkpebnhaaDoorKeep
import Derived.Laws.IdiomStrings
namespace Go.Proofs.YtdjephmkpebnhaaDoor
open Go.RowKit

theorem run_makeMap79 (w : World) : (Instr.makeMap 79 none).run Tryd.prog w = .ok (.map (some w.heap.size)) (w.alloc (.map #[] 0)) := by kernel_rfl

/-- A side. -/
def Sd (w : World) (s g m : Nat) (cnt : Int) (out : Value) : Prop :=
  Lit0 w s 83 #[.int .i64 9, .int .i64 9, .int .i64 9, .pointer (some ⟨g, 0, none⟩), .int .u16 2, .map (some m), .int .i64 cnt, out, .slice none 0 0]

/-- What New leaves. -/
def RetSide (w : World) (e : Ending) (w' : World) : Prop :=
  ∃ s g c m, e = .returned (.tuple #[.pointer (some ⟨s, 0, none⟩), .int .i64 0]) ∧ Sd w' s g m 0 (.slice none 0 0) ∧ Grp w' g c 2 1 1 zeros zeros zeros ∧ (∃ w1 : World, m = w1.heap.size ∧ Below (m + 1) (w1.alloc (.map #[] 0)) w') ∧ (g < m ∧ c < m ∧ m < s ∧ w.heap.size ≤ g ∧ w.heap.size ≤ c) ∧ Below w.heap.size w w'

set_option maxHeartbeats 1000000 in
theorem newside_any (w : World) : Calls Tryd.prog 13 #[.int .u16 2, .int .u16 1, .int .i64 1, .agg #[.int .i64 9, .int .i64 9, .int .i64 9]] w (RetSide w) := by
  have hmm := run_makeMap79
  have hb0 := (Below.refl w.heap.size w).alloc (Nat.le_refl _) (.cells #[.int .i64 9, .int .i64 9, .int .i64 9] 49)
  have HB := Lib.hid hb0
  have HL := Lib.hid (Lit0.new w 49 #[.int .i64 9, .int .i64 9, .int .i64 9])
  clear hb0
  go_enter Tryd.func13, Tryd.ntmps13
  go_wp2_with fail
  generalize w.alloc (.cells #[.int .i64 9, .int .i64 9, .int .i64 9] 49) = w1 at HB HL ⊢
  have hng := newgrp_any 2 1 1 w1 (.inr ⟨rfl, rfl⟩) (by omega)
  refine hng.mono ?_
  rintro e w2 ⟨g, c, rfl, hG, ⟨hg, hc⟩, hb2⟩
  have HL2 := Lib.hid (HL.out.kept hb2)
  have HB2 := Lib.hid (HB.out.trans (hb2.mono HB.out.size))
  have HG := Lib.hid hG
  have c0 := HL2.out.cell 0
  have c1 := HL2.out.cell 1
  have c2 := HL2.out.cell 2
  simp only [List.getElem?_toArray, List.getElem?_cons_zero, List.getElem?_cons_succ] at c0 c1 c2
  clear hng hb2 hG
  go_wp2_with fail
  go_ret2
  have hgl : g < w2.heap.size := HG.out.1.lt
  have hcl : c < w2.heap.size := HG.out.2.1.lt
  have hs1 := HB.out.size
  have hm := Lit0.new (w2.alloc (.map #[] 0)) 83 #[.int .i64 9, .int .i64 9, .int .i64 9, .pointer (some ⟨g, 0, none⟩), .int .u16 2, .map (some w2.heap.size), .int .i64 0, .slice none 0 0, .slice none 0 0]
  have h1 := (Below.refl w2.heap.size w2).alloc (Nat.le_refl _) (.map #[] 0)
  have h2 := h1.alloc h1.size (.cells #[.int .i64 9, .int .i64 9, .int .i64 9, .pointer (some ⟨g, 0, none⟩), .int .u16 2, .map (some w2.heap.size), .int .i64 0, .slice none 0 0, .slice none 0 0] 83)
  simp only [World.size_alloc] at hm
  refine ⟨w2.heap.size + 1, g, c, w2.heap.size, rfl, hm, HG.out.kept h2, ⟨w2, rfl, ?_⟩, ⟨hgl, hcl, by omega, by omega, by omega⟩, HB2.out.trans (h2.mono HB2.out.size)⟩
  exact (Below.refl _ _).alloc (by simp) _

theorem Sd.kept {w w' : World} {s g m : Nat} {cnt : Int} {out : Value} (h : Sd w s g m cnt out) (hb : Below w.heap.size w w') : Sd w' s g m cnt out := Lit0.kept h hb

theorem sdnone_any (s g m : Nat) (cnt : Int) (out : Value) (w : World) (h : Sd w s g m cnt out) : Calls Tryd.prog 33 #[.pointer (some ⟨s, 0, none⟩)] w (fun e w' => e = .returned (.bool false) ∧ w = w') := by
  have c3 := Lit0.cell h 3
  simp only [List.getElem?_toArray, List.getElem?_cons_zero, List.getElem?_cons_succ] at c3
  clear h
  go_enter Tryd.func33, Tryd.ntmps33
  go_wp2_with fail
  go_ret
  exact ⟨rfl, rfl⟩

theorem sdgroup_any (s g m : Nat) (cnt : Int) (out : Value) (w : World) (h : Sd w s g m cnt out) : Calls Tryd.prog 16 #[.pointer (some ⟨s, 0, none⟩)] w (fun e w' => e = .returned (.pointer (some ⟨g, 0, none⟩)) ∧ w = w') := by
  have HN := Lib.hid (sdnone_any s g m cnt out w h)
  have c3 := Lit0.cell h 3
  simp only [List.getElem?_toArray, List.getElem?_cons_zero, List.getElem?_cons_succ] at c3
  clear h
  go_enter Tryd.func16, Tryd.ntmps16
  go_wp2_with fail
  refine HN.out.mono ?_
  rintro e w' ⟨rfl, rfl⟩
  go_wp2_with fail
  go_ret
  exact ⟨rfl, rfl⟩

theorem conv_one (w : World) (b : Nat) (h : w.cell? ⟨b, 0, none⟩ = some (.int .u8 111)) : (convert 22 9 (.slice (some ⟨b, 0, none⟩) 1 1)).run Tryd.prog w = .ok (.string ⟨#[111]⟩) w :=
  run_convert_bytes_back w 22 9 5 ⟨b, 0, none⟩ 1 [111] (by kernel_rfl) (by kernel_rfl) (by kernel_rfl) (fun j hj => by
    have : j = 0 := by simpa using hj
    subst this
    exact h)

set_option maxRecDepth 100000 in
set_option maxHeartbeats 1000000 in
/-- A group of one circuit that is outgoing and not blocked: its text. -/
theorem text_one (g c : Nat) (own far : Int) (S B C : Nat → Int) (w : World) (h : Grp w g c own far 1 S B C) (hS : S 0 = 1) (hB : B 0 = 0) : Calls Tryd.prog 17 #[.pointer (some ⟨g, 0, none⟩)] w (fun e w' => e = .returned (.string ⟨#[111]⟩) ∧ Below w.heap.size w w') := by
  have HS := Lib.hid (size_any g c own far 1 w h.1)
  have hmk := make_n (P := Tryd.prog) 22 5 (.int .u8 0) #[.int .u8 0] 1 1 (by kernel_rfl) (by kernel_rfl) rfl 1 (by decide) (by omega) w
  have H := Lib.hid (h.kept ((Below.refl w.heap.size w).alloc (Nat.le_refl _) (.cells (madeCells #[.int .u8 0] (1 * 1)) 5)))
  have HB := Lib.hid ((Below.refl w.heap.size w).alloc (Nat.le_refl _) (.cells (madeCells #[.int .u8 0] (1 * 1)) 5))
  have HL := Lib.hid (Lit0.new w 5 (madeCells #[.int .u8 0] (1 * 1)))
  have hm0 : (madeCells #[.int .u8 0] (1 * 1))[0]? = some (.int .u8 0) := by simp [madeCells]
  have hgl : g < w.heap.size := h.1.lt
  have hcl : c < w.heap.size := h.2.1.lt
  clear h
  have hmk1 : (Instr.makeSlice 22 (.int .i64 1) (.int .i64 1)).run Tryd.prog w = .ok (.slice (some ⟨w.heap.size, 0, none⟩) 1 1) (w.alloc (.cells (madeCells #[.int .u8 0] (1 * 1)) 5)) := hmk
  clear hmk
  go_enter Tryd.func17, Tryd.ntmps17
  go_wp2_with fail
  refine HS.out.mono ?_
  rintro e w' ⟨rfl, rfl⟩
  clear HS
  go_wp2_with fail
  clear hmk1
  generalize w.alloc (.cells (madeCells #[.int .u8 0] (1 * 1)) 5) = w1 at H HB HL ⊢
  go_loopw [12] (fun v12 wr => (v12 = .int .i64 0 ∧ wr = w1) ∨ (v12 = .int .i64 1 ∧ wr.cell? ⟨w.heap.size, 0, none⟩ = some (.int .u8 111) ∧ Hid (Below w.heap.size w wr))) (fun v _ => 1 - (intOf v).toNat)
  case atStart => exact .inl ⟨rfl, rfl⟩
  case round =>
    rcases hrel with ⟨rfl, rfl⟩ | ⟨rfl, hcell, hbw⟩
    · have l2 := H.out.1.l2
      have s0 := H.out.2.1.c0 (i := 0) (by omega)
      have s1 := H.out.2.1.c1 (i := 0) (by omega)
      have s2 := H.out.2.1.c2 (i := 0) (by omega)
      rw [hS] at s0
      rw [hB] at s1
      simp only [Nat.zero_mul, Nat.zero_add] at s0 s1 s2
      have r0 := HL.out.cell 0
      rw [hm0] at r0
      have hlt := HL.out.lt
      have n1 : ¬ w.heap.size = wr.heap.size := by omega
      have n2 : ¬ wr.heap.size = w.heap.size := by omega
      have hB0 := HB.out
      have rf := HL.out.free 0
      go_wp2_with fail
      refine ⟨.inr ⟨rfl, ?_, Lib.hid ?_⟩, by decide⟩
      · have hx := ((HL.out.set 0 (.int .u8 111)).alloc (.cells #[.int .u8 1, .int .u8 0, .int .i64 (C 0)] 65)).cell 0
        refine Eq.trans hx ?_
        simp [madeCells]
      · exact (HB.out.setCell (p := ⟨w.heap.size, 0, none⟩) (Nat.le_refl _) _).alloc (by rw [World.size_setCell]; omega) _
    · have hcv := conv_one wr w.heap.size hcell
      go_wp2_with fail
      go_ret
      exact ⟨rfl, hbw.out⟩
end Go.Proofs.YtdjephmkpebnhaaDoor
