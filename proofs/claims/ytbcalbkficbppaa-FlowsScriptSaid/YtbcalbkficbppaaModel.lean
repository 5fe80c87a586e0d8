/- FlowsScript: the law's own model: what an act does to it. -/
import Derived.Test.YtbcalbkficbppaaPairLaw
namespace Go.Proofs.Ytbcalbkficbppaa
open Go.RowKit

/-- The model's cells. -/
structure Ms where
  ag : Int
  mo : Int
  wa : Int
  bg : Int
  nw : Int
  ou : Bool
  fa : Bool
  bu : Int
  wt : Int
  fd : Bool

def Ms.cells (s : Ms) : Array Value := #[.int .i64 s.ag, .int .i64 s.mo, .int .i64 s.wa, .int .i64 s.bg, .int .i64 s.nw, .bool s.ou, .bool s.fa, .int .i64 s.bu, .int .i64 s.wt, .bool s.fd]

/-- The model in memory. -/
def Ml (w : World) (g : Nat) (s : Ms) : Prop := Lit0 w g 56 s.cells

theorem Ml.set3 {w : World} {g : Nat} {s : Ms} (h : Ml w g s) (v : Int) : Ml (w.setCell ⟨g, 3, none⟩ (.int .i64 v)) g { s with bg := v } := Lit0.set h 3 (.int .i64 v)
theorem Ml.set4 {w : World} {g : Nat} {s : Ms} (h : Ml w g s) (v : Int) : Ml (w.setCell ⟨g, 4, none⟩ (.int .i64 v)) g { s with nw := v } := Lit0.set h 4 (.int .i64 v)
theorem Ml.set5 {w : World} {g : Nat} {s : Ms} (h : Ml w g s) (v : Bool) : Ml (w.setCell ⟨g, 5, none⟩ (.bool v)) g { s with ou := v } := Lit0.set h 5 (.bool v)
theorem Ml.set6 {w : World} {g : Nat} {s : Ms} (h : Ml w g s) (v : Bool) : Ml (w.setCell ⟨g, 6, none⟩ (.bool v)) g { s with fa := v } := Lit0.set h 6 (.bool v)
theorem Ml.set7 {w : World} {g : Nat} {s : Ms} (h : Ml w g s) (v : Int) : Ml (w.setCell ⟨g, 7, none⟩ (.int .i64 v)) g { s with bu := v } := Lit0.set h 7 (.int .i64 v)
theorem Ml.set8 {w : World} {g : Nat} {s : Ms} (h : Ml w g s) (v : Int) : Ml (w.setCell ⟨g, 8, none⟩ (.int .i64 v)) g { s with wt := v } := Lit0.set h 8 (.int .i64 v)
theorem Ml.set9 {w : World} {g : Nat} {s : Ms} (h : Ml w g s) (v : Bool) : Ml (w.setCell ⟨g, 9, none⟩ (.bool v)) g { s with fd := v } := Lit0.set h 9 (.bool v)
theorem Ml.grown {w w' : World} {g : Nat} {s : Ms} {row : Option Nat} (h : Ml w g s) (hb : w.grownBy w' row) (hg : some g ≠ row) : Ml w' g s := Lit0.grown h hb hg
theorem Ml.kept {w w' : World} {g : Nat} {s : Ms} (h : Ml w g s) (hb : Below w.heap.size w w') : Ml w' g s := Lit0.kept h hb
theorem Ml.drewN {w : World} {g : Nat} {s : Ms} (h : Ml w g s) (n : Nat) : Ml (w.drewN n) g s := h

/-- What an act on the model leaves. -/
def RetM (w : World) (g : Nat) (n : Int) (m : Ms) (e : Ending) (w' : World) : Prop := e = .returned (.int .i64 n) ∧ Ml w' g m ∧ w.grownBy w' (some g)

set_option maxRecDepth 100000 in
theorem act_failed (g : Nat) (m : Ms) (a : Int) (w : World) (h : Ml w g m) (hd : m.fd = true) : Calls Try.prog 25 #[.pointer (some ⟨g, 0, none⟩), .int .u8 a] w (RetM w g 6 m) := by
  have c9 := h.cell 9
  simp only [Ms.cells, List.getElem?_toArray, List.getElem?_cons_zero, List.getElem?_cons_succ, hd] at c9
  have H := Lib.hid h
  clear h hd
  go_enter Try.func25, Try.ntmps25
  go_wp2_with fail
  go_ret
  exact ⟨rfl, H.out, grown_refl _ _⟩

set_option maxRecDepth 100000 in
theorem act_0 (g : Nat) (ag mo wa bg nw bu wt : Int) (ou fa : Bool) (w : World) (h : Ml w g ⟨ag, mo, wa, bg, nw, ou, fa, bu, wt, false⟩) :
    Calls Try.prog 25 #[.pointer (some ⟨g, 0, none⟩), .int .u8 0] w (RetM w g 0 ⟨ag, mo, wa, (-1), nw, ou, fa, bu, wt, false⟩) := by
  have c0 := h.cell 0
  have c1 := h.cell 1
  have c2 := h.cell 2
  have c3 := h.cell 3
  have c4 := h.cell 4
  have c5 := h.cell 5
  have c6 := h.cell 6
  have c7 := h.cell 7
  have c8 := h.cell 8
  have c9 := h.cell 9
  have fr : ∀ j, w.frozen? ⟨g, j, none⟩ = false := fun j => h.free j
  simp only [Ms.cells, List.getElem?_toArray, List.getElem?_cons_zero, List.getElem?_cons_succ] at c0 c1 c2 c3 c4 c5 c6 c7 c8 c9
  have H := Lib.hid h
  clear h
  have f3 := fr 3
  clear fr
  go_enter Try.func25, Try.ntmps25
  go_wp2_with fail
  go_ret
  exact ⟨rfl, (H.out.set3 (-1)), grown_one _ _ _ _⟩

set_option maxRecDepth 100000 in
theorem act_1n (g : Nat) (ag mo wa bg nw bu wt : Int) (ou fa : Bool) (w : World) (h : Ml w g ⟨ag, mo, wa, bg, nw, ou, fa, bu, wt, false⟩) (hb : bg < 0) :
    Calls Try.prog 25 #[.pointer (some ⟨g, 0, none⟩), .int .u8 1] w (RetM w g 0 ⟨ag, mo, wa, nw, nw, ou, fa, bu, wt, false⟩) := by
  have c0 := h.cell 0
  have c1 := h.cell 1
  have c2 := h.cell 2
  have c3 := h.cell 3
  have c4 := h.cell 4
  have c5 := h.cell 5
  have c6 := h.cell 6
  have c7 := h.cell 7
  have c8 := h.cell 8
  have c9 := h.cell 9
  have fr : ∀ j, w.frozen? ⟨g, j, none⟩ = false := fun j => h.free j
  simp only [Ms.cells, List.getElem?_toArray, List.getElem?_cons_zero, List.getElem?_cons_succ] at c0 c1 c2 c3 c4 c5 c6 c7 c8 c9
  have H := Lib.hid h
  clear h
  have f3 := fr 3
  clear fr
  have d1 : decide (bg < 0) = true := by simpa using hb
  go_enter Try.func25, Try.ntmps25
  go_wp2_with fail
  go_ret
  exact ⟨rfl, (H.out.set3 nw), grown_one _ _ _ _⟩

set_option maxRecDepth 100000 in
theorem act_1y (g : Nat) (ag mo wa bg nw bu wt : Int) (ou fa : Bool) (w : World) (h : Ml w g ⟨ag, mo, wa, bg, nw, ou, fa, bu, wt, false⟩) (hb : ¬ bg < 0) :
    Calls Try.prog 25 #[.pointer (some ⟨g, 0, none⟩), .int .u8 1] w (RetM w g 0 ⟨ag, mo, wa, bg, nw, ou, fa, bu, wt, false⟩) := by
  have c0 := h.cell 0
  have c1 := h.cell 1
  have c2 := h.cell 2
  have c3 := h.cell 3
  have c4 := h.cell 4
  have c5 := h.cell 5
  have c6 := h.cell 6
  have c7 := h.cell 7
  have c8 := h.cell 8
  have c9 := h.cell 9
  have fr : ∀ j, w.frozen? ⟨g, j, none⟩ = false := fun j => h.free j
  simp only [Ms.cells, List.getElem?_toArray, List.getElem?_cons_zero, List.getElem?_cons_succ] at c0 c1 c2 c3 c4 c5 c6 c7 c8 c9
  have H := Lib.hid h
  clear h
  clear fr
  have d1 : decide (bg < 0) = false := by simpa using hb
  go_enter Try.func25, Try.ntmps25
  go_wp2_with fail
  go_ret
  exact ⟨rfl, H.out, grown_refl _ _⟩

set_option maxRecDepth 100000 in
theorem act_2 (g : Nat) (ag mo wa bg nw bu wt : Int) (ou fa : Bool) (w : World) (h : Ml w g ⟨ag, mo, wa, bg, nw, ou, fa, bu, wt, false⟩) :
    Calls Try.prog 25 #[.pointer (some ⟨g, 0, none⟩), .int .u8 2] w (RetM w g 0 ⟨ag, mo, wa, bg, nw, false, fa, bu, wt, false⟩) := by
  have c0 := h.cell 0
  have c1 := h.cell 1
  have c2 := h.cell 2
  have c3 := h.cell 3
  have c4 := h.cell 4
  have c5 := h.cell 5
  have c6 := h.cell 6
  have c7 := h.cell 7
  have c8 := h.cell 8
  have c9 := h.cell 9
  have fr : ∀ j, w.frozen? ⟨g, j, none⟩ = false := fun j => h.free j
  simp only [Ms.cells, List.getElem?_toArray, List.getElem?_cons_zero, List.getElem?_cons_succ] at c0 c1 c2 c3 c4 c5 c6 c7 c8 c9
  have H := Lib.hid h
  clear h
  have f5 := fr 5
  clear fr
  go_enter Try.func25, Try.ntmps25
  go_wp2_with fail
  go_ret
  exact ⟨rfl, (H.out.set5 false), grown_one _ _ _ _⟩

set_option maxRecDepth 100000 in
theorem act_3 (g : Nat) (ag mo wa bg nw bu wt : Int) (ou fa : Bool) (w : World) (h : Ml w g ⟨ag, mo, wa, bg, nw, ou, fa, bu, wt, false⟩) :
    Calls Try.prog 25 #[.pointer (some ⟨g, 0, none⟩), .int .u8 3] w (RetM w g 0 ⟨ag, mo, wa, bg, nw, true, fa, bu, wt, false⟩) := by
  have c0 := h.cell 0
  have c1 := h.cell 1
  have c2 := h.cell 2
  have c3 := h.cell 3
  have c4 := h.cell 4
  have c5 := h.cell 5
  have c6 := h.cell 6
  have c7 := h.cell 7
  have c8 := h.cell 8
  have c9 := h.cell 9
  have fr : ∀ j, w.frozen? ⟨g, j, none⟩ = false := fun j => h.free j
  simp only [Ms.cells, List.getElem?_toArray, List.getElem?_cons_zero, List.getElem?_cons_succ] at c0 c1 c2 c3 c4 c5 c6 c7 c8 c9
  have H := Lib.hid h
  clear h
  have f5 := fr 5
  clear fr
  go_enter Try.func25, Try.ntmps25
  go_wp2_with fail
  go_ret
  exact ⟨rfl, (H.out.set5 true), grown_one _ _ _ _⟩

set_option maxRecDepth 100000 in
theorem act_4 (g : Nat) (ag mo wa bg nw bu wt : Int) (ou fa : Bool) (w : World) (h : Ml w g ⟨ag, mo, wa, bg, nw, ou, fa, bu, wt, false⟩) :
    Calls Try.prog 25 #[.pointer (some ⟨g, 0, none⟩), .int .u8 4] w (RetM w g 0 ⟨ag, mo, wa, bg, nw, ou, fa, bu, (-1), false⟩) := by
  have c0 := h.cell 0
  have c1 := h.cell 1
  have c2 := h.cell 2
  have c3 := h.cell 3
  have c4 := h.cell 4
  have c5 := h.cell 5
  have c6 := h.cell 6
  have c7 := h.cell 7
  have c8 := h.cell 8
  have c9 := h.cell 9
  have fr : ∀ j, w.frozen? ⟨g, j, none⟩ = false := fun j => h.free j
  simp only [Ms.cells, List.getElem?_toArray, List.getElem?_cons_zero, List.getElem?_cons_succ] at c0 c1 c2 c3 c4 c5 c6 c7 c8 c9
  have H := Lib.hid h
  clear h
  have f8 := fr 8
  clear fr
  go_enter Try.func25, Try.ntmps25
  go_wp2_with fail
  go_ret
  exact ⟨rfl, (H.out.set8 (-1)), grown_one _ _ _ _⟩

set_option maxRecDepth 100000 in
theorem act_5n (g : Nat) (ag mo wa bg nw bu wt : Int) (ou fa : Bool) (w : World) (h : Ml w g ⟨ag, mo, wa, bg, nw, ou, fa, bu, wt, false⟩) (hb : wt < 0) :
    Calls Try.prog 25 #[.pointer (some ⟨g, 0, none⟩), .int .u8 5] w (RetM w g 0 ⟨ag, mo, wa, bg, nw, ou, fa, bu, wa, false⟩) := by
  have c0 := h.cell 0
  have c1 := h.cell 1
  have c2 := h.cell 2
  have c3 := h.cell 3
  have c4 := h.cell 4
  have c5 := h.cell 5
  have c6 := h.cell 6
  have c7 := h.cell 7
  have c8 := h.cell 8
  have c9 := h.cell 9
  have fr : ∀ j, w.frozen? ⟨g, j, none⟩ = false := fun j => h.free j
  simp only [Ms.cells, List.getElem?_toArray, List.getElem?_cons_zero, List.getElem?_cons_succ] at c0 c1 c2 c3 c4 c5 c6 c7 c8 c9
  have H := Lib.hid h
  clear h
  have f8 := fr 8
  clear fr
  have d1 : decide (wt < 0) = true := by simpa using hb
  go_enter Try.func25, Try.ntmps25
  go_wp2_with fail
  go_ret
  exact ⟨rfl, (H.out.set8 wa), grown_one _ _ _ _⟩

set_option maxRecDepth 100000 in
theorem act_5y (g : Nat) (ag mo wa bg nw bu wt : Int) (ou fa : Bool) (w : World) (h : Ml w g ⟨ag, mo, wa, bg, nw, ou, fa, bu, wt, false⟩) (hb : ¬ wt < 0) :
    Calls Try.prog 25 #[.pointer (some ⟨g, 0, none⟩), .int .u8 5] w (RetM w g 0 ⟨ag, mo, wa, bg, nw, ou, fa, bu, wt, false⟩) := by
  have c0 := h.cell 0
  have c1 := h.cell 1
  have c2 := h.cell 2
  have c3 := h.cell 3
  have c4 := h.cell 4
  have c5 := h.cell 5
  have c6 := h.cell 6
  have c7 := h.cell 7
  have c8 := h.cell 8
  have c9 := h.cell 9
  have fr : ∀ j, w.frozen? ⟨g, j, none⟩ = false := fun j => h.free j
  simp only [Ms.cells, List.getElem?_toArray, List.getElem?_cons_zero, List.getElem?_cons_succ] at c0 c1 c2 c3 c4 c5 c6 c7 c8 c9
  have H := Lib.hid h
  clear h
  clear fr
  have d1 : decide (wt < 0) = false := by simpa using hb
  go_enter Try.func25, Try.ntmps25
  go_wp2_with fail
  go_ret
  exact ⟨rfl, H.out, grown_refl _ _⟩

set_option maxRecDepth 100000 in
theorem act_6 (g : Nat) (ag mo wa bg nw bu wt : Int) (ou fa : Bool) (w : World) (h : Ml w g ⟨ag, mo, wa, bg, nw, ou, fa, bu, wt, false⟩) :
    Calls Try.prog 25 #[.pointer (some ⟨g, 0, none⟩), .int .u8 6] w (RetM w g 0 ⟨ag, mo, wa, bg, nw, ou, fa, (-1), (-1), false⟩) := by
  have c0 := h.cell 0
  have c1 := h.cell 1
  have c2 := h.cell 2
  have c3 := h.cell 3
  have c4 := h.cell 4
  have c5 := h.cell 5
  have c6 := h.cell 6
  have c7 := h.cell 7
  have c8 := h.cell 8
  have c9 := h.cell 9
  have fr : ∀ j, w.frozen? ⟨g, j, none⟩ = false := fun j => h.free j
  simp only [Ms.cells, List.getElem?_toArray, List.getElem?_cons_zero, List.getElem?_cons_succ] at c0 c1 c2 c3 c4 c5 c6 c7 c8 c9
  have H := Lib.hid h
  clear h
  have f7 := fr 7
  have f8 := fr 8
  clear fr
  go_enter Try.func25, Try.ntmps25
  go_wp2_with fail
  go_ret
  exact ⟨rfl, ((H.out.set7 (-1)).set8 (-1)), grown_two _ _ _ _ _ _⟩

set_option maxRecDepth 100000 in
theorem act_7 (g : Nat) (ag mo wa bg nw bu wt : Int) (ou fa : Bool) (w : World) (h : Ml w g ⟨ag, mo, wa, bg, nw, ou, fa, bu, wt, false⟩) :
    Calls Try.prog 25 #[.pointer (some ⟨g, 0, none⟩), .int .u8 7] w (RetM w g 0 ⟨ag, mo, wa, bg, nw, ou, fa, (-1), wa, false⟩) := by
  have c0 := h.cell 0
  have c1 := h.cell 1
  have c2 := h.cell 2
  have c3 := h.cell 3
  have c4 := h.cell 4
  have c5 := h.cell 5
  have c6 := h.cell 6
  have c7 := h.cell 7
  have c8 := h.cell 8
  have c9 := h.cell 9
  have fr : ∀ j, w.frozen? ⟨g, j, none⟩ = false := fun j => h.free j
  simp only [Ms.cells, List.getElem?_toArray, List.getElem?_cons_zero, List.getElem?_cons_succ] at c0 c1 c2 c3 c4 c5 c6 c7 c8 c9
  have H := Lib.hid h
  clear h
  have f7 := fr 7
  have f8 := fr 8
  clear fr
  go_enter Try.func25, Try.ntmps25
  go_wp2_with fail
  go_ret
  exact ⟨rfl, ((H.out.set7 (-1)).set8 wa), grown_two _ _ _ _ _ _⟩

set_option maxRecDepth 100000 in
theorem act_9 (g : Nat) (ag mo wa bg nw bu wt : Int) (ou fa : Bool) (w : World) (h : Ml w g ⟨ag, mo, wa, bg, nw, ou, fa, bu, wt, false⟩) :
    Calls Try.prog 25 #[.pointer (some ⟨g, 0, none⟩), .int .u8 9] w (RetM w g 0 ⟨ag, mo, wa, bg, nw, ou, false, bu, wt, false⟩) := by
  have c0 := h.cell 0
  have c1 := h.cell 1
  have c2 := h.cell 2
  have c3 := h.cell 3
  have c4 := h.cell 4
  have c5 := h.cell 5
  have c6 := h.cell 6
  have c7 := h.cell 7
  have c8 := h.cell 8
  have c9 := h.cell 9
  have fr : ∀ j, w.frozen? ⟨g, j, none⟩ = false := fun j => h.free j
  simp only [Ms.cells, List.getElem?_toArray, List.getElem?_cons_zero, List.getElem?_cons_succ] at c0 c1 c2 c3 c4 c5 c6 c7 c8 c9
  have H := Lib.hid h
  clear h
  have f6 := fr 6
  clear fr
  go_enter Try.func25, Try.ntmps25
  go_wp2_with fail
  go_ret
  exact ⟨rfl, (H.out.set6 false), grown_one _ _ _ _⟩

set_option maxRecDepth 100000 in
theorem act_big (g : Nat) (ag mo wa bg nw bu wt : Int) (ou fa : Bool) (a : Int) (w : World) (h : Ml w g ⟨ag, mo, wa, bg, nw, ou, fa, bu, wt, false⟩) (ha : 16 ≤ a ∧ a ≤ 255) :
    Calls Try.prog 25 #[.pointer (some ⟨g, 0, none⟩), .int .u8 a] w (RetM w g 1 ⟨ag, mo, wa, bg, nw, ou, fa, bu, wt, false⟩) := by
  have c0 := h.cell 0
  have c1 := h.cell 1
  have c2 := h.cell 2
  have c3 := h.cell 3
  have c4 := h.cell 4
  have c5 := h.cell 5
  have c6 := h.cell 6
  have c7 := h.cell 7
  have c8 := h.cell 8
  have c9 := h.cell 9
  have fr : ∀ j, w.frozen? ⟨g, j, none⟩ = false := fun j => h.free j
  simp only [Ms.cells, List.getElem?_toArray, List.getElem?_cons_zero, List.getElem?_cons_succ] at c0 c1 c2 c3 c4 c5 c6 c7 c8 c9
  have H := Lib.hid h
  clear h
  clear fr
  have x0 : (a == 0) = false := by rw [beq_eq_false_iff_ne]; omega
  have x1 : (a == 1) = false := by rw [beq_eq_false_iff_ne]; omega
  have x2 : decide (a < 4) = false := by simp; omega
  have x3 : decide (a < 8) = false := by simp; omega
  have x4 : (a == 8) = false := by rw [beq_eq_false_iff_ne]; omega
  have x5 : (a == 9) = false := by rw [beq_eq_false_iff_ne]; omega
  have x6 : decide (5 < a - 10) = true := by simp; omega
  go_enter Try.func25, Try.ntmps25
  go_wp2_with fail
  go_ret
  exact ⟨rfl, H.out, grown_refl _ _⟩

set_option maxRecDepth 100000 in
theorem act_15nn (g : Nat) (ag mo wa bg nw bu wt : Int) (ou fa : Bool) (w : World) (h : Ml w g ⟨ag, mo, wa, bg, nw, ou, fa, bu, wt, false⟩) (hb : bu < 0) (hw : 0 ≤ wt) :
    Calls Try.prog 25 #[.pointer (some ⟨g, 0, none⟩), .int .u8 15] w (RetM w g 0 ⟨ag, mo, wa, bg, nw, ou, fa, mo, wa, false⟩) := by
  have c0 := h.cell 0
  have c1 := h.cell 1
  have c2 := h.cell 2
  have c3 := h.cell 3
  have c4 := h.cell 4
  have c5 := h.cell 5
  have c6 := h.cell 6
  have c7 := h.cell 7
  have c8 := h.cell 8
  have c9 := h.cell 9
  have fr : ∀ j, w.frozen? ⟨g, j, none⟩ = false := fun j => h.free j
  simp only [Ms.cells, List.getElem?_toArray, List.getElem?_cons_zero, List.getElem?_cons_succ] at c0 c1 c2 c3 c4 c5 c6 c7 c8 c9
  have H := Lib.hid h
  clear h
  have f7 := fr 7
  have f8 := fr 8
  clear fr
  have d1 : decide (bu < 0) = true := by simpa using hb
  have d2 : decide (0 ≤ wt) = true := by simpa using hw
  go_enter Try.func25, Try.ntmps25
  go_wp2_with fail
  go_ret
  exact ⟨rfl, ((H.out.set7 mo).set8 wa), grown_two _ _ _ _ _ _⟩

set_option maxRecDepth 100000 in
theorem act_15ny (g : Nat) (ag mo wa bg nw bu wt : Int) (ou fa : Bool) (w : World) (h : Ml w g ⟨ag, mo, wa, bg, nw, ou, fa, bu, wt, false⟩) (hb : bu < 0) (hw : ¬ 0 ≤ wt) :
    Calls Try.prog 25 #[.pointer (some ⟨g, 0, none⟩), .int .u8 15] w (RetM w g 0 ⟨ag, mo, wa, bg, nw, ou, fa, mo, wt, false⟩) := by
  have c0 := h.cell 0
  have c1 := h.cell 1
  have c2 := h.cell 2
  have c3 := h.cell 3
  have c4 := h.cell 4
  have c5 := h.cell 5
  have c6 := h.cell 6
  have c7 := h.cell 7
  have c8 := h.cell 8
  have c9 := h.cell 9
  have fr : ∀ j, w.frozen? ⟨g, j, none⟩ = false := fun j => h.free j
  simp only [Ms.cells, List.getElem?_toArray, List.getElem?_cons_zero, List.getElem?_cons_succ] at c0 c1 c2 c3 c4 c5 c6 c7 c8 c9
  have H := Lib.hid h
  clear h
  have f7 := fr 7
  clear fr
  have d1 : decide (bu < 0) = true := by simpa using hb
  have d2 : decide (0 ≤ wt) = false := by simpa using hw
  go_enter Try.func25, Try.ntmps25
  go_wp2_with fail
  go_ret
  exact ⟨rfl, (H.out.set7 mo), grown_one _ _ _ _⟩

set_option maxRecDepth 100000 in
theorem act_15yn (g : Nat) (ag mo wa bg nw bu wt : Int) (ou fa : Bool) (w : World) (h : Ml w g ⟨ag, mo, wa, bg, nw, ou, fa, bu, wt, false⟩) (hb : ¬ bu < 0) (hw : 0 ≤ wt) :
    Calls Try.prog 25 #[.pointer (some ⟨g, 0, none⟩), .int .u8 15] w (RetM w g 0 ⟨ag, mo, wa, bg, nw, ou, fa, bu, wa, false⟩) := by
  have c0 := h.cell 0
  have c1 := h.cell 1
  have c2 := h.cell 2
  have c3 := h.cell 3
  have c4 := h.cell 4
  have c5 := h.cell 5
  have c6 := h.cell 6
  have c7 := h.cell 7
  have c8 := h.cell 8
  have c9 := h.cell 9
  have fr : ∀ j, w.frozen? ⟨g, j, none⟩ = false := fun j => h.free j
  simp only [Ms.cells, List.getElem?_toArray, List.getElem?_cons_zero, List.getElem?_cons_succ] at c0 c1 c2 c3 c4 c5 c6 c7 c8 c9
  have H := Lib.hid h
  clear h
  have f8 := fr 8
  clear fr
  have d1 : decide (bu < 0) = false := by simpa using hb
  have d2 : decide (0 ≤ wt) = true := by simpa using hw
  go_enter Try.func25, Try.ntmps25
  go_wp2_with fail
  go_ret
  exact ⟨rfl, (H.out.set8 wa), grown_one _ _ _ _⟩

set_option maxRecDepth 100000 in
theorem act_15yy (g : Nat) (ag mo wa bg nw bu wt : Int) (ou fa : Bool) (w : World) (h : Ml w g ⟨ag, mo, wa, bg, nw, ou, fa, bu, wt, false⟩) (hb : ¬ bu < 0) (hw : ¬ 0 ≤ wt) :
    Calls Try.prog 25 #[.pointer (some ⟨g, 0, none⟩), .int .u8 15] w (RetM w g 0 ⟨ag, mo, wa, bg, nw, ou, fa, bu, wt, false⟩) := by
  have c0 := h.cell 0
  have c1 := h.cell 1
  have c2 := h.cell 2
  have c3 := h.cell 3
  have c4 := h.cell 4
  have c5 := h.cell 5
  have c6 := h.cell 6
  have c7 := h.cell 7
  have c8 := h.cell 8
  have c9 := h.cell 9
  have fr : ∀ j, w.frozen? ⟨g, j, none⟩ = false := fun j => h.free j
  simp only [Ms.cells, List.getElem?_toArray, List.getElem?_cons_zero, List.getElem?_cons_succ] at c0 c1 c2 c3 c4 c5 c6 c7 c8 c9
  have H := Lib.hid h
  clear h
  clear fr
  have d1 : decide (bu < 0) = false := by simpa using hb
  have d2 : decide (0 ≤ wt) = false := by simpa using hw
  go_enter Try.func25, Try.ntmps25
  go_wp2_with fail
  go_ret
  exact ⟨rfl, H.out, grown_refl _ _⟩

set_option maxRecDepth 100000 in
theorem act_14 (g : Nat) (ag mo wa bg nw bu wt : Int) (ou fa : Bool) (w : World) (h : Ml w g ⟨ag, mo, wa, bg, nw, ou, fa, bu, wt, false⟩) :
    Calls Try.prog 25 #[.pointer (some ⟨g, 0, none⟩), .int .u8 14] w (RetM w g 0 ⟨ag, mo, wa, bg, nw, ou, true, bu, wt, false⟩) := by
  have c0 := h.cell 0
  have c1 := h.cell 1
  have c2 := h.cell 2
  have c3 := h.cell 3
  have c4 := h.cell 4
  have c5 := h.cell 5
  have c6 := h.cell 6
  have c7 := h.cell 7
  have c8 := h.cell 8
  have c9 := h.cell 9
  have fr : ∀ j, w.frozen? ⟨g, j, none⟩ = false := fun j => h.free j
  simp only [Ms.cells, List.getElem?_toArray, List.getElem?_cons_zero, List.getElem?_cons_succ] at c0 c1 c2 c3 c4 c5 c6 c7 c8 c9
  have H := Lib.hid h
  clear h
  have f6 := fr 6
  clear fr
  go_enter Try.func25, Try.ntmps25
  go_wp2_with fail
  go_ret
  exact ⟨rfl, (H.out.set6 true), grown_one _ _ _ _⟩

set_option maxRecDepth 100000 in
theorem act_10 (g : Nat) (ag mo wa bg nw bu wt : Int) (ou fa : Bool) (w : World) (h : Ml w g ⟨ag, mo, wa, bg, nw, ou, fa, bu, wt, false⟩) :
    Calls Try.prog 25 #[.pointer (some ⟨g, 0, none⟩), .int .u8 10] w (RetM w g 0 ⟨ag, mo, wa, bg, nw, ou, fa, bu, wt, true⟩) := by
  have c0 := h.cell 0
  have c1 := h.cell 1
  have c2 := h.cell 2
  have c3 := h.cell 3
  have c4 := h.cell 4
  have c5 := h.cell 5
  have c6 := h.cell 6
  have c7 := h.cell 7
  have c8 := h.cell 8
  have c9 := h.cell 9
  have fr : ∀ j, w.frozen? ⟨g, j, none⟩ = false := fun j => h.free j
  simp only [Ms.cells, List.getElem?_toArray, List.getElem?_cons_zero, List.getElem?_cons_succ] at c0 c1 c2 c3 c4 c5 c6 c7 c8 c9
  have H := Lib.hid h
  clear h
  have f9 := fr 9
  clear fr
  go_enter Try.func25, Try.ntmps25
  go_wp2_with fail
  go_ret
  exact ⟨rfl, (H.out.set9 true), grown_one _ _ _ _⟩

set_option maxRecDepth 100000 in
theorem act_11 (g : Nat) (ag mo wa bg nw bu wt : Int) (ou fa : Bool) (w : World) (h : Ml w g ⟨ag, mo, wa, bg, nw, ou, fa, bu, wt, false⟩) :
    Calls Try.prog 25 #[.pointer (some ⟨g, 0, none⟩), .int .u8 11] w (RetM w g 0 ⟨ag, mo, wa, bg, nw, ou, fa, bu, wt, true⟩) := by
  have c0 := h.cell 0
  have c1 := h.cell 1
  have c2 := h.cell 2
  have c3 := h.cell 3
  have c4 := h.cell 4
  have c5 := h.cell 5
  have c6 := h.cell 6
  have c7 := h.cell 7
  have c8 := h.cell 8
  have c9 := h.cell 9
  have fr : ∀ j, w.frozen? ⟨g, j, none⟩ = false := fun j => h.free j
  simp only [Ms.cells, List.getElem?_toArray, List.getElem?_cons_zero, List.getElem?_cons_succ] at c0 c1 c2 c3 c4 c5 c6 c7 c8 c9
  have H := Lib.hid h
  clear h
  have f9 := fr 9
  clear fr
  go_enter Try.func25, Try.ntmps25
  go_wp2_with fail
  go_ret
  exact ⟨rfl, (H.out.set9 true), grown_one _ _ _ _⟩

set_option maxRecDepth 100000 in
theorem act_12 (g : Nat) (ag mo wa bg nw bu wt : Int) (ou fa : Bool) (w : World) (h : Ml w g ⟨ag, mo, wa, bg, nw, ou, fa, bu, wt, false⟩) :
    Calls Try.prog 25 #[.pointer (some ⟨g, 0, none⟩), .int .u8 12] w (RetM w g 0 ⟨ag, mo, wa, bg, nw, ou, fa, bu, wt, true⟩) := by
  have c0 := h.cell 0
  have c1 := h.cell 1
  have c2 := h.cell 2
  have c3 := h.cell 3
  have c4 := h.cell 4
  have c5 := h.cell 5
  have c6 := h.cell 6
  have c7 := h.cell 7
  have c8 := h.cell 8
  have c9 := h.cell 9
  have fr : ∀ j, w.frozen? ⟨g, j, none⟩ = false := fun j => h.free j
  simp only [Ms.cells, List.getElem?_toArray, List.getElem?_cons_zero, List.getElem?_cons_succ] at c0 c1 c2 c3 c4 c5 c6 c7 c8 c9
  have H := Lib.hid h
  clear h
  have f9 := fr 9
  clear fr
  go_enter Try.func25, Try.ntmps25
  go_wp2_with fail
  go_ret
  exact ⟨rfl, (H.out.set9 true), grown_one _ _ _ _⟩

set_option maxRecDepth 100000 in
theorem act_13 (g : Nat) (ag mo wa bg nw bu wt : Int) (ou fa : Bool) (w : World) (h : Ml w g ⟨ag, mo, wa, bg, nw, ou, fa, bu, wt, false⟩) :
    Calls Try.prog 25 #[.pointer (some ⟨g, 0, none⟩), .int .u8 13] w (RetM w g 0 ⟨ag, mo, wa, bg, nw, ou, fa, bu, wt, true⟩) := by
  have c0 := h.cell 0
  have c1 := h.cell 1
  have c2 := h.cell 2
  have c3 := h.cell 3
  have c4 := h.cell 4
  have c5 := h.cell 5
  have c6 := h.cell 6
  have c7 := h.cell 7
  have c8 := h.cell 8
  have c9 := h.cell 9
  have fr : ∀ j, w.frozen? ⟨g, j, none⟩ = false := fun j => h.free j
  simp only [Ms.cells, List.getElem?_toArray, List.getElem?_cons_zero, List.getElem?_cons_succ] at c0 c1 c2 c3 c4 c5 c6 c7 c8 c9
  have H := Lib.hid h
  clear h
  have f9 := fr 9
  clear fr
  go_enter Try.func25, Try.ntmps25
  go_wp2_with fail
  go_ret
  exact ⟨rfl, (H.out.set9 true), grown_one _ _ _ _⟩

set_option maxRecDepth 100000 in
theorem act_8neg_neg (g : Nat) (ag mo wa bg nw : Int) (ou fa : Bool) (w : World) (h : Ml w g ⟨ag, mo, wa, bg, nw, ou, fa, (-1), (-1), false⟩) (hn : 0 ≤ nw ∧ nw ≤ 1000) :
    Calls Try.prog 25 #[.pointer (some ⟨g, 0, none⟩), .int .u8 8] w (RetM w g 0 ⟨ag, mo, wa, bg, (nw + 1), ou, fa, (-1), (-1), false⟩) := by
  have c0 := h.cell 0
  have c1 := h.cell 1
  have c2 := h.cell 2
  have c3 := h.cell 3
  have c4 := h.cell 4
  have c5 := h.cell 5
  have c6 := h.cell 6
  have c7 := h.cell 7
  have c8 := h.cell 8
  have c9 := h.cell 9
  have fr : ∀ j, w.frozen? ⟨g, j, none⟩ = false := fun j => h.free j
  simp only [Ms.cells, List.getElem?_toArray, List.getElem?_cons_zero, List.getElem?_cons_succ] at c0 c1 c2 c3 c4 c5 c6 c7 c8 c9
  have H := Lib.hid h
  clear h
  have f4 := fr 4
  have f9 := fr 9
  clear fr
  go_enter Try.func25, Try.ntmps25
  go_wp2_with fail
  go_ret
  exact ⟨rfl, ((H.out.set4 (nw + 1)).set9 false), grown_two _ _ _ _ _ _⟩

set_option maxRecDepth 100000 in
theorem act_8neg_ou (g : Nat) (ag mo wa bg nw wt : Int) (fa : Bool) (w : World) (h : Ml w g ⟨ag, mo, wa, bg, nw, true, fa, (-1), wt, false⟩) (hn : 0 ≤ nw ∧ nw ≤ 1000) (hw : 1 ≤ wt ∧ wt ≤ 1000) :
    Calls Try.prog 25 #[.pointer (some ⟨g, 0, none⟩), .int .u8 8] w (RetM w g 0 ⟨ag, mo, wa, bg, (nw + 1), true, fa, (-1), wt, false⟩) := by
  have c0 := h.cell 0
  have c1 := h.cell 1
  have c2 := h.cell 2
  have c3 := h.cell 3
  have c4 := h.cell 4
  have c5 := h.cell 5
  have c6 := h.cell 6
  have c7 := h.cell 7
  have c8 := h.cell 8
  have c9 := h.cell 9
  have fr : ∀ j, w.frozen? ⟨g, j, none⟩ = false := fun j => h.free j
  simp only [Ms.cells, List.getElem?_toArray, List.getElem?_cons_zero, List.getElem?_cons_succ] at c0 c1 c2 c3 c4 c5 c6 c7 c8 c9
  have H := Lib.hid h
  clear h
  have f4 := fr 4
  have f9 := fr 9
  clear fr
  have d2 : decide (0 < wt) = true := by simp; omega
  have e2 : (wt == 0) = false := by rw [beq_eq_false_iff_ne]; omega
  go_enter Try.func25, Try.ntmps25
  go_wp2_with fail
  go_ret
  exact ⟨rfl, ((H.out.set4 (nw + 1)).set9 false), grown_two _ _ _ _ _ _⟩

set_option maxRecDepth 100000 in
theorem act_8neg_fa (g : Nat) (ag mo wa bg nw wt : Int) (w : World) (h : Ml w g ⟨ag, mo, wa, bg, nw, false, true, (-1), wt, false⟩) (hn : 0 ≤ nw ∧ nw ≤ 1000) (hw : 1 ≤ wt ∧ wt ≤ 1000) :
    Calls Try.prog 25 #[.pointer (some ⟨g, 0, none⟩), .int .u8 8] w (RetM w g 0 ⟨ag, mo, wa, bg, (nw + 1), false, true, (-1), wt, false⟩) := by
  have c0 := h.cell 0
  have c1 := h.cell 1
  have c2 := h.cell 2
  have c3 := h.cell 3
  have c4 := h.cell 4
  have c5 := h.cell 5
  have c6 := h.cell 6
  have c7 := h.cell 7
  have c8 := h.cell 8
  have c9 := h.cell 9
  have fr : ∀ j, w.frozen? ⟨g, j, none⟩ = false := fun j => h.free j
  simp only [Ms.cells, List.getElem?_toArray, List.getElem?_cons_zero, List.getElem?_cons_succ] at c0 c1 c2 c3 c4 c5 c6 c7 c8 c9
  have H := Lib.hid h
  clear h
  have f4 := fr 4
  have f9 := fr 9
  clear fr
  have d2 : decide (0 < wt) = true := by simp; omega
  have e2 : (wt == 0) = false := by rw [beq_eq_false_iff_ne]; omega
  go_enter Try.func25, Try.ntmps25
  go_wp2_with fail
  go_ret
  exact ⟨rfl, ((H.out.set4 (nw + 1)).set9 false), grown_two _ _ _ _ _ _⟩

set_option maxRecDepth 100000 in
theorem act_8neg_one (g : Nat) (ag mo wa bg nw : Int) (w : World) (h : Ml w g ⟨ag, mo, wa, bg, nw, false, false, (-1), 1, false⟩) (hn : 0 ≤ nw ∧ nw ≤ 1000) :
    Calls Try.prog 25 #[.pointer (some ⟨g, 0, none⟩), .int .u8 8] w (RetM w g 0 ⟨ag, mo, wa, bg, (nw + 1), false, false, (-1), 0, true⟩) := by
  have c0 := h.cell 0
  have c1 := h.cell 1
  have c2 := h.cell 2
  have c3 := h.cell 3
  have c4 := h.cell 4
  have c5 := h.cell 5
  have c6 := h.cell 6
  have c7 := h.cell 7
  have c8 := h.cell 8
  have c9 := h.cell 9
  have fr : ∀ j, w.frozen? ⟨g, j, none⟩ = false := fun j => h.free j
  simp only [Ms.cells, List.getElem?_toArray, List.getElem?_cons_zero, List.getElem?_cons_succ] at c0 c1 c2 c3 c4 c5 c6 c7 c8 c9
  have H := Lib.hid h
  clear h
  have f4 := fr 4
  have f8 := fr 8
  have f9 := fr 9
  clear fr
  go_enter Try.func25, Try.ntmps25
  go_wp2_with fail
  go_ret
  exact ⟨rfl, (((H.out.set4 (nw + 1)).set8 0).set9 true), grown_three _ _ _ _ _ _ _ _⟩

set_option maxRecDepth 100000 in
theorem act_8neg_big (g : Nat) (ag mo wa bg nw wt : Int) (w : World) (h : Ml w g ⟨ag, mo, wa, bg, nw, false, false, (-1), wt, false⟩) (hn : 0 ≤ nw ∧ nw ≤ 1000) (hw : 2 ≤ wt ∧ wt ≤ 1000) :
    Calls Try.prog 25 #[.pointer (some ⟨g, 0, none⟩), .int .u8 8] w (RetM w g 0 ⟨ag, mo, wa, bg, (nw + 1), false, false, (-1), (wt - 1), false⟩) := by
  have c0 := h.cell 0
  have c1 := h.cell 1
  have c2 := h.cell 2
  have c3 := h.cell 3
  have c4 := h.cell 4
  have c5 := h.cell 5
  have c6 := h.cell 6
  have c7 := h.cell 7
  have c8 := h.cell 8
  have c9 := h.cell 9
  have fr : ∀ j, w.frozen? ⟨g, j, none⟩ = false := fun j => h.free j
  simp only [Ms.cells, List.getElem?_toArray, List.getElem?_cons_zero, List.getElem?_cons_succ] at c0 c1 c2 c3 c4 c5 c6 c7 c8 c9
  have H := Lib.hid h
  clear h
  have f4 := fr 4
  have f8 := fr 8
  have f9 := fr 9
  clear fr
  have d2 : decide (0 < wt) = true := by simp; omega
  have e2 : (wt - 1 == 0) = false := by rw [beq_eq_false_iff_ne]; omega
  go_enter Try.func25, Try.ntmps25
  go_wp2_with fail
  go_ret
  exact ⟨rfl, (((H.out.set4 (nw + 1)).set8 (wt - 1)).set9 false), grown_three _ _ _ _ _ _ _ _⟩

set_option maxRecDepth 100000 in
theorem act_8one_neg (g : Nat) (ag mo wa bg nw : Int) (ou fa : Bool) (w : World) (h : Ml w g ⟨ag, mo, wa, bg, nw, ou, fa, 1, (-1), false⟩) (hn : 0 ≤ nw ∧ nw ≤ 1000) :
    Calls Try.prog 25 #[.pointer (some ⟨g, 0, none⟩), .int .u8 8] w (RetM w g 0 ⟨ag, mo, wa, bg, (nw + 1), ou, fa, 0, (-1), true⟩) := by
  have c0 := h.cell 0
  have c1 := h.cell 1
  have c2 := h.cell 2
  have c3 := h.cell 3
  have c4 := h.cell 4
  have c5 := h.cell 5
  have c6 := h.cell 6
  have c7 := h.cell 7
  have c8 := h.cell 8
  have c9 := h.cell 9
  have fr : ∀ j, w.frozen? ⟨g, j, none⟩ = false := fun j => h.free j
  simp only [Ms.cells, List.getElem?_toArray, List.getElem?_cons_zero, List.getElem?_cons_succ] at c0 c1 c2 c3 c4 c5 c6 c7 c8 c9
  have H := Lib.hid h
  clear h
  have f4 := fr 4
  have f7 := fr 7
  have f9 := fr 9
  clear fr
  go_enter Try.func25, Try.ntmps25
  go_wp2_with fail
  go_ret
  exact ⟨rfl, (((H.out.set4 (nw + 1)).set7 0).set9 true), grown_three _ _ _ _ _ _ _ _⟩

set_option maxRecDepth 100000 in
theorem act_8one_ou (g : Nat) (ag mo wa bg nw wt : Int) (fa : Bool) (w : World) (h : Ml w g ⟨ag, mo, wa, bg, nw, true, fa, 1, wt, false⟩) (hn : 0 ≤ nw ∧ nw ≤ 1000) (hw : 1 ≤ wt ∧ wt ≤ 1000) :
    Calls Try.prog 25 #[.pointer (some ⟨g, 0, none⟩), .int .u8 8] w (RetM w g 0 ⟨ag, mo, wa, bg, (nw + 1), true, fa, 0, wt, true⟩) := by
  have c0 := h.cell 0
  have c1 := h.cell 1
  have c2 := h.cell 2
  have c3 := h.cell 3
  have c4 := h.cell 4
  have c5 := h.cell 5
  have c6 := h.cell 6
  have c7 := h.cell 7
  have c8 := h.cell 8
  have c9 := h.cell 9
  have fr : ∀ j, w.frozen? ⟨g, j, none⟩ = false := fun j => h.free j
  simp only [Ms.cells, List.getElem?_toArray, List.getElem?_cons_zero, List.getElem?_cons_succ] at c0 c1 c2 c3 c4 c5 c6 c7 c8 c9
  have H := Lib.hid h
  clear h
  have f4 := fr 4
  have f7 := fr 7
  have f9 := fr 9
  clear fr
  have d2 : decide (0 < wt) = true := by simp; omega
  have e2 : (wt == 0) = false := by rw [beq_eq_false_iff_ne]; omega
  go_enter Try.func25, Try.ntmps25
  go_wp2_with fail
  go_ret
  exact ⟨rfl, (((H.out.set4 (nw + 1)).set7 0).set9 true), grown_three _ _ _ _ _ _ _ _⟩

set_option maxRecDepth 100000 in
theorem act_8one_fa (g : Nat) (ag mo wa bg nw wt : Int) (w : World) (h : Ml w g ⟨ag, mo, wa, bg, nw, false, true, 1, wt, false⟩) (hn : 0 ≤ nw ∧ nw ≤ 1000) (hw : 1 ≤ wt ∧ wt ≤ 1000) :
    Calls Try.prog 25 #[.pointer (some ⟨g, 0, none⟩), .int .u8 8] w (RetM w g 0 ⟨ag, mo, wa, bg, (nw + 1), false, true, 0, wt, true⟩) := by
  have c0 := h.cell 0
  have c1 := h.cell 1
  have c2 := h.cell 2
  have c3 := h.cell 3
  have c4 := h.cell 4
  have c5 := h.cell 5
  have c6 := h.cell 6
  have c7 := h.cell 7
  have c8 := h.cell 8
  have c9 := h.cell 9
  have fr : ∀ j, w.frozen? ⟨g, j, none⟩ = false := fun j => h.free j
  simp only [Ms.cells, List.getElem?_toArray, List.getElem?_cons_zero, List.getElem?_cons_succ] at c0 c1 c2 c3 c4 c5 c6 c7 c8 c9
  have H := Lib.hid h
  clear h
  have f4 := fr 4
  have f7 := fr 7
  have f9 := fr 9
  clear fr
  have d2 : decide (0 < wt) = true := by simp; omega
  have e2 : (wt == 0) = false := by rw [beq_eq_false_iff_ne]; omega
  go_enter Try.func25, Try.ntmps25
  go_wp2_with fail
  go_ret
  exact ⟨rfl, (((H.out.set4 (nw + 1)).set7 0).set9 true), grown_three _ _ _ _ _ _ _ _⟩

set_option maxRecDepth 100000 in
theorem act_8one_one (g : Nat) (ag mo wa bg nw : Int) (w : World) (h : Ml w g ⟨ag, mo, wa, bg, nw, false, false, 1, 1, false⟩) (hn : 0 ≤ nw ∧ nw ≤ 1000) :
    Calls Try.prog 25 #[.pointer (some ⟨g, 0, none⟩), .int .u8 8] w (RetM w g 0 ⟨ag, mo, wa, bg, (nw + 1), false, false, 0, 0, true⟩) := by
  have c0 := h.cell 0
  have c1 := h.cell 1
  have c2 := h.cell 2
  have c3 := h.cell 3
  have c4 := h.cell 4
  have c5 := h.cell 5
  have c6 := h.cell 6
  have c7 := h.cell 7
  have c8 := h.cell 8
  have c9 := h.cell 9
  have fr : ∀ j, w.frozen? ⟨g, j, none⟩ = false := fun j => h.free j
  simp only [Ms.cells, List.getElem?_toArray, List.getElem?_cons_zero, List.getElem?_cons_succ] at c0 c1 c2 c3 c4 c5 c6 c7 c8 c9
  have H := Lib.hid h
  clear h
  have f4 := fr 4
  have f7 := fr 7
  have f8 := fr 8
  have f9 := fr 9
  clear fr
  go_enter Try.func25, Try.ntmps25
  go_wp2_with fail
  go_ret
  exact ⟨rfl, ((((H.out.set4 (nw + 1)).set7 0).set8 0).set9 true), grown_four _ _ _ _ _ _ _ _ _ _⟩

set_option maxRecDepth 100000 in
theorem act_8one_big (g : Nat) (ag mo wa bg nw wt : Int) (w : World) (h : Ml w g ⟨ag, mo, wa, bg, nw, false, false, 1, wt, false⟩) (hn : 0 ≤ nw ∧ nw ≤ 1000) (hw : 2 ≤ wt ∧ wt ≤ 1000) :
    Calls Try.prog 25 #[.pointer (some ⟨g, 0, none⟩), .int .u8 8] w (RetM w g 0 ⟨ag, mo, wa, bg, (nw + 1), false, false, 0, (wt - 1), true⟩) := by
  have c0 := h.cell 0
  have c1 := h.cell 1
  have c2 := h.cell 2
  have c3 := h.cell 3
  have c4 := h.cell 4
  have c5 := h.cell 5
  have c6 := h.cell 6
  have c7 := h.cell 7
  have c8 := h.cell 8
  have c9 := h.cell 9
  have fr : ∀ j, w.frozen? ⟨g, j, none⟩ = false := fun j => h.free j
  simp only [Ms.cells, List.getElem?_toArray, List.getElem?_cons_zero, List.getElem?_cons_succ] at c0 c1 c2 c3 c4 c5 c6 c7 c8 c9
  have H := Lib.hid h
  clear h
  have f4 := fr 4
  have f7 := fr 7
  have f8 := fr 8
  have f9 := fr 9
  clear fr
  have d2 : decide (0 < wt) = true := by simp; omega
  have e2 : (wt - 1 == 0) = false := by rw [beq_eq_false_iff_ne]; omega
  go_enter Try.func25, Try.ntmps25
  go_wp2_with fail
  go_ret
  exact ⟨rfl, ((((H.out.set4 (nw + 1)).set7 0).set8 (wt - 1)).set9 true), grown_four _ _ _ _ _ _ _ _ _ _⟩

set_option maxRecDepth 100000 in
theorem act_8big_neg (g : Nat) (ag mo wa bg nw bu : Int) (ou fa : Bool) (w : World) (h : Ml w g ⟨ag, mo, wa, bg, nw, ou, fa, bu, (-1), false⟩) (hn : 0 ≤ nw ∧ nw ≤ 1000) (hb : 2 ≤ bu ∧ bu ≤ 1000) :
    Calls Try.prog 25 #[.pointer (some ⟨g, 0, none⟩), .int .u8 8] w (RetM w g 0 ⟨ag, mo, wa, bg, (nw + 1), ou, fa, (bu - 1), (-1), false⟩) := by
  have c0 := h.cell 0
  have c1 := h.cell 1
  have c2 := h.cell 2
  have c3 := h.cell 3
  have c4 := h.cell 4
  have c5 := h.cell 5
  have c6 := h.cell 6
  have c7 := h.cell 7
  have c8 := h.cell 8
  have c9 := h.cell 9
  have fr : ∀ j, w.frozen? ⟨g, j, none⟩ = false := fun j => h.free j
  simp only [Ms.cells, List.getElem?_toArray, List.getElem?_cons_zero, List.getElem?_cons_succ] at c0 c1 c2 c3 c4 c5 c6 c7 c8 c9
  have H := Lib.hid h
  clear h
  have f4 := fr 4
  have f7 := fr 7
  have f9 := fr 9
  clear fr
  have d1 : decide (0 < bu) = true := by simp; omega
  have e1 : (bu - 1 == 0) = false := by rw [beq_eq_false_iff_ne]; omega
  go_enter Try.func25, Try.ntmps25
  go_wp2_with fail
  go_ret
  exact ⟨rfl, (((H.out.set4 (nw + 1)).set7 (bu - 1)).set9 false), grown_three _ _ _ _ _ _ _ _⟩

set_option maxRecDepth 100000 in
theorem act_8big_ou (g : Nat) (ag mo wa bg nw bu wt : Int) (fa : Bool) (w : World) (h : Ml w g ⟨ag, mo, wa, bg, nw, true, fa, bu, wt, false⟩) (hn : 0 ≤ nw ∧ nw ≤ 1000) (hb : 2 ≤ bu ∧ bu ≤ 1000) (hw : 1 ≤ wt ∧ wt ≤ 1000) :
    Calls Try.prog 25 #[.pointer (some ⟨g, 0, none⟩), .int .u8 8] w (RetM w g 0 ⟨ag, mo, wa, bg, (nw + 1), true, fa, (bu - 1), wt, false⟩) := by
  have c0 := h.cell 0
  have c1 := h.cell 1
  have c2 := h.cell 2
  have c3 := h.cell 3
  have c4 := h.cell 4
  have c5 := h.cell 5
  have c6 := h.cell 6
  have c7 := h.cell 7
  have c8 := h.cell 8
  have c9 := h.cell 9
  have fr : ∀ j, w.frozen? ⟨g, j, none⟩ = false := fun j => h.free j
  simp only [Ms.cells, List.getElem?_toArray, List.getElem?_cons_zero, List.getElem?_cons_succ] at c0 c1 c2 c3 c4 c5 c6 c7 c8 c9
  have H := Lib.hid h
  clear h
  have f4 := fr 4
  have f7 := fr 7
  have f9 := fr 9
  clear fr
  have d1 : decide (0 < bu) = true := by simp; omega
  have e1 : (bu - 1 == 0) = false := by rw [beq_eq_false_iff_ne]; omega
  have d2 : decide (0 < wt) = true := by simp; omega
  have e2 : (wt == 0) = false := by rw [beq_eq_false_iff_ne]; omega
  go_enter Try.func25, Try.ntmps25
  go_wp2_with fail
  go_ret
  exact ⟨rfl, (((H.out.set4 (nw + 1)).set7 (bu - 1)).set9 false), grown_three _ _ _ _ _ _ _ _⟩

set_option maxRecDepth 100000 in
theorem act_8big_fa (g : Nat) (ag mo wa bg nw bu wt : Int) (w : World) (h : Ml w g ⟨ag, mo, wa, bg, nw, false, true, bu, wt, false⟩) (hn : 0 ≤ nw ∧ nw ≤ 1000) (hb : 2 ≤ bu ∧ bu ≤ 1000) (hw : 1 ≤ wt ∧ wt ≤ 1000) :
    Calls Try.prog 25 #[.pointer (some ⟨g, 0, none⟩), .int .u8 8] w (RetM w g 0 ⟨ag, mo, wa, bg, (nw + 1), false, true, (bu - 1), wt, false⟩) := by
  have c0 := h.cell 0
  have c1 := h.cell 1
  have c2 := h.cell 2
  have c3 := h.cell 3
  have c4 := h.cell 4
  have c5 := h.cell 5
  have c6 := h.cell 6
  have c7 := h.cell 7
  have c8 := h.cell 8
  have c9 := h.cell 9
  have fr : ∀ j, w.frozen? ⟨g, j, none⟩ = false := fun j => h.free j
  simp only [Ms.cells, List.getElem?_toArray, List.getElem?_cons_zero, List.getElem?_cons_succ] at c0 c1 c2 c3 c4 c5 c6 c7 c8 c9
  have H := Lib.hid h
  clear h
  have f4 := fr 4
  have f7 := fr 7
  have f9 := fr 9
  clear fr
  have d1 : decide (0 < bu) = true := by simp; omega
  have e1 : (bu - 1 == 0) = false := by rw [beq_eq_false_iff_ne]; omega
  have d2 : decide (0 < wt) = true := by simp; omega
  have e2 : (wt == 0) = false := by rw [beq_eq_false_iff_ne]; omega
  go_enter Try.func25, Try.ntmps25
  go_wp2_with fail
  go_ret
  exact ⟨rfl, (((H.out.set4 (nw + 1)).set7 (bu - 1)).set9 false), grown_three _ _ _ _ _ _ _ _⟩

set_option maxRecDepth 100000 in
theorem act_8big_one (g : Nat) (ag mo wa bg nw bu : Int) (w : World) (h : Ml w g ⟨ag, mo, wa, bg, nw, false, false, bu, 1, false⟩) (hn : 0 ≤ nw ∧ nw ≤ 1000) (hb : 2 ≤ bu ∧ bu ≤ 1000) :
    Calls Try.prog 25 #[.pointer (some ⟨g, 0, none⟩), .int .u8 8] w (RetM w g 0 ⟨ag, mo, wa, bg, (nw + 1), false, false, (bu - 1), 0, true⟩) := by
  have c0 := h.cell 0
  have c1 := h.cell 1
  have c2 := h.cell 2
  have c3 := h.cell 3
  have c4 := h.cell 4
  have c5 := h.cell 5
  have c6 := h.cell 6
  have c7 := h.cell 7
  have c8 := h.cell 8
  have c9 := h.cell 9
  have fr : ∀ j, w.frozen? ⟨g, j, none⟩ = false := fun j => h.free j
  simp only [Ms.cells, List.getElem?_toArray, List.getElem?_cons_zero, List.getElem?_cons_succ] at c0 c1 c2 c3 c4 c5 c6 c7 c8 c9
  have H := Lib.hid h
  clear h
  have f4 := fr 4
  have f7 := fr 7
  have f8 := fr 8
  have f9 := fr 9
  clear fr
  have d1 : decide (0 < bu) = true := by simp; omega
  have e1 : (bu - 1 == 0) = false := by rw [beq_eq_false_iff_ne]; omega
  go_enter Try.func25, Try.ntmps25
  go_wp2_with fail
  go_ret
  exact ⟨rfl, ((((H.out.set4 (nw + 1)).set7 (bu - 1)).set8 0).set9 true), grown_four _ _ _ _ _ _ _ _ _ _⟩

set_option maxRecDepth 100000 in
theorem act_8big_big (g : Nat) (ag mo wa bg nw bu wt : Int) (w : World) (h : Ml w g ⟨ag, mo, wa, bg, nw, false, false, bu, wt, false⟩) (hn : 0 ≤ nw ∧ nw ≤ 1000) (hb : 2 ≤ bu ∧ bu ≤ 1000) (hw : 2 ≤ wt ∧ wt ≤ 1000) :
    Calls Try.prog 25 #[.pointer (some ⟨g, 0, none⟩), .int .u8 8] w (RetM w g 0 ⟨ag, mo, wa, bg, (nw + 1), false, false, (bu - 1), (wt - 1), false⟩) := by
  have c0 := h.cell 0
  have c1 := h.cell 1
  have c2 := h.cell 2
  have c3 := h.cell 3
  have c4 := h.cell 4
  have c5 := h.cell 5
  have c6 := h.cell 6
  have c7 := h.cell 7
  have c8 := h.cell 8
  have c9 := h.cell 9
  have fr : ∀ j, w.frozen? ⟨g, j, none⟩ = false := fun j => h.free j
  simp only [Ms.cells, List.getElem?_toArray, List.getElem?_cons_zero, List.getElem?_cons_succ] at c0 c1 c2 c3 c4 c5 c6 c7 c8 c9
  have H := Lib.hid h
  clear h
  have f4 := fr 4
  have f7 := fr 7
  have f8 := fr 8
  have f9 := fr 9
  clear fr
  have d1 : decide (0 < bu) = true := by simp; omega
  have e1 : (bu - 1 == 0) = false := by rw [beq_eq_false_iff_ne]; omega
  have d2 : decide (0 < wt) = true := by simp; omega
  have e2 : (wt - 1 == 0) = false := by rw [beq_eq_false_iff_ne]; omega
  go_enter Try.func25, Try.ntmps25
  go_wp2_with fail
  go_ret
  exact ⟨rfl, ((((H.out.set4 (nw + 1)).set7 (bu - 1)).set8 (wt - 1)).set9 false), grown_four _ _ _ _ _ _ _ _ _ _⟩

end Go.Proofs.Ytbcalbkficbppaa
