/- The flow control: its methods, each once. -/
import Derived.Test.YtbcalbkficbppaaKit
namespace Go.Proofs.Ytbcalbkficbppaa
open Go.RowKit

/-- A flow control's cells. -/
structure Fs where
  ag : Int
  mo : Int
  wa : Int
  co : Bool
  si : Int
  ou : Bool
  fa : Bool
  bu : Int
  wt : Int
  fd : Bool

def Fs.cells (s : Fs) : Array Value := #[.int .i64 s.ag, .int .i64 s.mo, .int .i64 s.wa, .bool s.co, .int .i64 s.si, .bool s.ou, .bool s.fa, .int .i64 s.bu, .int .i64 s.wt, .bool s.fd]

/-- A flow control in memory. -/
def Fl (w : World) (g : Nat) (s : Fs) : Prop := Lit0 w g 62 s.cells

theorem Fl.set3 {w : World} {g : Nat} {s : Fs} (h : Fl w g s) (v : Bool) : Fl (w.setCell ⟨g, 3, none⟩ (.bool v)) g { s with co := v } := Lit0.set h 3 (.bool v)
theorem Fl.set4 {w : World} {g : Nat} {s : Fs} (h : Fl w g s) (v : Int) : Fl (w.setCell ⟨g, 4, none⟩ (.int .i64 v)) g { s with si := v } := Lit0.set h 4 (.int .i64 v)
theorem Fl.set5 {w : World} {g : Nat} {s : Fs} (h : Fl w g s) (v : Bool) : Fl (w.setCell ⟨g, 5, none⟩ (.bool v)) g { s with ou := v } := Lit0.set h 5 (.bool v)
theorem Fl.set6 {w : World} {g : Nat} {s : Fs} (h : Fl w g s) (v : Bool) : Fl (w.setCell ⟨g, 6, none⟩ (.bool v)) g { s with fa := v } := Lit0.set h 6 (.bool v)
theorem Fl.set7 {w : World} {g : Nat} {s : Fs} (h : Fl w g s) (v : Int) : Fl (w.setCell ⟨g, 7, none⟩ (.int .i64 v)) g { s with bu := v } := Lit0.set h 7 (.int .i64 v)
theorem Fl.set8 {w : World} {g : Nat} {s : Fs} (h : Fl w g s) (v : Int) : Fl (w.setCell ⟨g, 8, none⟩ (.int .i64 v)) g { s with wt := v } := Lit0.set h 8 (.int .i64 v)
theorem Fl.set9 {w : World} {g : Nat} {s : Fs} (h : Fl w g s) (v : Bool) : Fl (w.setCell ⟨g, 9, none⟩ (.bool v)) g { s with fd := v } := Lit0.set h 9 (.bool v)
theorem Fl.grown {w w' : World} {g : Nat} {s : Fs} {row : Option Nat} (h : Fl w g s) (hb : w.grownBy w' row) (hg : some g ≠ row) : Fl w' g s := Lit0.grown h hb hg
theorem Fl.kept {w w' : World} {g : Nat} {s : Fs} (h : Fl w g s) (hb : Below w.heap.size w w') : Fl w' g s := Lit0.kept h hb
theorem grown_one (w : World) (g j : Nat) (v : Value) : w.grownBy (w.setCell ⟨g, j, none⟩ v) (some g) := grown_set (grown_refl _ _) (.inl rfl) _
theorem grown_two (w : World) (g j k : Nat) (v u : Value) : w.grownBy ((w.setCell ⟨g, j, none⟩ v).setCell ⟨g, k, none⟩ u) (some g) := grown_set (grown_one w g j v) (.inl rfl) _
theorem grown_three (w : World) (g j k l : Nat) (v u x : Value) : w.grownBy (((w.setCell ⟨g, j, none⟩ v).setCell ⟨g, k, none⟩ u).setCell ⟨g, l, none⟩ x) (some g) := grown_set (grown_two w g j k v u) (.inl rfl) _
theorem grown_four (w : World) (g j k l m : Nat) (v u x y : Value) : w.grownBy ((((w.setCell ⟨g, j, none⟩ v).setCell ⟨g, k, none⟩ u).setCell ⟨g, l, none⟩ x).setCell ⟨g, m, none⟩ y) (some g) := grown_set (grown_three w g j k l v u x) (.inl rfl) _

/-- What holds of every flow control that New has made. -/
def Fs.ok (s : Fs) : Prop := (1 ≤ s.ag ∧ s.ag ≤ 1048576) ∧ (1 ≤ s.mo ∧ s.mo ≤ 1048576) ∧ (1 ≤ s.wa ∧ s.wa ≤ 1048576) ∧ (0 ≤ s.si ∧ s.si < s.ag) ∧ (0 ≤ s.bu ∧ s.bu ≤ 1048576) ∧ (0 ≤ s.wt ∧ s.wt ≤ 1048576)

def Fs.start (ag mo wa : Int) : Fs := ⟨ag, mo, wa, false, 0, false, false, 0, 0, false⟩

def Fs.congest (s : Fs) (on : Bool) : Fs := { s with si := if s.co then s.si else 0, co := on }
def Fs.outage (s : Fs) (on : Bool) : Fs := { s with ou := on }
def Fs.open_ (s : Fs) (wait ack : Bool) : Fs := { s with bu := if ack then 0 else s.bu, wt := if wait then (if ack || s.wt == 0 then s.wa else s.wt) else 0 }
def Fs.hear (s : Fs) (st : Int) (is : Bool) : Fs :=
  if is then
    if 5 < st then s
    else if st = 5 then { s with bu := if s.bu = 0 then s.mo else s.bu, wt := if 0 < s.wt then s.wa else s.wt }
    else if st = 4 then { s with fa := true }
    else { s with fd := true }
  else { s with fa := false }
def Fs.hearE (st : Int) (is : Bool) : Int := if is && decide (5 < st) then 1 else 0
def down (n : Int) : Int := if n = 0 then 0 else n - 1
def late (n : Int) : Bool := decide (n = 1)
def Fs.tick (s : Fs) : Fs :=
  { s with si := if s.si + 1 = s.ag then 0 else s.si + 1, bu := down s.bu, wt := if s.ou || s.fa then s.wt else down s.wt, fd := late s.bu || (!(s.ou || s.fa) && late s.wt) }
def Fs.sends (s : Fs) : Int × Bool := if s.fd then (0, false) else if s.ou then (4, true) else if s.co && s.si == 0 then (5, true) else (0, false)

/-- What a method leaves. -/
def RetStep (w : World) (g : Nat) (n : Int) (s : Fs) (e : Ending) (w' : World) : Prop := e = .returned (.int .i64 n) ∧ Fl w' g s ∧ w.grownBy w' (some g)

theorem valid_any (n : Int) (w : World) : Calls Try.prog 28 #[.int .i64 n] w fun e w' => e = .returned (.bool (decide (1 ≤ n) && decide (n ≤ 1048576))) ∧ w = w' := by
  by_cases h1 : 1 ≤ n
  · have d1 : decide (1 ≤ n) = true := by simpa using h1
    go_enter Try.func28, Try.ntmps28
    go_wp2_with fail
    go_ret
    first | exact ⟨rfl, rfl⟩ | exact ⟨by rw [d1]; rfl, rfl⟩
  · have d1 : decide (1 ≤ n) = false := by simpa using h1
    go_enter Try.func28, Try.ntmps28
    go_wp2_with fail
    go_ret
    first | exact ⟨rfl, rfl⟩ | exact ⟨by rw [d1]; rfl, rfl⟩

theorem state_nil (w : World) : Calls Try.prog 29 #[.pointer none] w fun e w' => e = .returned (.int .i64 2) ∧ w = w' := by
  go_enter Try.func29, Try.ntmps29
  go_wp2_with fail
  go_ret
  exact ⟨rfl, rfl⟩

theorem state_zero (g : Nat) (w : World) (h : Lit0 w g 62 (Fs.start 0 0 0).cells) : Calls Try.prog 29 #[.pointer (some ⟨g, 0, none⟩)] w fun e w' => e = .returned (.int .i64 2) ∧ w = w' := by
  have c0 := h.cell 0
  have c1 := h.cell 1
  have c2 := h.cell 2
  simp only [Fs.cells, Fs.start, List.getElem?_toArray, List.getElem?_cons_zero, List.getElem?_cons_succ] at c0 c1 c2
  clear h
  go_enter Try.func29, Try.ntmps29
  go_wp2_with fail
  go_ret
  exact ⟨rfl, rfl⟩

theorem state_any (g : Nat) (s : Fs) (w : World) (h : Fl w g s) (hag : 1 ≤ s.ag) : Calls Try.prog 29 #[.pointer (some ⟨g, 0, none⟩)] w fun e w' => e = .returned (.int .i64 (if s.fd then 6 else 0)) ∧ w = w' := by
  obtain ⟨ag, mo, wa, co, si, ou, fa, bu, wt, fd⟩ := s
  have c0 := h.cell 0
  have c1 := h.cell 1
  have c2 := h.cell 2
  have c9 := h.cell 9
  simp only [Fs.cells, List.getElem?_toArray, List.getElem?_cons_zero, List.getElem?_cons_succ] at c0 c1 c2 c9
  have e0 : (ag == 0) = false := by rw [beq_eq_false_iff_ne]; simp only at hag; omega
  clear h
  cases fd
  all_goals
    go_enter Try.func29, Try.ntmps29
    go_wp2_with fail
    go_ret
    exact ⟨rfl, rfl⟩

theorem congest_any (g : Nat) (s : Fs) (on : Bool) (w : World) (h : Fl w g s) (hok : s.ok) :
    Calls Try.prog 12 #[.pointer (some ⟨g, 0, none⟩), .bool on] w (RetStep w g (if s.fd then 6 else 0) (if s.fd then s else s.congest on)) := by
  obtain ⟨ag, mo, wa, co, si, ou, fa, bu, wt, fd⟩ := s
  have c0 := h.cell 0
  have c1 := h.cell 1
  have c2 := h.cell 2
  have c3 := h.cell 3
  have c4 := h.cell 4
  have c5 := h.cell 5
  have c6 := h.cell 6
  have c7 := h.cell 7
  have c8 := h.cell 8
  have c9 := h.cell 9
  have fr : ∀ j, w.frozen? ⟨g, j, none⟩ = false := fun j => h.free j
  simp only [Fs.cells, List.getElem?_toArray, List.getElem?_cons_zero, List.getElem?_cons_succ] at c0 c1 c2 c3 c4 c5 c6 c7 c8 c9
  have hst := state_any g _ w h hok.1.1
  have HST := Lib.hid hst
  have H := Lib.hid h
  have HOK := Lib.hid hok
  clear hst h hok
  have f4 := fr 4
  have f3 := fr 3
  clear fr
  cases fd
  · cases co
    all_goals
      go_enter Try.func12, Try.ntmps12
      go_wp2_with fail
      refine HST.out.mono ?_
      rintro e w' ⟨rfl, rfl⟩
      go_wp2_with fail
      go_ret
    · exact ⟨rfl, (H.out.set4 0).set3 on, grown_two _ _ _ _ _ _⟩
    · exact ⟨rfl, H.out.set3 on, grown_one _ _ _ _⟩
  · go_enter Try.func12, Try.ntmps12
    go_wp2_with fail
    refine HST.out.mono ?_
    rintro e w' ⟨rfl, rfl⟩
    go_wp2_with fail
    go_ret
    exact ⟨rfl, H.out, grown_refl _ _⟩

theorem outage_any (g : Nat) (s : Fs) (on : Bool) (w : World) (h : Fl w g s) (hok : s.ok) :
    Calls Try.prog 27 #[.pointer (some ⟨g, 0, none⟩), .bool on] w (RetStep w g (if s.fd then 6 else 0) (if s.fd then s else s.outage on)) := by
  obtain ⟨ag, mo, wa, co, si, ou, fa, bu, wt, fd⟩ := s
  have c0 := h.cell 0
  have c1 := h.cell 1
  have c2 := h.cell 2
  have c3 := h.cell 3
  have c4 := h.cell 4
  have c5 := h.cell 5
  have c6 := h.cell 6
  have c7 := h.cell 7
  have c8 := h.cell 8
  have c9 := h.cell 9
  have fr : ∀ j, w.frozen? ⟨g, j, none⟩ = false := fun j => h.free j
  simp only [Fs.cells, List.getElem?_toArray, List.getElem?_cons_zero, List.getElem?_cons_succ] at c0 c1 c2 c3 c4 c5 c6 c7 c8 c9
  have hst := state_any g _ w h hok.1.1
  have HST := Lib.hid hst
  have H := Lib.hid h
  have HOK := Lib.hid hok
  clear hst h hok
  have f5 := fr 5
  clear fr
  cases fd
  · go_enter Try.func27, Try.ntmps27
    go_wp2_with fail
    refine HST.out.mono ?_
    rintro e w' ⟨rfl, rfl⟩
    go_wp2_with fail
    go_ret
    exact ⟨rfl, H.out.set5 on, grown_one _ _ _ _⟩
  · go_enter Try.func27, Try.ntmps27
    go_wp2_with fail
    refine HST.out.mono ?_
    rintro e w' ⟨rfl, rfl⟩
    go_wp2_with fail
    go_ret
    exact ⟨rfl, H.out, grown_refl _ _⟩

theorem open_any (g : Nat) (s : Fs) (wait ack : Bool) (w : World) (h : Fl w g s) (hok : s.ok) :
    Calls Try.prog 17 #[.pointer (some ⟨g, 0, none⟩), .bool wait, .bool ack] w (RetStep w g (if s.fd then 6 else 0) (if s.fd then s else s.open_ wait ack)) := by
  obtain ⟨ag, mo, wa, co, si, ou, fa, bu, wt, fd⟩ := s
  have c0 := h.cell 0
  have c1 := h.cell 1
  have c2 := h.cell 2
  have c3 := h.cell 3
  have c4 := h.cell 4
  have c5 := h.cell 5
  have c6 := h.cell 6
  have c7 := h.cell 7
  have c8 := h.cell 8
  have c9 := h.cell 9
  have fr : ∀ j, w.frozen? ⟨g, j, none⟩ = false := fun j => h.free j
  simp only [Fs.cells, List.getElem?_toArray, List.getElem?_cons_zero, List.getElem?_cons_succ] at c0 c1 c2 c3 c4 c5 c6 c7 c8 c9
  have hst := state_any g _ w h hok.1.1
  have HST := Lib.hid hst
  have H := Lib.hid h
  have HOK := Lib.hid hok
  clear hst h hok
  have f7 := fr 7
  have f8 := fr 8
  clear fr
  cases fd
  · cases ack
    · cases wait
      · go_enter Try.func17, Try.ntmps17
        go_wp2_with fail
        refine HST.out.mono ?_
        rintro e w' ⟨rfl, rfl⟩
        go_wp2_with fail
        go_ret
        exact ⟨rfl, H.out.set8 0, grown_one _ _ _ _⟩
      · by_cases h0 : wt = 0
        · subst h0
          go_enter Try.func17, Try.ntmps17
          go_wp2_with fail
          refine HST.out.mono ?_
          rintro e w' ⟨rfl, rfl⟩
          go_wp2_with fail
          go_ret
          exact ⟨rfl, H.out.set8 wa, grown_one _ _ _ _⟩
        · have e0 : (wt == 0) = false := by simpa using h0
          go_enter Try.func17, Try.ntmps17
          go_wp2_with fail
          refine HST.out.mono ?_
          rintro e w' ⟨rfl, rfl⟩
          go_wp2_with fail
          go_ret
          exact ⟨rfl, by simpa [Fl, Fs.open_, e0] using H.out, grown_refl _ _⟩
    · cases wait
      all_goals
        go_enter Try.func17, Try.ntmps17
        go_wp2_with fail
        refine HST.out.mono ?_
        rintro e w' ⟨rfl, rfl⟩
        go_wp2_with fail
        go_ret
        first | exact ⟨rfl, (H.out.set7 0).set8 0, grown_two _ _ _ _ _ _⟩ | exact ⟨rfl, (H.out.set7 0).set8 wa, grown_two _ _ _ _ _ _⟩
  · go_enter Try.func17, Try.ntmps17
    go_wp2_with fail
    refine HST.out.mono ?_
    rintro e w' ⟨rfl, rfl⟩
    go_wp2_with fail
    go_ret
    exact ⟨rfl, H.out, grown_refl _ _⟩
end Go.Proofs.Ytbcalbkficbppaa
