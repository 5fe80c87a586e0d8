/- The meter of congestions: NewMeter, Level, count, Set, Sheds. -/
import Derived.Test.YtljogcdopeflnaaKit
namespace Go.Proofs.Ytljogcdopeflnaa
open Go.RowKit

/-- A meter in memory: its marks and its level. -/
def Meter (w : World) (g : Nat) (a b c lv : Int) : Prop := Lit0 w g 57 #[.int .i64 a, .int .i64 b, .int .i64 c, .int .i64 lv]

/-- Are the marks good? -/
def good (a b c : Int) : Bool := decide (1 ≤ a) && decide (a < b) && decide (b < c)

/-- What NewMeter leaves: an error, or a new meter of the level 0. -/
def RetMeter (w : World) (a b c : Int) (e : Ending) (w' : World) : Prop :=
  (good a b c = false ∧ e = .returned (.tuple #[.pointer none, .int .i64 1]) ∧ Below w.heap.size w w') ∨
  (good a b c = true ∧ ∃ g, e = .returned (.tuple #[.pointer (some ⟨g, 0, none⟩), .int .i64 0]) ∧ w.heap.size ≤ g ∧ Meter w' g a b c 0 ∧ Below w.heap.size w w')

theorem newMeter_any (a b c : Int) (w : World) : Calls Try.prog 11 #[.agg #[.int .i64 a, .int .i64 b, .int .i64 c]] w (RetMeter w a b c) := by
  have hb0 := (Below.refl _ w).alloc (Nat.le_refl _) (.cells #[.int .i64 a, .int .i64 b, .int .i64 c] 26)
  by_cases h1 : a < 1
  · have d1 : decide (a < 1) = true := by simpa using h1
    have hg : good a b c = false := by unfold good; simp; omega
    have HG := Lib.hid hg
    clear hg
    go_enter Try.func11, Try.ntmps11
    go_wp2_with fail
    go_ret2
    exact .inl ⟨HG.out, rfl, hb0⟩
  have d1 : decide (a < 1) = false := by simpa using h1
  by_cases h2 : b ≤ a
  · have d2 : decide (b ≤ a) = true := by simpa using h2
    have hg : good a b c = false := by unfold good; simp; omega
    have HG := Lib.hid hg
    clear hg
    go_enter Try.func11, Try.ntmps11
    go_wp2_with fail
    go_ret2
    exact .inl ⟨HG.out, rfl, hb0⟩
  have d2 : decide (b ≤ a) = false := by simpa using h2
  by_cases h3 : c ≤ b
  · have d3 : decide (c ≤ b) = true := by simpa using h3
    have hg : good a b c = false := by unfold good; simp; omega
    have HG := Lib.hid hg
    clear hg
    go_enter Try.func11, Try.ntmps11
    go_wp2_with fail
    go_ret2
    exact .inl ⟨HG.out, rfl, hb0⟩
  have d3 : decide (c ≤ b) = false := by simpa using h3
  have hg : good a b c = true := by unfold good; simp; omega
  have HG := Lib.hid hg
  clear hg
  go_enter Try.func11, Try.ntmps11
  go_wp2_with fail
  have hm := Lit0.new (w.alloc (.cells #[.int .i64 a, .int .i64 b, .int .i64 c] 26)) 57 #[.int .i64 a, .int .i64 b, .int .i64 c, .int .i64 0]
  simp only [World.size_alloc] at hm
  go_ret2
  exact .inr ⟨HG.out, w.heap.size + 1, rfl, by omega, hm, hb0.alloc (by simp) _⟩

theorem level_nil (w : World) : Calls Try.prog 12 #[.pointer none] w fun e w' => e = .returned (.int .i64 0) ∧ w = w' := by
  go_enter Try.func12, Try.ntmps12
  go_wp2_with fail
  go_ret
  exact ⟨rfl, rfl⟩

theorem level_any (g : Nat) (a b c lv : Int) (w : World) (h : Meter w g a b c lv) : Calls Try.prog 12 #[.pointer (some ⟨g, 0, none⟩)] w fun e w' => e = .returned (.int .i64 lv) ∧ w = w' := by
  have h3 := h.cell 3
  simp only [List.getElem?_toArray, List.getElem?_cons_zero, List.getElem?_cons_succ] at h3
  clear h
  go_enter Try.func12, Try.ntmps12
  go_wp2_with fail
  go_ret
  exact ⟨rfl, rfl⟩

/-- How many of three marks fulfil a condition. -/
def cnt3 (p : Int → Bool) (a b c : Int) : Int := (if p a then 1 else 0) + (if p b then 1 else 0) + (if p c then 1 else 0)
theorem cnt3_le (p : Int → Bool) (a b c : Int) : 0 ≤ cnt3 p a b c ∧ cnt3 p a b c ≤ 3 := by unfold cnt3; split <;> split <;> split <;> omega

/-- .. of the first k marks. -/
def cntTo (p : Int → Bool) (a b c : Int) (k : Int) : Int := (if 1 ≤ k ∧ p a then 1 else 0) + (if 2 ≤ k ∧ p b then 1 else 0) + (if 3 ≤ k ∧ p c then 1 else 0)
theorem cntTo_le (p : Int → Bool) (a b c k : Int) : 0 ≤ cntTo p a b c k ∧ cntTo p a b c k ≤ 3 := by unfold cntTo; split <;> split <;> split <;> omega

theorem call19 (args : Array Value) (w : World) : (callFunc 19 args).run Try.prog w = .ok (.enter 19 args) w := by kernel_rfl
theorem call20 (args : Array Value) (w : World) : (callFunc 20 args).run Try.prog w = .ok (.enter 20 args) w := by kernel_rfl

set_option maxHeartbeats 1000000 in
theorem count_any (fid : FuncId) (caps : Array Value) (p : Int → Bool) (g : Nat) (a b c lv : Int) (w : World) (h : Meter w g a b c lv)
    (hcf : ∀ (args : Array Value) (w : World), (callFunc fid args).run Try.prog w = .ok (.enter fid args) w)
    (hcl : ∀ x : Int, (x = a ∨ x = b ∨ x = c) → Calls Try.prog fid (#[.int .i64 x] ++ caps) w fun e w' => e = .returned (.bool (p x)) ∧ w = w') :
    Calls Try.prog 18 #[.pointer (some ⟨g, 0, none⟩), .func (.func fid) #[] caps] w fun e w' => e = .returned (.int .i64 (cnt3 p a b c)) ∧ w = w' := by
  have c0 := h.cell 0
  have c1 := h.cell 1
  have c2 := h.cell 2
  simp only [List.getElem?_toArray, List.getElem?_cons_zero, List.getElem?_cons_succ] at c0 c1 c2
  have i0 : ∀ w, (Instr.index 26 (.agg #[.int .i64 a, .int .i64 b, .int .i64 c]) (.int .i64 0)).run Try.prog w = .ok (.int .i64 a) w := fun _ => by kernel_rfl
  have i1 : ∀ w, (Instr.index 26 (.agg #[.int .i64 a, .int .i64 b, .int .i64 c]) (.int .i64 1)).run Try.prog w = .ok (.int .i64 b) w := fun _ => by kernel_rfl
  have i2 : ∀ w, (Instr.index 26 (.agg #[.int .i64 a, .int .i64 b, .int .i64 c]) (.int .i64 2)).run Try.prog w = .ok (.int .i64 c) w := fun _ => by kernel_rfl
  have HC := Lib.hid hcl
  clear hcl h
  go_enter Try.func18, Try.ntmps18
  go_wp2_with fail
  go_loop [4, 11] (fun v i => ∃ k : Int, (k = 0 ∨ k = 1 ∨ k = 2 ∨ k = 3) ∧ i = .int .i64 k ∧ v = .int .i64 (cntTo p a b c k)) (fun _ i => 3 - (intOf i).toNat)
  case atStart => exact ⟨0, .inl rfl, rfl, rfl⟩
  case round =>
    obtain ⟨k, hk, rfl, rfl⟩ := hrel
    obtain ⟨t, ht⟩ : ∃ t, t = cntTo p a b c k := ⟨_, rfl⟩
    have hb := cntTo_le p a b c k
    rw [← ht] at hb ⊢
    rcases hk with rfl | rfl | rfl | rfl
    · have HT := Lib.hid ht
      clear ht
      go_wp2_with fail
      refine (HC.out a (.inl rfl)).mono ?_
      rintro e w' ⟨rfl, rfl⟩
      cases hp : p a
      all_goals
        go_wp2_with fail
        go_round
        case measure => simp [intOf]
        have := HT.out
        exact ⟨1, by omega, rfl, by rw [this]; simp [cntTo, hp]⟩
    · have HT := Lib.hid ht
      clear ht
      go_wp2_with fail
      refine (HC.out b (.inr (.inl rfl))).mono ?_
      rintro e w' ⟨rfl, rfl⟩
      cases hp : p b
      all_goals
        go_wp2_with fail
        go_round
        case measure => simp [intOf]
        have := HT.out
        exact ⟨2, by omega, rfl, by rw [this]; simp [cntTo, hp]⟩
    · have HT := Lib.hid ht
      clear ht
      go_wp2_with fail
      refine (HC.out c (.inr (.inr rfl))).mono ?_
      rintro e w' ⟨rfl, rfl⟩
      cases hp : p c
      all_goals
        go_wp2_with fail
        go_round
        case measure => simp [intOf]
        have := HT.out
        exact ⟨3, by omega, rfl, by rw [this]; simp [cntTo, hp]⟩
    · have HT := Lib.hid ht
      clear ht
      go_wp2_with fail
      go_ret
      exact ⟨by rw [HT.out]; simp [cntTo, cnt3], rfl⟩
end Go.Proofs.Ytljogcdopeflnaa
