/- 'Next': which choice a selection code gets; its closures first. -/
import Derived.Test.YtncklimjbejgoaaPlace
import Derived.StillTailTactics
namespace Go.Proofs.Ytncklimjbejgoaa
open Go.RowKit

/-- The status of choice i: nothing is worse than 2. -/
def stat (m : Nat) (S : Nat → Int) (i : Nat) : Int := if m ≤ i then 2 else if 2 < S i then 2 else S i

theorem next_status (A : Option Addr) (m c b4 i : Nat) (S : Nat → Int) (w : World)
    (hc : w.cell? ⟨b4, 0, none⟩ = some (.slice A m c)) (hs : Sees w w.heap.size A m (fun k => .int .u8 (S k))) :
    Calls Try.prog 16 #[.int .i64 (i : Nat), .pointer (some ⟨b4, 0, none⟩)] w fun e w' => e = .returned (.int .u8 (stat m S i)) ∧ w = w' := by
  by_cases h : m ≤ i
  · go_enter Try.func16, Try.ntmps16
    go_wp2
    go_ret
    exact ⟨by simp [stat, h], rfl⟩
  · obtain ⟨b, off, rfl, hb, hc0⟩ := hs i (by omega)
    by_cases h2 : 2 < S i
    all_goals
      go_enter Try.func16, Try.ntmps16
      go_wp2
      go_ret
      exact ⟨by unfold stat; rw [if_neg (by omega)]; first | (rw [if_pos (by omega)]; rfl) | (rw [if_neg (by omega)]; rfl), rfl⟩

theorem call16 (args : Array Value) (w : World) : (callFunc 16 args).run Try.prog w = .ok (.enter 16 args) w := by kernel_rfl
theorem call17 (args : Array Value) (w : World) : (callFunc 17 args).run Try.prog w = .ok (.enter 17 args) w := by kernel_rfl

/-- usable: the status of a choice is the best one. -/
theorem next_usable (A : Option Addr) (m c b4 b8 b9 i : Nat) (S : Nat → Int) (best : Int) (w : World)
    (hc : w.cell? ⟨b4, 0, none⟩ = some (.slice A m c)) (hs : Sees w w.heap.size A m (fun k => .int .u8 (S k)))
    (hc8 : w.cell? ⟨b8, 0, none⟩ = some (.func (.func 16) #[] #[.pointer (some ⟨b4, 0, none⟩)])) (hc9 : w.cell? ⟨b9, 0, none⟩ = some (.int .u8 best)) :
    Calls Try.prog 17 #[.int .i64 (i : Nat), .pointer (some ⟨b8, 0, none⟩), .pointer (some ⟨b9, 0, none⟩)] w (RetBool w (stat m S i == best)) := by
  have hst : ∀ n, Calls Try.prog 16 #[.int .i64 (i : Nat), .pointer (some ⟨b4, 0, none⟩)] (w.drewN n) fun e w' => e = .returned (.int .u8 (stat m S i)) ∧ w' = w.drewN n :=
    fun n => (next_status A m c b4 i S (w.drewN n) hc hs).mono fun e w' h => ⟨h.1, h.2.symm⟩
  have HS := Lib.hid hst
  clear hst hs
  go_enter Try.func17, Try.ntmps17
  go_wp2
  go_quiet ((go_at_call 16; exact Calls.quiet_of_same (HS.out _)))
  go_wp2
  go_ret
  exact ⟨rfl, by repeat (first | exact Below.refl _ _ | apply Below.drewN' | apply Below.drew)⟩

theorem call19 (args : Array Value) (w : World) : (callFunc 19 args).run Try.prog w = .ok (.enter 19 args) w := by kernel_rfl
theorem call20 (args : Array Value) (w : World) : (callFunc 20 args).run Try.prog w = .ok (.enter 20 args) w := by kernel_rfl

theorem next_first (b11 i : Nat) (x y : Int) (caps : Array Value) (r : Bool) (w : World)
    (hc : w.cell? ⟨b11, 0, none⟩ = some (.func (.func 17) #[] caps))
    (hcl : ∀ w', Below w.heap.size w w' → Calls Try.prog 17 (#[.int .i64 (i : Nat)] ++ caps) w' (RetBool w' r)) :
    Calls Try.prog 19 #[.int .i64 (i : Nat), .agg #[.int .u16 x, .int .i64 y], .pointer (some ⟨b11, 0, none⟩)] w (RetBool w r) := by
  have HC := Lib.hid hcl
  clear hcl
  have hc1 := cell_alloc hc (.cells #[.int .u16 x, .int .i64 y] 48)
  go_enter Try.func19, Try.ntmps19
  go_wp2_with fail
  refine (HC.out _ ((Below.refl _ w).alloc (Nat.le_refl _) _)).mono ?_
  rintro e w1 ⟨rfl, hb1⟩
  have hbb := ((Below.refl _ w).alloc (Nat.le_refl _) _).trans (hb1.mono (by simp))
  clear hb1
  go_wp2_with fail
  go_ret
  exact ⟨rfl, hbb⟩

theorem next_same (b13 i : Nat) (x y rank : Int) (w : World) (hc : w.cell? ⟨b13, 0, none⟩ = some (.int .i64 rank)) :
    Calls Try.prog 20 #[.int .i64 (i : Nat), .agg #[.int .u16 x, .int .i64 y], .pointer (some ⟨b13, 0, none⟩)] w (RetBool w (y == rank)) := by
  have hc1 := cell_alloc hc (.cells #[.int .u16 x, .int .i64 y] 48)
  go_enter Try.func20, Try.ntmps20
  go_wp2_with fail
  go_ret
  exact ⟨rfl, (Below.refl _ w).alloc (Nat.le_refl _) _⟩
end Go.Proofs.Ytncklimjbejgoaa
