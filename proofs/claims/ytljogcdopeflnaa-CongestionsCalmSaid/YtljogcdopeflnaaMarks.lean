/- Marks.Of. -/
import Derived.Test.YtljogcdopeflnaaLives
namespace Go.Proofs.Ytljogcdopeflnaa
open Go.RowKit

theorem of_any (x y z : Int) (w : World) (hx : 0 ≤ x ∧ x ≤ 255) (hy : 0 ≤ y ∧ y ≤ 255) (hz : 0 ≤ z ∧ z ≤ 255) :
    Calls Try.prog 10 #[.agg #[.int .u8 x, .int .u8 y, .int .u8 z]] w fun e w' => e = .returned (.agg #[.int .i64 (1 + x % 20), .int .i64 (1 + x % 20 + 1 + y % 20), .int .i64 (1 + x % 20 + 1 + y % 20 + 1 + z % 20)]) ∧ Below w.heap.size w w' := by
  go_enter Try.func10, Try.ntmps10
  go_wp2_with fail
  have hb1 := ((Below.refl _ w).alloc (Nat.le_refl _) (.cells #[.int .u8 x, .int .u8 y, .int .u8 z] 23)).alloc (by simp) (.cells #[.int .i64 (1 + x % 20), .int .i64 (1 + x % 20 + 1 + y % 20), .int .i64 (1 + x % 20 + 1 + y % 20 + 1 + z % 20)] 26)
  have hl := Lit0.new (w.alloc (.cells #[.int .u8 x, .int .u8 y, .int .u8 z] 23)) 26 #[.int .i64 (1 + x % 20), .int .i64 (1 + x % 20 + 1 + y % 20), .int .i64 (1 + x % 20 + 1 + y % 20 + 1 + z % 20)]
  simp only [World.size_alloc] at hl
  have q0 := hl.cell 0
  have q1 := hl.cell 1
  have q2 := hl.cell 2
  simp only [List.getElem?_toArray, List.getElem?_cons_zero, List.getElem?_cons_succ] at q0 q1 q2
  refine bodyPost_ret (v := .agg #[.int .i64 (1 + x % 20), .int .i64 (1 + x % 20 + 1 + y % 20), .int .i64 (1 + x % 20 + 1 + y % 20 + 1 + z % 20)]) (by simp [results, Try.results10, go_sem, q0, q1, q2]) rfl ⟨rfl, hb1⟩
end Go.Proofs.Ytljogcdopeflnaa
