/- The law CongestionsSheds: the walk. -/
import Derived.Test.YtljogcdopeflnaaLives
namespace Go.Proofs.Ytljogcdopeflnaa
open Go.RowKit

theorem congestionsSheds_any (lv p : Int) (w : World) (hp : 0 ≤ p ∧ p ≤ 255) : Calls Try.prog 5 #[.int .i64 lv, .int .u8 p] w (RetBool w true) := by
  have HS := Lib.hid (sheds_any lv p w hp)
  go_enter Try.func5, Try.ntmps5
  go_wp2_with fail
  refine HS.out.mono ?_
  rintro e w1 ⟨rfl, rfl⟩
  by_cases h3 : lv < 3
  · have d3 : decide ((3 : Int) < lv) = false := by simp; omega
    go_wp2_with fail
    refine (sheds_any lv 3 w (by decide)).mono ?_
    rintro e w1 ⟨rfl, rfl⟩
    go_wp2_with fail
    refine (lives_any w).mono ?_
    rintro e w1 ⟨rfl, hb⟩
    go_wp2_with fail
    go_ret
    exact ⟨rfl, hb⟩
  · have d3 : decide ((3 : Int) < 3) = false := by simp
    go_wp2_with fail
    all_goals
      refine (sheds_any _ 3 w (by decide)).mono ?_
      rintro e w1 ⟨rfl, rfl⟩
      first
      | rw [show lv = 3 by omega]
      | skip
      go_wp2_with fail
      refine (lives_any w).mono ?_
      rintro e w1 ⟨rfl, hb⟩
      go_wp2_with fail
      go_ret
      exact ⟨rfl, hb⟩
end Go.Proofs.Ytljogcdopeflnaa
