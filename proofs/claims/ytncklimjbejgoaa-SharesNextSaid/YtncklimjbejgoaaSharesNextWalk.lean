/- The statement SharesNext, walked: it answers true whatever the choices, statuses and selection code. -/
import Derived.Test.YtncklimjbejgoaaLawNext
namespace Go.Proofs.Ytncklimjbejgoaa
open Go.RowKit

set_option maxHeartbeats 1000000 in
theorem sharesNext_any (A A2 : Option Addr) (n c m c2 : Nat) (f g : Nat → Int) (S : Nat → Int) (sel : Nat) (w : World) (hsel : sel < 256)
    (hs : Sees2 w w.heap.size A n (fun k => .int .u16 (f k)) (fun k => .int .i64 (g k)))
    (hs2 : Sees w w.heap.size A2 m (fun k => .int .u8 (S k))) :
    Calls Try.prog 3 #[.slice A n c, .slice A2 m c2, .int .u8 sel] w (RetBool w true) := by
  have HS := Lib.hid hs
  have HS2 := Lib.hid hs2
  clear hs hs2
  by_cases hn : 40 < n
  · have hn1 : decide (40 < n) = true := by simpa using hn
    go_enter Try.func3, Try.ntmps3
    go_wp2_with fail
    refine (lives_any w).mono ?_
    rintro e w1 ⟨rfl, hb1⟩
    go_wp2_with fail
    go_ret
    exact ⟨rfl, hb1⟩
  have hn1 : decide (40 < n) = false := by simpa using hn
  by_cases hm : 60 < m
  · have hm1 : decide (60 < m) = true := by simpa using hm
    go_enter Try.func3, Try.ntmps3
    go_wp2_with fail
    refine (lives_any w).mono ?_
    rintro e w1 ⟨rfl, hb1⟩
    go_wp2_with fail
    go_ret
    exact ⟨rfl, hb1⟩
  have hm1 : decide (60 < m) = false := by simpa using hm
  go_enter Try.func3, Try.ntmps3
  go_wp2_with fail
  refine (next_any A A2 n c m c2 f g S sel w (by omega) hsel HS.out HS2.out).mono ?_
  rintro e w1 ⟨rfl, hb1⟩
  have HB1 := Lib.hid hb1
  clear hb1
  go_wp2_with fail
  refine (law_next A A2 n c m c2 f g S sel w1 (by omega) hsel ((HS.out.below HB1.out).more HB1.out.size) ((HS2.out.below HB1.out).more HB1.out.size)).mono ?_
  rintro e w2 ⟨rfl, hb2⟩
  have HB2 := Lib.hid (HB1.out.trans (hb2.mono HB1.out.size))
  clear hb2
  cases nextOf n m g S sel with
  | none =>
    simp only [code, Option.getD, Option.isSome]
    go_wp2_with fail
    refine (lives_any w2).mono ?_
    rintro e w3 ⟨rfl, hb3⟩
    have HB3 := Lib.hid (HB2.out.trans (hb3.mono HB2.out.size))
    clear hb3
    go_wp2_with fail
    go_ret
    exact ⟨rfl, HB3.out⟩
  | some x =>
    simp only [code, Option.getD, Option.isSome]
    go_wp2_with fail
    refine (lives_any w2).mono ?_
    rintro e w3 ⟨rfl, hb3⟩
    have HB3 := Lib.hid (HB2.out.trans (hb3.mono HB2.out.size))
    clear hb3
    go_wp2_with fail
    go_ret
    exact ⟨rfl, HB3.out⟩
end Go.Proofs.Ytncklimjbejgoaa
