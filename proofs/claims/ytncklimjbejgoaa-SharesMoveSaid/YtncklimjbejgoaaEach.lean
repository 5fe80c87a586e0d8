/- 'each', 'Places' and 'Lines': the results for the selection codes 0 to 15. -/
import Derived.Test.YtncklimjbejgoaaNextAll
import Derived.Test.YtncklimjbejgoaaLink
namespace Go.Proofs.Ytncklimjbejgoaa
open Go.RowKit

set_option maxHeartbeats 1000000 in
theorem each_any (fid : FuncId) (caps : Array Value) (r : Nat → Option Nat) (w : World)
    (hcf : ∀ (args : Array Value) (w : World), (callFunc fid args).run Try.prog w = .ok (.enter fid args) w)
    (hcl : ∀ s, s < 16 → ∀ w', Below w.heap.size w w' → Calls Try.prog fid (#[.int .u8 (s : Nat)] ++ caps) w' (RetSome w' (r s))) :
    Calls Try.prog 28 #[.func (.func fid) #[] caps] w (RetCodes w r) := by
  have hmk : ∀ w : World, (Instr.makeSlice 31 (.int .i64 16) (.int .i64 16)).run Try.prog w = .ok (.slice (some ⟨w.heap.size, 0, none⟩) 16 16)
      (w.alloc (.cells #[.int .i64 0, .int .i64 0, .int .i64 0, .int .i64 0, .int .i64 0, .int .i64 0, .int .i64 0, .int .i64 0, .int .i64 0, .int .i64 0, .int .i64 0, .int .i64 0, .int .i64 0, .int .i64 0, .int .i64 0, .int .i64 0] 3)) := fun _ => by kernel_rfl
  have HC := Lib.hid hcl
  clear hcl
  go_enter Try.func28, Try.ntmps28
  go_wp2_with fail
  go_loopw [4, 5, 6, 10] (fun _ _ _ i wr => ∃ k : Nat, k ≤ 16 ∧ i = .int .i64 k ∧ Row wr w.heap.size 3 16 (fun s => .int .i64 (if s < k then code (r s) else 0)) ∧ Below w.heap.size w wr)
    (fun _ _ _ i _ => 16 - (intOf i).toNat)
  case atStart =>
    refine ⟨0, by omega, rfl, Row.new _ rfl ?_, (Below.refl _ w).alloc (Nat.le_refl _) _⟩
    intro j hj
    simp only [Nat.not_lt_zero, if_false]
    have hj' : j = 0 ∨ j = 1 ∨ j = 2 ∨ j = 3 ∨ j = 4 ∨ j = 5 ∨ j = 6 ∨ j = 7 ∨ j = 8 ∨ j = 9 ∨ j = 10 ∨ j = 11 ∨ j = 12 ∨ j = 13 ∨ j = 14 ∨ j = 15 := by omega
    rcases hj' with rfl | rfl | rfl | rfl | rfl | rfl | rfl | rfl | rfl | rfl | rfl | rfl | rfl | rfl | rfl | rfl <;> rfl
  case round =>
    obtain ⟨k, hk, rfl, hrow, hnx⟩ := hrel
    have HROW := Lib.hid hrow
    clear hrow hmk
    by_cases hlt : k < 16
    · go_wp2_with fail
      refine (HC.out k hlt wr hnx).mono ?_
      rintro e w1 ⟨rfl, hb1⟩
      have hrow1 := HROW.out.kept hb1
      have hcell := hrow1.cell hlt
      have hfree := hrow1.free k
      have hnx1 : Below w.heap.size w w1 := hnx.trans (hb1.mono hnx.size)
      have HROW1 := Lib.hid hrow1
      obtain ⟨y, hy⟩ : ∃ y, y = r k := ⟨_, rfl⟩
      rw [← hy]
      have HY := Lib.hid hy
      clear hrow1 hb1 hy
      have hnext : ∀ (u : Int), u = code (r k) → Row (w1.setCell ⟨w.heap.size, k, none⟩ (.int .i64 u)) w.heap.size 3 16 (fun s => .int .i64 (if s < k + 1 then code (r s) else 0)) := by
        intro u hu
        refine (HROW1.out.set hlt (.int .i64 u)).congr fun j hj => ?_
        by_cases e : j = k
        · subst e; simp [hu]
        · rw [if_neg e]; congr 2; simp only [eq_iff_iff]; omega
      have HNEXT := Lib.hid hnext
      clear hnext
      cases y with
      | none =>
        go_wp2_with fail
        go_roundw
        case measure => simp [intOf]; omega
        case rel => exact ⟨k + 1, by omega, by go_num, HNEXT.out _ (by rw [← HY.out]; rfl), hnx1.setCell (Nat.le_refl _) _⟩
      | some x =>
        go_wp2_with fail
        go_roundw
        case measure => simp [intOf]; omega
        case rel => exact ⟨k + 1, by omega, by go_num, HNEXT.out _ (by rw [← HY.out]; rfl), hnx1.setCell (Nat.le_refl _) _⟩
    · obtain rfl : k = 16 := by omega
      go_wp2_with fail
      go_ret
      exact ⟨w.heap.size, rfl, Nat.le_refl _, HROW.out.congr fun j hj => by rw [if_pos hj], hnx⟩

theorem call29 (args : Array Value) (w : World) : (callFunc 29 args).run Try.prog w = .ok (.enter 29 args) w := by kernel_rfl
theorem call30 (args : Array Value) (w : World) : (callFunc 30 args).run Try.prog w = .ok (.enter 30 args) w := by kernel_rfl

theorem places_one (A A2 : Option Addr) (n c m c2 b b' : Nat) (f g : Nat → Int) (S : Nat → Int) (s : Nat) (w : World) (hn : n ≤ 40) (hs16 : s < 256)
    (h1 : w.cell? ⟨b, 0, none⟩ = some (.slice A n c)) (h2 : w.cell? ⟨b', 0, none⟩ = some (.slice A2 m c2))
    (hs : Sees2 w w.heap.size A n (fun k => .int .u16 (f k)) (fun k => .int .i64 (g k)))
    (hs2 : Sees w w.heap.size A2 m (fun k => .int .u8 (S k))) :
    Calls Try.prog 29 #[.int .u8 (s : Nat), .pointer (some ⟨b, 0, none⟩), .pointer (some ⟨b', 0, none⟩)] w (RetSome w (nextOf n m g S s)) := by
  have HN := Lib.hid (next_any A A2 n c m c2 f g S s w hn hs16 hs hs2)
  clear hs hs2
  go_enter Try.func29, Try.ntmps29
  go_wp2_with fail
  refine HN.out.mono ?_
  rintro e w1 ⟨rfl, hb1⟩
  go_wp2_with fail
  go_ret2
  exact ⟨rfl, hb1⟩

theorem lines_one (A A2 : Option Addr) (n c m c2 b b' : Nat) (f g h : Nat → Int) (U : Nat → Bool) (s : Nat) (w : World) (hn : n ≤ 40) (hs16 : s < 256)
    (h1 : w.cell? ⟨b, 0, none⟩ = some (.slice A n c)) (h2 : w.cell? ⟨b', 0, none⟩ = some (.slice A2 m c2))
    (hs : Sees3 w w.heap.size A n (fun k => .int .u16 (f k)) (fun k => .int .u16 (g k)) (fun k => .int .u8 (h k)))
    (hs2 : Sees w w.heap.size A2 m (fun k => .bool (U k))) :
    Calls Try.prog 30 #[.int .u8 (s : Nat), .pointer (some ⟨b, 0, none⟩), .pointer (some ⟨b', 0, none⟩)] w (RetSome w (linkOf n m U s)) := by
  have HN := Lib.hid (link_any A A2 n c m c2 f g h U s w hn hs16 hs hs2)
  clear hs hs2
  go_enter Try.func30, Try.ntmps30
  go_wp2_with fail
  refine HN.out.mono ?_
  rintro e w1 ⟨rfl, hb1⟩
  go_wp2_with fail
  go_ret2
  exact ⟨rfl, hb1⟩

theorem places_any (A A2 : Option Addr) (n c m c2 : Nat) (f g : Nat → Int) (S : Nat → Int) (w : World) (hn : n ≤ 40)
    (hs : Sees2 w w.heap.size A n (fun k => .int .u16 (f k)) (fun k => .int .i64 (g k)))
    (hs2 : Sees w w.heap.size A2 m (fun k => .int .u8 (S k))) :
    Calls Try.prog 13 #[.slice A n c, .slice A2 m c2] w (RetCodes w (nextOf n m g S)) := by
  have HS := Lib.hid hs
  have HS2 := Lib.hid hs2
  clear hs hs2
  go_enter Try.func13, Try.ntmps13
  go_wp2_with fail
  have hb4 := (Box.new w 22 (.slice A n c)).alloc (.cells #[.slice A2 m c2] 23)
  have hb8 := Box.new (w.alloc (.cells #[.slice A n c] 22)) 23 (.slice A2 m c2)
  have hnx := ((Below.refl _ w).alloc (Nat.le_refl _) (.cells #[.slice A n c] 22)).alloc (by simp) (.cells #[.slice A2 m c2] 23)
  simp only [World.size_alloc] at hb8
  refine (each_any 29 #[.pointer (some ⟨w.heap.size, 0, none⟩), .pointer (some ⟨w.heap.size + 1, 0, none⟩)] (nextOf n m g S) _ call29 ?_).mono ?_
  · intro s hs w' hbw
    have hnx' := hnx.trans (hbw.mono hnx.size)
    exact places_one A A2 n c m c2 _ _ f g S s w' hn (by omega) (hb4.kept hbw).cell (hb8.kept hbw).cell ((HS.out.below hnx').more hnx'.size) ((HS2.out.below hnx').more hnx'.size)
  rintro e w1 ⟨gg, rfl, hgg, hrow, hb1⟩
  have hend := hnx.trans (hb1.mono hnx.size)
  have hg2 : w.heap.size ≤ gg := by simp at hgg; omega
  have HR := Lib.hid hrow
  clear hrow hb1 hgg hnx hb4 hb8
  go_wp2_with fail
  go_ret
  exact ⟨gg, rfl, hg2, HR.out, hend⟩

theorem lines_any (A A2 : Option Addr) (n c m c2 : Nat) (f g h : Nat → Int) (U : Nat → Bool) (w : World) (hn : n ≤ 40)
    (hs : Sees3 w w.heap.size A n (fun k => .int .u16 (f k)) (fun k => .int .u16 (g k)) (fun k => .int .u8 (h k)))
    (hs2 : Sees w w.heap.size A2 m (fun k => .bool (U k))) :
    Calls Try.prog 14 #[.slice A n c, .slice A2 m c2] w (RetCodes w (linkOf n m U)) := by
  have HS := Lib.hid hs
  have HS2 := Lib.hid hs2
  clear hs hs2
  go_enter Try.func14, Try.ntmps14
  go_wp2_with fail
  have hb4 := (Box.new w 29 (.slice A n c)).alloc (.cells #[.slice A2 m c2] 30)
  have hb8 := Box.new (w.alloc (.cells #[.slice A n c] 29)) 30 (.slice A2 m c2)
  have hnx := ((Below.refl _ w).alloc (Nat.le_refl _) (.cells #[.slice A n c] 29)).alloc (by simp) (.cells #[.slice A2 m c2] 30)
  simp only [World.size_alloc] at hb8
  refine (each_any 30 #[.pointer (some ⟨w.heap.size, 0, none⟩), .pointer (some ⟨w.heap.size + 1, 0, none⟩)] (linkOf n m U) _ call30 ?_).mono ?_
  · intro s hs w' hbw
    have hnx' := hnx.trans (hbw.mono hnx.size)
    exact lines_one A A2 n c m c2 _ _ f g h U s w' hn (by omega) (hb4.kept hbw).cell (hb8.kept hbw).cell ((HS.out.below hnx').more hnx'.size) ((HS2.out.below hnx').more hnx'.size)
  rintro e w1 ⟨gg, rfl, hgg, hrow, hb1⟩
  have hend := hnx.trans (hb1.mono hnx.size)
  have hg2 : w.heap.size ≤ gg := by simp at hgg; omega
  have HR := Lib.hid hrow
  clear hrow hb1 hgg hnx hb4 hb8
  go_wp2_with fail
  go_ret
  exact ⟨gg, rfl, hg2, HR.out, hend⟩
end Go.Proofs.Ytncklimjbejgoaa
