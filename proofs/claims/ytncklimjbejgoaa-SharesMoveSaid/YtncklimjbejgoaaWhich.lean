/- The three instances of 'which': the indices of the elements at which a closure answers true. -/
import Derived.Test.YtncklimjbejgoaaKit
namespace Go.Proofs.Ytncklimjbejgoaa
open Go.RowKit

theorem Try.info3 : (Try.prog.info? 3).map (fun i => (i.zero, i.size, i.bytes)) = some (some (.int .i64 0), 1, 8) := by kernel_rfl

/-- The indices below k at which p says yes. -/
def pick (p : Nat → Bool) (k : Nat) : List Nat := (List.range k).filter p
theorem pick_succ (p : Nat → Bool) (k : Nat) : pick p (k + 1) = if p k then pick p k ++ [k] else pick p k := by
  unfold pick
  rw [List.range_succ, List.filter_append]
  by_cases h : p k <;> simp [h]
theorem pick_le (p : Nat → Bool) (k : Nat) : (pick p k).length ≤ k := by
  unfold pick
  exact Nat.le_trans (List.length_filter_le _ _) (by simp)

def enc (l : List Nat) : List Value := l.map (fun (k : Nat) => Value.int .i64 (k : Int))
theorem enc_snoc (l : List Nat) (k : Nat) : enc (l ++ [k]) = enc l ++ [.int .i64 (k : Int)] := by simp [enc]
theorem enc_getD (l : List Nat) (k : Nat) (hk : k < l.length) (d : Value) : (enc l).getD k d = .int .i64 ((l.getD k 0 : Nat) : Int) := by
  unfold enc
  rw [List.getD_eq_getElem?_getD, List.getD_eq_getElem?_getD, List.getElem?_map, List.getElem?_eq_getElem hk]
  rfl

set_option maxHeartbeats 1000000 in
theorem which_choice (fid : FuncId) (caps : Array Value) (p : Nat → Bool) (A : Option Addr) (n c : Nat) (f g : Nat → Int) (w : World) (hn : n ≤ 40)
    (hcf : ∀ (args : Array Value) (w : World), (callFunc fid args).run Try.prog w = .ok (.enter fid args) w)
    (hs : Sees2 w w.heap.size A n (fun k => .int .u16 (f k)) (fun k => .int .i64 (g k)))
    (hcl : ∀ i, i < n → ∀ w', Below w.heap.size w w' → Calls Try.prog fid (#[.int .i64 (i : Int), .agg #[.int .u16 (f i), .int .i64 (g i)]] ++ caps) w' (RetBool w' (p i))) :
    Calls Try.prog 18 #[.slice A n c, .func (.func fid) #[] caps] w (RetInts w (pick p n)) := by
  obtain ⟨i0, hi, hz0, hz1, hz2⟩ := info_parts Try.info3
  have HC := Lib.hid hcl
  clear hcl
  have HS := Lib.hid hs
  clear hs
  go_enter Try.func18, Try.ntmps18
  go_wp2
  go_loopw [5, 10] (fun v i wr => ∃ k : Nat, k ≤ n ∧ i = .int .i64 k ∧ wr.ownsRow w.heap.size 3 1 v (pick p k).length (enc (pick p k)) ∧ Below w.heap.size w wr)
    (fun _ i _ => n - (intOf i).toNat)
  case atStart => exact ⟨0, Nat.zero_le _, rfl, World.ownsRow_nil _ _ _ _, Below.refl _ _⟩
  case round =>
    obtain ⟨k, hk, rfl, hown, hnx⟩ := hrel
    have hpl := pick_le p k
    by_cases hlt : k < n
    · obtain ⟨b, off, rfl, hb, hc0, hc1⟩ := HS.out k hlt
      have hc0' := (hnx.cell (p := ⟨b, off + k * 2, none⟩) hb).trans hc0
      have hc1' := (hnx.cell (p := ⟨b, off + k * 2 + 1, none⟩) hb).trans hc1
      clear hc0 hc1
      go_wp2_with fail
      refine (HC.out k hlt _ (hnx.alloc hnx.size _)).mono ?_
      rintro e w1 ⟨rfl, hb1⟩
      clear hc0' hc1'
      have hown1 := own_below (hown.alloc _) hb1
      have hnx1 : Below w.heap.size w w1 := (hnx.alloc hnx.size _).trans (hb1.mono (by have := hnx.size; simp; omega))
      clear hb1 hown hnx
      by_cases hp : p k = true
      · have hps : pick p (k + 1) = pick p k ++ [k] := by rw [pick_succ, if_pos hp]
        have HPS := Lib.hid hps
        clear hps
        go_wp2_with (first
          | (at_builtin; refine wpList_push _ rfl _ _ 31 rfl w.heap.size 3 i0 (.int .i64 0) 8 Try.underlying31 hi hz0 hz1 hz2 rfl _ _ _ rfl hown1 (.int .i64 (k : Int)) rfl rfl (by omega) (by omega) hnx1.size ?_; intro v' w2 hown2 hbel2))
        clear hown1
        go_roundw
        case rel => exact ⟨k + 1, by omega, by go_num, by rw [HPS.out, enc_snoc, List.length_append]; exact hown2, hnx1.trans hbel2⟩
        case measure => simp [intOf]; omega
      · have hps : pick p (k + 1) = pick p k := by rw [pick_succ, if_neg hp]
        have HPS := Lib.hid hps
        clear hps
        go_wp2_with fail
        go_roundw
        case rel => exact ⟨k + 1, by omega, by go_num, by rw [HPS.out]; exact hown1, hnx1⟩
        case measure => simp [intOf]; omega
    · obtain rfl : k = n := by omega
      obtain ⟨A', c', rfl, hle, hm, hsee⟩ := sees_of_own hown
      go_wp2_with fail
      go_ret
      exact ⟨A', c', rfl, hle, hm, hsee.congr fun j hj => enc_getD _ _ hj _, hnx⟩
set_option maxHeartbeats 1000000 in
theorem which_link (fid : FuncId) (caps : Array Value) (p : Nat → Bool) (A : Option Addr) (n c : Nat) (f g l : Nat → Int) (w : World) (hn : n ≤ 40)
    (hcf : ∀ (args : Array Value) (w : World), (callFunc fid args).run Try.prog w = .ok (.enter fid args) w)
    (hs : Sees3 w w.heap.size A n (fun k => .int .u16 (f k)) (fun k => .int .u16 (g k)) (fun k => .int .u8 (l k)))
    (hcl : ∀ i, i < n → ∀ w', Below w.heap.size w w' → Calls Try.prog fid (#[.int .i64 (i : Int), .agg #[.int .u16 (f i), .int .u16 (g i), .int .u8 (l i)]] ++ caps) w' (RetBool w' (p i))) :
    Calls Try.prog 24 #[.slice A n c, .func (.func fid) #[] caps] w (RetInts w (pick p n)) := by
  obtain ⟨i0, hi, hz0, hz1, hz2⟩ := info_parts Try.info3
  have HC := Lib.hid hcl
  clear hcl
  have HS := Lib.hid hs
  clear hs
  go_enter Try.func24, Try.ntmps24
  go_wp2
  go_loopw [5, 10] (fun v i wr => ∃ k : Nat, k ≤ n ∧ i = .int .i64 k ∧ wr.ownsRow w.heap.size 3 1 v (pick p k).length (enc (pick p k)) ∧ Below w.heap.size w wr)
    (fun _ i _ => n - (intOf i).toNat)
  case atStart => exact ⟨0, Nat.zero_le _, rfl, World.ownsRow_nil _ _ _ _, Below.refl _ _⟩
  case round =>
    obtain ⟨k, hk, rfl, hown, hnx⟩ := hrel
    have hpl := pick_le p k
    by_cases hlt : k < n
    · obtain ⟨b, off, rfl, hb, hc0, hc1, hc2⟩ := HS.out k hlt
      have hc0' := (hnx.cell (p := ⟨b, off + k * 3, none⟩) hb).trans hc0
      have hc1' := (hnx.cell (p := ⟨b, off + k * 3 + 1, none⟩) hb).trans hc1
      have hc2' := (hnx.cell (p := ⟨b, off + k * 3 + 2, none⟩) hb).trans hc2
      clear hc0 hc1 hc2
      go_wp2_with fail
      refine (HC.out k hlt _ (hnx.alloc hnx.size _)).mono ?_
      rintro e w1 ⟨rfl, hb1⟩
      clear hc0' hc1' hc2'
      have hown1 := own_below (hown.alloc _) hb1
      have hnx1 : Below w.heap.size w w1 := (hnx.alloc hnx.size _).trans (hb1.mono (by have := hnx.size; simp; omega))
      clear hb1 hown hnx
      by_cases hp : p k = true
      · have hps : pick p (k + 1) = pick p k ++ [k] := by rw [pick_succ, if_pos hp]
        have HPS := Lib.hid hps
        clear hps
        go_wp2_with (first
          | (at_builtin; refine wpList_push _ rfl _ _ 31 rfl w.heap.size 3 i0 (.int .i64 0) 8 Try.underlying31 hi hz0 hz1 hz2 rfl _ _ _ rfl hown1 (.int .i64 (k : Int)) rfl rfl (by omega) (by omega) hnx1.size ?_; intro v' w2 hown2 hbel2))
        clear hown1
        go_roundw
        case rel => exact ⟨k + 1, by omega, by go_num, by rw [HPS.out, enc_snoc, List.length_append]; exact hown2, hnx1.trans hbel2⟩
        case measure => simp [intOf]; omega
      · have hps : pick p (k + 1) = pick p k := by rw [pick_succ, if_neg hp]
        have HPS := Lib.hid hps
        clear hps
        go_wp2_with fail
        go_roundw
        case rel => exact ⟨k + 1, by omega, by go_num, by rw [HPS.out]; exact hown1, hnx1⟩
        case measure => simp [intOf]; omega
    · obtain rfl : k = n := by omega
      obtain ⟨A', c', rfl, hle, hm, hsee⟩ := sees_of_own hown
      go_wp2_with fail
      go_ret
      exact ⟨A', c', rfl, hle, hm, hsee.congr fun j hj => enc_getD _ _ hj _, hnx⟩
set_option maxHeartbeats 1000000 in
theorem which_int (fid : FuncId) (caps : Array Value) (p : Nat → Bool) (A : Option Addr) (n c : Nat) (f : Nat → Int) (w : World) (hn : n ≤ 40)
    (hcf : ∀ (args : Array Value) (w : World), (callFunc fid args).run Try.prog w = .ok (.enter fid args) w)
    (hs : Sees w w.heap.size A n (fun k => .int .i64 (f k)))
    (hcl : ∀ i, i < n → ∀ w', Below w.heap.size w w' → Calls Try.prog fid (#[.int .i64 (i : Int), .int .i64 (f i)] ++ caps) w' (RetBool w' (p i))) :
    Calls Try.prog 31 #[.slice A n c, .func (.func fid) #[] caps] w (RetInts w (pick p n)) := by
  obtain ⟨i0, hi, hz0, hz1, hz2⟩ := info_parts Try.info3
  have HC := Lib.hid hcl
  clear hcl
  have HS := Lib.hid hs
  clear hs
  go_enter Try.func31, Try.ntmps31
  go_wp2
  go_loopw [5, 10] (fun v i wr => ∃ k : Nat, k ≤ n ∧ i = .int .i64 k ∧ wr.ownsRow w.heap.size 3 1 v (pick p k).length (enc (pick p k)) ∧ Below w.heap.size w wr)
    (fun _ i _ => n - (intOf i).toNat)
  case atStart => exact ⟨0, Nat.zero_le _, rfl, World.ownsRow_nil _ _ _ _, Below.refl _ _⟩
  case round =>
    obtain ⟨k, hk, rfl, hown, hnx⟩ := hrel
    have hpl := pick_le p k
    by_cases hlt : k < n
    · obtain ⟨b, off, rfl, hb, hc0⟩ := HS.out k hlt
      have hc0' := (hnx.cell (p := ⟨b, off + k, none⟩) hb).trans hc0
      clear hc0
      go_wp2_with fail
      refine (HC.out k hlt _ hnx).mono ?_
      rintro e w1 ⟨rfl, hb1⟩
      clear hc0'
      have hown1 := own_below hown hb1
      have hnx1 : Below w.heap.size w w1 := hnx.trans (hb1.mono hnx.size)
      clear hb1 hown hnx
      by_cases hp : p k = true
      · have hps : pick p (k + 1) = pick p k ++ [k] := by rw [pick_succ, if_pos hp]
        have HPS := Lib.hid hps
        clear hps
        go_wp2_with (first
          | (at_builtin; refine wpList_push _ rfl _ _ 31 rfl w.heap.size 3 i0 (.int .i64 0) 8 Try.underlying31 hi hz0 hz1 hz2 rfl _ _ _ rfl hown1 (.int .i64 (k : Int)) rfl rfl (by omega) (by omega) hnx1.size ?_; intro v' w2 hown2 hbel2))
        clear hown1
        go_roundw
        case rel => exact ⟨k + 1, by omega, by go_num, by rw [HPS.out, enc_snoc, List.length_append]; exact hown2, hnx1.trans hbel2⟩
        case measure => simp [intOf]; omega
      · have hps : pick p (k + 1) = pick p k := by rw [pick_succ, if_neg hp]
        have HPS := Lib.hid hps
        clear hps
        go_wp2_with fail
        go_roundw
        case rel => exact ⟨k + 1, by omega, by go_num, by rw [HPS.out]; exact hown1, hnx1⟩
        case measure => simp [intOf]; omega
    · obtain rfl : k = n := by omega
      obtain ⟨A', c', rfl, hle, hm, hsee⟩ := sees_of_own hown
      go_wp2_with fail
      go_ret
      exact ⟨A', c', rfl, hle, hm, hsee.congr fun j hj => enc_getD _ _ hj _, hnx⟩
end Go.Proofs.Ytncklimjbejgoaa
