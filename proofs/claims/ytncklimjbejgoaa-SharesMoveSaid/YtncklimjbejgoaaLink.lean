/- 'Link': which link a selection code gets; its closures and 'Rotate'. -/
import Derived.Test.YtncklimjbejgoaaPlace
namespace Go.Proofs.Ytncklimjbejgoaa
open Go.RowKit

/-- Is link i up? -/
def upOf (m : Nat) (U : Nat → Bool) (i : Nat) : Bool := decide (i < m) && U i

theorem link_usable (A : Option Addr) (m c b4 i : Nat) (U : Nat → Bool) (w : World)
    (hc : w.cell? ⟨b4, 0, none⟩ = some (.slice A m c)) (hs : Sees w w.heap.size A m (fun k => .bool (U k))) :
    Calls Try.prog 23 #[.int .i64 (i : Nat), .pointer (some ⟨b4, 0, none⟩)] w (RetBool w (upOf m U i)) := by
  by_cases h : i < m
  · obtain ⟨b, off, rfl, hb, hc0⟩ := hs i h
    have hd : decide (i < m) = true := by simpa using h
    go_enter Try.func23, Try.ntmps23
    go_wp2
    go_ret
    exact ⟨by simp [upOf, h], Below.refl _ _⟩
  · have hd : decide (i < m) = false := by simpa using h
    go_enter Try.func23, Try.ntmps23
    go_wp2
    go_ret
    exact ⟨by simp [upOf, h], Below.refl _ _⟩

theorem call23 (args : Array Value) (w : World) : (callFunc 23 args).run Try.prog w = .ok (.enter 23 args) w := by kernel_rfl
theorem call25 (args : Array Value) (w : World) : (callFunc 25 args).run Try.prog w = .ok (.enter 25 args) w := by kernel_rfl
theorem call26 (args : Array Value) (w : World) : (callFunc 26 args).run Try.prog w = .ok (.enter 26 args) w := by kernel_rfl

theorem link_first (b8 i : Nat) (x y z : Int) (caps : Array Value) (r : Bool) (w : World)
    (hc : w.cell? ⟨b8, 0, none⟩ = some (.func (.func 23) #[] caps))
    (hcl : ∀ w', Below w.heap.size w w' → Calls Try.prog 23 (#[.int .i64 (i : Nat)] ++ caps) w' (RetBool w' r)) :
    Calls Try.prog 25 #[.int .i64 (i : Nat), .agg #[.int .u16 x, .int .u16 y, .int .u8 z], .pointer (some ⟨b8, 0, none⟩)] w (RetBool w r) := by
  have HC := Lib.hid hcl
  clear hcl
  have hc1 := cell_alloc hc (.cells #[.int .u16 x, .int .u16 y, .int .u8 z] 43)
  go_enter Try.func25, Try.ntmps25
  go_wp2_with fail
  refine (HC.out _ ((Below.refl _ w).alloc (Nat.le_refl _) _)).mono ?_
  rintro e w1 ⟨rfl, hb1⟩
  have hbb := ((Below.refl _ w).alloc (Nat.le_refl _) _).trans (hb1.mono (by simp))
  clear hb1
  go_wp2_with fail
  go_ret
  exact ⟨rfl, hbb⟩

theorem link_all (i : Nat) (x y z : Int) (w : World) :
    Calls Try.prog 26 #[.int .i64 (i : Nat), .agg #[.int .u16 x, .int .u16 y, .int .u8 z]] w (RetBool w true) := by
  go_enter Try.func26, Try.ntmps26
  go_wp2_with fail
  go_ret
  exact ⟨rfl, (Below.refl _ w).alloc (Nat.le_refl _) _⟩

theorem rotate_bits : ∀ s : Fin 256, bits BinOp.or IntKind.u8 ((s.val : Int) * 4 % 16) (bits BinOp.and IntKind.u8 ((s.val : Int) / 4) 3) = ((4 * (s.val % 4) + s.val / 4 % 4 : Nat) : Int) := by decide +kernel

theorem rotate_any (s : Nat) (w : World) (hs : s < 256) :
    Calls Try.prog 27 #[.int .u8 (s : Nat)] w fun e w' => e = .returned (.int .u8 (4 * (s % 4) + s / 4 % 4 : Nat)) ∧ w' = w := by
  go_enter Try.func27, Try.ntmps27
  go_wp2
  go_ret
  exact ⟨by rw [← rotate_bits ⟨s, hs⟩]; rfl, rfl⟩

/-- What Link answers. -/
def linkOf (n m : Nat) (U : Nat → Bool) (sel : Nat) : Option Nat :=
  if (pick (upOf m U) n).length = 0 then none else some (placeOf n (fun k => k) (upOf m U) (4 * (sel % 4) + sel / 4 % 4))

theorem pick_true (n : Nat) : pick (fun _ => true) n = List.range n := by unfold pick; rw [List.filter_eq_self]; simp
theorem pick_zero (p : Nat → Bool) (n : Nat) (h : ¬ (pick p n).length = 0) : ∃ j, j < n ∧ p j = true := by
  rcases hl : pick p n with _ | ⟨x, l⟩
  · rw [hl] at h; simp at h
  · have hx : x ∈ pick p n := by rw [hl]; simp
    unfold pick at hx
    rw [List.mem_filter, List.mem_range] at hx
    exact ⟨x, hx⟩

set_option maxHeartbeats 1000000 in
theorem link_any (A A2 : Option Addr) (n c m c2 : Nat) (f g h : Nat → Int) (U : Nat → Bool) (sel : Nat) (w : World) (hn : n ≤ 40) (hsel : sel < 256)
    (hs : Sees3 w w.heap.size A n (fun k => .int .u16 (f k)) (fun k => .int .u16 (g k)) (fun k => .int .u8 (h k)))
    (hs2 : Sees w w.heap.size A2 m (fun k => .bool (U k))) :
    Calls Try.prog 12 #[.slice A n c, .slice A2 m c2, .int .u8 sel] w (RetSome w (linkOf n m U sel)) := by
  have HS := Lib.hid hs
  have HS2 := Lib.hid hs2
  clear hs hs2
  go_enter Try.func12, Try.ntmps12
  go_wp2_with fail
  have hb4 := (Box.new w 30 (.slice A2 m c2)).alloc (.cells #[.func (.func 23) #[] #[.pointer (some ⟨w.heap.size, 0, none⟩)]] 51)
  have hb8 := Box.new (w.alloc (.cells #[.slice A2 m c2] 30)) 51 (.func (.func 23) #[] #[.pointer (some ⟨w.heap.size, 0, none⟩)])
  have hnx := ((Below.refl _ w).alloc (Nat.le_refl _) (.cells #[.slice A2 m c2] 30)).alloc (by simp) (.cells #[.func (.func 23) #[] #[.pointer (some ⟨w.heap.size, 0, none⟩)]] 51)
  simp only [World.size_alloc] at hb8
  obtain ⟨W, hW⟩ : ∃ W, W = (w.alloc (.cells #[.slice A2 m c2] 30)).alloc (.cells #[.func (.func 23) #[] #[.pointer (some ⟨w.heap.size, 0, none⟩)]] 51) := ⟨_, rfl⟩
  rw [← hW] at hb4 hb8 hnx ⊢
  clear hW
  have hus : ∀ w', Below W.heap.size W w' → ∀ w'', Below w'.heap.size w' w'' → ∀ i : Nat, Calls Try.prog 23 (#[.int .i64 (i : Nat)] ++ #[.pointer (some ⟨w.heap.size, 0, none⟩)]) w'' (RetBool w'' (upOf m U i)) :=
    fun w' h1 w'' h2 i => link_usable A2 m c2 w.heap.size i U w'' ((hb4.kept h1).kept h2).cell (((((HS2.out.below hnx).more hnx.size).below h1).more h1.size).below h2 |>.more h2.size)
  refine (which_link 25 #[.pointer (some ⟨w.heap.size + 1, 0, none⟩)] (upOf m U) A n c f g h W hn call25 ((HS.out.below hnx).more hnx.size) ?_).mono ?_
  · intro i hi w' hbw
    exact link_first (w.heap.size + 1) i _ _ _ _ _ w' (hb8.kept hbw).cell (fun w'' hbw' => hus w' hbw w'' hbw' i)
  rintro e w2 ⟨A', c', rfl, hle, hm, hsee, hb2⟩
  obtain ⟨l, hl⟩ : ∃ l, l = pick (upOf m U) n := ⟨_, rfl⟩
  rw [← hl] at hle hsee ⊢
  have hll : l.length ≤ 40 := by rw [hl]; have := pick_le (upOf m U) n; omega
  have HL := Lib.hid hl
  have HUS := Lib.hid hus
  have HB8 := Lib.hid (hb8.kept hb2)
  have HNX := Lib.hid (hnx.trans (hb2.mono hnx.size))
  have HB2 := Lib.hid hb2
  clear hl hsee hus hb8 hb4
  by_cases hl0 : l.length = 0
  · have hlb : (l.length == 0) = true := by simp [hl0]
    have hres : linkOf n m U sel = none := by unfold linkOf; rw [← HL.out, if_pos hl0]
    have HR := Lib.hid hres
    clear hres hl0 hb2
    go_wp2_with fail
    go_ret2
    exact ⟨by rw [HR.out]; rfl, HNX.out⟩
  · have hlb : (l.length == 0) = false := by simp [hl0]
    have hex := pick_zero (upOf m U) n (by rw [← HL.out]; exact hl0)
    have HEX := Lib.hid hex
    have hres : linkOf n m U sel = some (placeOf n (fun k => k) (upOf m U) (4 * (sel % 4) + sel / 4 % 4)) := by unfold linkOf; rw [← HL.out, if_neg hl0]
    have HR := Lib.hid hres
    clear hres hl0 hex hb2
    go_wp2_with fail
    refine (which_link 26 #[] (fun _ => true) A n c f g h w2 hn call26 ((HS.out.below HNX.out).more HNX.out.size) (fun i hi w' hbw => link_all i _ _ _ w')).mono ?_
    rintro e w3 ⟨A3, c3, rfl, hle3, hm3, hsee3, hb3⟩
    rw [pick_true, List.length_range] at hsee3 hle3 ⊢
    have HSE3 := Lib.hid hsee3
    have hb83 := (HB8.out.kept hb3).cell
    have HB3 := Lib.hid hb3
    clear hsee3 hb3
    go_wp2_with fail
    go_still_tail 5, (by kernel_rfl)
    still_call (rotate_any sel w3.drew hsel)
    repeat still_step
    refine wpStill_nil ?_
    change wpList _ _ _ _ _ w3.drew
    clear hb83
    go_wp2_with fail
    have hse4 : Sees w3.drew w3.drew.heap.size A3 n (fun k => .int .i64 ((fun k => k) k : Nat)) := Sees.congr (f := fun k => .int .i64 ((List.range n).getD k 0 : Nat)) HSE3.out (fun k hk => by simp [List.getD_eq_getElem?_getD, hk])
    have hb3d : Below w2.heap.size w2 w3.drew := HB3.out.drew
    have hW3 : Below W.heap.size W w3.drew := HB2.out.trans (hb3d.mono HB2.out.size)
    have hn0 : 0 < n := by obtain ⟨j, hj, _⟩ := HEX.out; omega
    refine (place_any 23 #[.pointer (some ⟨w.heap.size, 0, none⟩)] (upOf m U) A3 n c3 (fun k => k) (4 * (sel % 4) + sel / 4 % 4) _ (by omega) w3.drew hn hn0 (by omega) call23 hse4 HEX.out ?_).mono ?_
    · intro j hj w' hbw
      exact HUS.out w3.drew hW3 w' hbw j
    rintro e w5 ⟨rfl, hb5⟩
    have hend : Below w.heap.size w w5 := (HNX.out.trans (hb3d.mono HNX.out.size)).trans (hb5.mono (HNX.out.trans (hb3d.mono HNX.out.size)).size)
    clear hse4 hb3d hW3 hb5
    go_wp2_with fail
    go_ret2
    exact ⟨by rw [HR.out]; rfl, hend⟩
end Go.Proofs.Ytncklimjbejgoaa
