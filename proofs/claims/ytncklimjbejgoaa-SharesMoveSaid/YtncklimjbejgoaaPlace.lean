/- The closures of Next and Link, 'place' and 'Rotate': each answers as the plain definition says and leaves old memory alone. -/
import Derived.Test.YtncklimjbejgoaaWhich
namespace Go.Proofs.Ytncklimjbejgoaa
open Go.RowKit

theorem call32 (args : Array Value) (w : World) : (callFunc 32 args).run Try.prog w = .ok (.enter 32 args) w := by kernel_rfl

/-- The element of a group that a number gets. -/
def placeOf (n : Nat) (G : Nat → Nat) (p : Nat → Bool) (q : Nat) : Nat :=
  if p (G (q % n)) then G (q % n) else G ((pick (fun j => p (G j)) n).getD (q / n % (pick (fun j => p (G j)) n).length) 0)

theorem pick_getD_lt (p : Nat → Bool) (n k : Nat) (hk : k < (pick p n).length) : (pick p n).getD k 0 < n ∧ p ((pick p n).getD k 0) = true := by
  have hm : (pick p n).getD k 0 ∈ pick p n := by rw [List.getD_eq_getElem?_getD, List.getElem?_eq_getElem hk]; exact List.getElem_mem hk
  unfold pick at hm
  rw [List.mem_filter, List.mem_range] at hm
  exact hm
theorem pick_pos (p : Nat → Bool) (n j : Nat) (hj : j < n) (hp : p j = true) : 0 < (pick p n).length := by
  apply List.length_pos_of_mem (a := j)
  unfold pick
  rw [List.mem_filter, List.mem_range]
  exact ⟨hj, hp⟩

/-- place$1: the closure that 'place' hands to 'which'. -/
theorem place_sub (fid : FuncId) (caps : Array Value) (b0 : Nat) (i j : Int) (r : Bool) (w : World)
    (hcf : ∀ (args : Array Value) (w : World), (callFunc fid args).run Try.prog w = .ok (.enter fid args) w)
    (hc : w.cell? ⟨b0, 0, none⟩ = some (.func (.func fid) #[] caps))
    (hcl : Calls Try.prog fid (#[.int .i64 j] ++ caps) w (RetBool w r)) :
    Calls Try.prog 32 #[.int .i64 i, .int .i64 j, .pointer (some ⟨b0, 0, none⟩)] w (RetBool w r) := by
  have HC := Lib.hid hcl
  clear hcl
  go_enter Try.func32, Try.ntmps32
  go_wp2_with fail
  refine HC.out.mono ?_
  rintro e w1 ⟨rfl, hb1⟩
  go_wp2_with fail
  go_ret
  exact ⟨rfl, hb1⟩

set_option maxHeartbeats 1000000 in
theorem place_any (fid : FuncId) (caps : Array Value) (p : Nat → Bool) (A : Option Addr) (n c : Nat) (G : Nat → Nat) (q : Nat) (Q : Int) (hQ : Q = (q : Int)) (w : World) (hn : n ≤ 40) (hn0 : 0 < n) (hq : q < 16)
    (hcf : ∀ (args : Array Value) (w : World), (callFunc fid args).run Try.prog w = .ok (.enter fid args) w)
    (hs : Sees w w.heap.size A n (fun k => .int .i64 (G k : Nat)))
    (hex : ∃ j, j < n ∧ p (G j) = true)
    (hcl : ∀ i, i < n → ∀ w', Below w.heap.size w w' → Calls Try.prog fid (#[.int .i64 (G i : Nat)] ++ caps) w' (RetBool w' (p (G i)))) :
    Calls Try.prog 21 #[.slice A n c, .func (.func fid) #[] caps, .int .i64 Q] w fun e w' => e = .returned (.int .i64 (placeOf n G p q : Nat)) ∧ Below w.heap.size w w' := by
  subst hQ
  have HC := Lib.hid hcl
  clear hcl
  have HS := Lib.hid hs
  clear hs
  have HE := Lib.hid hex
  clear hex
  have hql : q % n < n := Nat.mod_lt _ hn0
  obtain ⟨b, off, rfl, hb, hc0⟩ := HS.out (q % n) hql
  go_enter Try.func21, Try.ntmps21
  go_wp2_with fail
  have hb0 : Below w.heap.size w (w.alloc (Obj.cells #[Value.func (Fn.func fid) #[] caps] 51)) := (Below.refl _ w).alloc (Nat.le_refl _) _
  refine (HC.out (q % n) hql _ hb0).mono ?_
  rintro e w1 ⟨rfl, hb1⟩
  have hcell : w1.cell? ⟨w.heap.size, 0, none⟩ = some (.func (.func fid) #[] caps) := by
    rw [hb1.cell (p := ⟨w.heap.size, 0, none⟩) (by simp), World.cell?_alloc_at _ _ _ _ rfl]; rfl
  have hb01 : Below w.heap.size w w1 := hb0.trans (hb1.mono (by simp))
  have hsz : w.heap.size < w1.heap.size := by have := hb1.size; simp at this; omega
  clear hb1 hb0 hc0
  by_cases hp : p (G (q % n)) = true
  · go_wp2_with fail
    go_ret
    exact ⟨by simp [placeOf, hp], hb01⟩
  · have hp' : p (G (q % n)) = false := by simpa using hp
    clear hp
    go_wp2_with fail
    refine (which_int 32 #[.pointer (some ⟨w.heap.size, 0, none⟩)] (fun j => p (G j)) _ n c (fun k => (G k : Nat)) w1 hn call32 ((HS.out.below hb01).more hb01.size) ?_).mono ?_
    · intro i hi w' hbw
      refine place_sub fid caps w.heap.size i _ _ w' hcf ?_ (HC.out i hi w' (hb01.trans (hbw.mono (by omega))))
      exact (hbw.cell (p := ⟨w.heap.size, 0, none⟩) hsz).trans hcell
    rintro e w2 ⟨A', c', rfl, hle, hm, hsee, hb2⟩
    obtain ⟨l, hl⟩ : ∃ l, l = pick (fun j => p (G j)) n := ⟨_, rfl⟩
    rw [← hl] at hle hsee ⊢
    have hl0 : 0 < l.length := by
      obtain ⟨j, hj, hpj⟩ := HE.out
      rw [hl]; exact pick_pos _ _ j hj hpj
    have hll : l.length ≤ 40 := by rw [hl]; have := pick_le (fun j => p (G j)) n; omega
    have hx : q / n % l.length < l.length := Nat.mod_lt _ hl0
    obtain ⟨b2, off2, rfl, hb2', hc2⟩ := hsee _ hx
    have hgl : l.getD (q / n % l.length) 0 < n := by rw [hl]; exact (pick_getD_lt _ _ _ (by rw [← hl]; exact hx)).1
    obtain ⟨m, hm'⟩ : ∃ m, m = l.getD (q / n % l.length) 0 := ⟨_, rfl⟩
    rw [← hm'] at hgl
    have hc2' : w2.cell? ⟨b2, off2 + q / n % l.length, none⟩ = some (.int .i64 (m : Nat)) := by rw [hm']; exact hc2
    have hG : w2.cell? ⟨b, off + m, none⟩ = some (.int .i64 (G m : Nat)) := (((HS.out.below hb01).more hb01.size).below hb2).cell hgl
    have hres : placeOf n G p q = G m := by unfold placeOf; rw [if_neg (by simp [hp']), ← hl, ← hm']
    have HR := Lib.hid hres
    have hb02 : Below w.heap.size w w2 := hb01.trans (hb2.mono hb01.size)
    clear hl hm' hsee hc2 hres hb2 hb01
    have hd0 : 0 ≤ (q : Int) / (n : Int) := Int.ediv_nonneg (by omega) (by omega)
    have hd1 : (q : Int) / (n : Int) ≤ 15 := Int.le_trans (Int.ediv_le_self _ (by omega)) (by omega)
    have hr0 : 0 ≤ (q : Int) / (n : Int) % (l.length : Int) := Int.emod_nonneg _ (by omega)
    have hr1 : (q : Int) / (n : Int) % (l.length : Int) < (l.length : Int) := Int.emod_lt_of_pos _ (by omega)
    go_wp2_with fail
    go_ret
    exact ⟨by rw [HR.out]; rfl, hb02⟩
end Go.Proofs.Ytncklimjbejgoaa
