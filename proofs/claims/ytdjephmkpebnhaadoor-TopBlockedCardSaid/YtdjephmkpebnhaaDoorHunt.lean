/- The group's Hunt and what it calls. -/
import Derived.Test.YtdjephmkpebnhaaDoorWith
namespace Go.Proofs.YtdjephmkpebnhaaDoor
open Go.RowKit

theorem call48 (args : Array Value) (w : World) : (callFunc 48 args).run Tryd.prog w = .ok (.enter 48 args) w := by kernel_rfl

theorem of_sub (s v k call : Int) (b : Nat) (w : World) (h : w.cell? ⟨b, 0, none⟩ = some (.int .i64 call)) (hno : ¬ (s ≠ 0 ∧ k = call)) :
    Calls Tryd.prog 48 #[.agg #[.int .u8 s, .int .u8 v, .int .i64 k], .pointer (some ⟨b, 0, none⟩)] w (RetBool w false) := by
  have hb := (Below.refl _ w).alloc (Nat.le_refl _) (.cells #[.int .u8 s, .int .u8 v, .int .i64 k] 65)
  have hc := cell_alloc h (.cells #[.int .u8 s, .int .u8 v, .int .i64 k] 65)
  by_cases hs : s = 0
  · subst hs
    have HB := Lib.hid hb
    clear hno hb
    go_enter Tryd.func48, Tryd.ntmps48
    go_wp2_with fail
    go_ret
    exact ⟨rfl, HB.out⟩
  · have HB := Lib.hid hb
    have d1 : (s == 0) = false := by rw [beq_eq_false_iff_ne]; exact hs
    have d1' : (s != 0) = true := by rw [bne_iff_ne]; exact hs
    have d2 : (k == call) = false := by rw [beq_eq_false_iff_ne]; exact fun hk => hno ⟨hs, hk⟩
    clear hno hs hb
    go_enter Tryd.func48, Tryd.ntmps48
    go_wp2_with fail
    go_ret
    exact ⟨rfl, HB.out⟩

set_option maxHeartbeats 1000000 in
theorem index_none (fid : FuncId) (caps : Array Value) (c n : Nat) (S B C : Nat → Int) (w : World) (h : Cs w c n S B C)
    (hcf : ∀ (args : Array Value) (w : World), (callFunc fid args).run Tryd.prog w = .ok (.enter fid args) w) (hn : n ≤ 1000)
    (hcl : ∀ i, i < n → ∀ w', Below w.heap.size w w' → Calls Tryd.prog fid (#[.agg #[.int .u8 (S i), .int .u8 (B i), .int .i64 (C i)]] ++ caps) w' (RetBool w' false)) :
    Calls Tryd.prog 47 #[.slice (some ⟨c, 0, none⟩) n n, .func (.func fid) #[] caps] w fun e w' => e = .returned (.int .i64 (-1)) ∧ Below w.heap.size w w' := by
  have HC := Lib.hid hcl
  have H := Lib.hid h
  clear hcl h
  go_enter Tryd.func47, Tryd.ntmps47
  go_wp2_with fail
  go_loopw [8] (fun v8 wr => ∃ k : Nat, k ≤ n ∧ v8 = .int .i64 k ∧ Hid (Below w.heap.size w wr)) (fun v _ => n - (intOf v).toNat)
  case atStart => exact ⟨0, Nat.zero_le _, rfl, Lib.hid (Below.refl _ _)⟩
  case round =>
    obtain ⟨k, hk, rfl, HX⟩ := hrel
    by_cases hkn : k < n
    · have d1 : decide ((k : Int) < (n : Int)) = true := by simp; omega
      have d2 : decide (k < n) = true := by simpa using hkn
      have hc := H.out.kept HX.out
      have q0 := hc.c0 hkn
      have q1 := hc.c1 hkn
      have q2 := hc.c2 hkn
      clear hc
      go_wp2_with fail
      refine (HC.out k hkn _ HX.out).mono ?_
      rintro e w1 ⟨rfl, hb1⟩
      have HX1 := Lib.hid (HX.out.trans (hb1.mono HX.out.size))
      clear hb1 q0 q1 q2
      go_wp2_with fail
      go_roundw
      case rel => exact ⟨k + 1, by omega, by simp, HX1⟩
      case measure => simp [intOf]; omega
    · have d1 : decide ((k : Int) < (n : Int)) = false := by simp; omega
      have d2 : decide (k < n) = false := by simp; omega
      go_wp2_with fail
      go_ret
      exact ⟨rfl, HX.out⟩

/-- No call has this number. -/
def NoCall (n : Nat) (S C : Nat → Int) (call : Int) : Prop := ∀ i, i < n → ¬ (S i ≠ 0 ∧ C i = call)

theorem of_none (g c : Nat) (own far : Int) (n : Nat) (S B C : Nat → Int) (call : Int) (w : World) (h : Grp w g c own far n S B C) (hn : n ≤ 1000) (hno : NoCall n S C call) :
    Calls Tryd.prog 43 #[.pointer (some ⟨g, 0, none⟩), .int .i64 call] w fun e w' => e = .returned (.int .i64 (-1)) ∧ Below w.heap.size w w' := by
  have hb0 := (Below.refl w.heap.size w).alloc (Nat.le_refl _) (.cells #[.int .i64 call] 3)
  have l0 := Box.new w 3 (.int .i64 call)
  have hG := h.kept hb0
  have c2 := hG.1.l2
  have hk : Calls Tryd.prog 47 #[.slice (some ⟨c, 0, none⟩) n n, .func (.func 48) #[] #[.pointer (some ⟨w.heap.size, 0, none⟩)]] (w.alloc (.cells #[.int .i64 call] 3)) (fun e w' => e = .returned (.int .i64 (-1)) ∧ Below w.heap.size w w') := by
    refine (index_none 48 _ c n S B C _ hG.2.1 call48 hn (fun i hi w' hb => ?_)).mono fun e w' ⟨he, hb⟩ => ⟨he, hb0.trans (hb.mono (by simp))⟩
    exact of_sub _ _ _ call _ w' (l0.kept hb).cell (hno i hi)
  have HK := Lib.hid hk
  clear hk l0 hb0 h hG hno
  go_enter Tryd.func43, Tryd.ntmps43
  go_wp2_with fail
  refine HK.out.mono ?_
  rintro e w1 ⟨rfl, hb⟩
  have HB := Lib.hid hb
  clear hb
  go_wp2_with fail
  go_ret
  exact ⟨rfl, HB.out⟩

theorem fresh_any (g c : Nat) (own far : Int) (n : Nat) (S B C : Nat → Int) (call : Int) (w : World) (h : Grp w g c own far n S B C) (hn : 1 ≤ n ∧ n ≤ 1000) (hno : NoCall n S C call) (hcall : 1 ≤ call) :
    Calls Tryd.prog 28 #[.pointer (some ⟨g, 0, none⟩), .int .i64 call] w fun e w' => e = .returned (.int .i64 0) ∧ Below w.heap.size w w' := by
  have hs := size_any g c own far n w h.1
  have ho := of_none g c own far n S B C call w h hn.2 hno
  have HS := Lib.hid hs
  have HO := Lib.hid ho
  have d1 : ((n : Int) == 0) = false := by rw [beq_eq_false_iff_ne]; omega
  have d2 : (n == 0) = false := by rw [beq_eq_false_iff_ne]; omega
  have d3 : decide (call < 1) = false := by simp; omega
  clear hs ho h hno
  go_enter Tryd.func28, Tryd.ntmps28
  go_wp2_with fail
  refine HS.out.mono ?_
  rintro e w1 ⟨rfl, rfl⟩
  go_wp2_with fail
  refine HO.out.mono ?_
  rintro e w1 ⟨rfl, hb⟩
  have HB := Lib.hid hb
  clear hb
  go_wp2_with fail
  go_ret
  exact ⟨rfl, HB.out⟩

/-- Does the own point control a circuit? -/
def ctl (own far : Int) (i : Nat) : Bool := decide (i % 2 = 0) == decide (far < own)

theorem controls_any (g c : Nat) (own far : Int) (n i : Nat) (w : World) (h : Gh w g c own far n) (hi : i < n) :
    Calls Tryd.prog 30 #[.pointer (some ⟨g, 0, none⟩), .int .i64 (i : Int)] w fun e w' => e = .returned (.bool (ctl own far i)) ∧ Below w.heap.size w w' := by
  have hq := fun (m : Nat) => quiet_left (n := m) (has_any g c own far n i (w.drewN m) h hi)
  have l0 := h.l0
  have l1 := h.l1
  have HQ := Lib.hid hq
  have e0 : ctl own far i = (decide (i % 2 = 0) == decide (far < own)) := rfl
  rw [e0]
  obtain ⟨r, hr⟩ : ∃ r : Int, r = ((i % 2 : Nat) : Int) := ⟨_, rfl⟩
  have ht : Int.tmod (i : Int) 2 = r := by rw [hr, Int.tmod_eq_emod_of_nonneg (by omega)]; omega
  have hrr : (r == 0) = decide (i % 2 = 0) := by rw [hr, Bool.eq_iff_iff]; simp; omega
  have hw : IntKind.i64.wrap r = r := by rw [IntKind.wrap_i64]; omega
  have hw' : wrap64 r = r := w64 _ (by omega)
  obtain ⟨x, hx⟩ : ∃ x, x = decide (i % 2 = 0) := ⟨_, rfl⟩
  obtain ⟨y, hy⟩ : ∃ y, y = decide (far < own) := ⟨_, rfl⟩
  rw [← hx] at hrr ⊢
  rw [← hy]
  have hy' : decide (far < own) = y := hy.symm
  clear h hq e0 hr hx hy
  cases x
  all_goals
    cases y
    all_goals
      go_enter Tryd.func30, Tryd.ntmps30
      go_wp2_with fail
      go_quiet ((go_at_call 44; with_reducible exact HQ.out _))
      go_wp2_with fail
      go_ret
      exact ⟨rfl, Below.drewN' (Below.refl _ _) _⟩
end Go.Proofs.YtdjephmkpebnhaaDoor
