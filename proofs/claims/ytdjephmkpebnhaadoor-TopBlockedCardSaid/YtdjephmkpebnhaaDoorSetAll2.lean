/- SetAll. -/
import Derived.Test.YtdjephmkpebnhaaDoorSetAll
import Derived.Test.YtdjephmkpebnhaaDoorHear
import Derived.Test.YtdjephmkpebnhaaDoorNextA
namespace Go.Proofs.YtdjephmkpebnhaaDoor
open Go.RowKit

/-- What SetAll makes of the local blocks. -/
def allTo (L : Nat → Bool) (X : Nat → Nat) (on : Bool) : Nat → Nat → Bool
  | 0 => L
  | k + 1 => upd (allTo L X on k) (X k) on

theorem allTo_next (L : Nat → Bool) (X : Nat → Nat) (on : Bool) (k : Nat) : upd (fun i => locI (allTo L X on k i)) (X k) (setB (locI (allTo L X on k (X k))) 1 on) = fun i => locI (allTo L X on (k + 1) i) := by
  funext i
  rw [setB_loc]
  show upd _ _ _ _ = locI (upd (allTo L X on k) (X k) on i)
  unfold upd
  by_cases h : i = X k
  · rw [if_pos h, if_pos h]
  · rw [if_neg h, if_neg h]

/-- What SetAll leaves: what next leaves, behind the blocks' change. -/
def RetSetAll (w : World) (d g c t n : Nat) (own far ag age last heard : Int) (op out : Value) (T : Nat → Bool) (S C : Nat → Int) (L' : Nat → Bool) (Q : World → Ending → World → Prop) (e : Ending) (w' : World) : Prop :=
  e = .returned (.int .i64 0) ∧ ∃ w1 e1, Kept w w1 [c] ∧ Dk w1 d g t n ag age last heard op out T ∧ Grp w1 g c own far n S (fun i => locI (L' i)) C ∧ Q w1 e1 w'

set_option maxRecDepth 100000 in
set_option maxHeartbeats 4000000 in
theorem set_all (d g c t n l cp : Nat) (own far ag age last heard : Int) (op out : Value) (T L : Nat → Bool) (S C : Nat → Int) (on : Bool) (A : Option Addr) (X : Nat → Nat) (Q : World → Ending → World → Prop) (w : World) (h : Dk w d g t n ag age last heard op out T) (hG : Grp w g c own far n S (fun i => locI (L i)) C)
    (hs : ∀ w', Kept w w' [c] → Sees w' w'.heap.size A l (fun i => .int .i64 (X i : Nat))) (hX : ∀ i, i < l → X i < n) (hl : l ≤ 1000) (hne : d ≠ c ∧ t ≠ c)
    (hnx : ∀ w1, Dk w1 d g t n ag age last heard op out T → Grp w1 g c own far n S (fun i => locI (allTo L X on l i)) C → Kept w w1 [c] → Calls Tryd.prog 24 #[.pointer (some ⟨d, 0, none⟩)] w1 (fun e w' => (∃ v, e = .returned v) ∧ Q w1 e w')) :
    Calls Tryd.prog 7 #[.pointer (some ⟨d, 0, none⟩), .slice A l cp, .bool on] w (RetSetAll w d g c t n own far ag age last heard op out T S C (allTo L X on l) Q) := by
  have hb := (Below.refl w.heap.size w).alloc (Nat.le_refl _) (.cells #[.pointer (some ⟨d, 0, none⟩)] 30)
  have HK := Lib.hid (Kept.below (bs := [c]) hb)
  have HBX := Lib.hid (Box.new w 30 (.pointer (some ⟨d, 0, none⟩)))
  have HH := Lib.hid (h.kept hb)
  have HG := Lib.hid (hG.kept hb)
  have HS := Lib.hid hs
  have HX := Lib.hid hX
  have HNE := Lib.hid hne
  have HNX := Lib.hid hnx
  have hcw : c < w.heap.size := hG.2.1.lt
  clear h hG hb hs hX hne hnx
  go_enter Tryd.func7, Tryd.ntmps7
  go_wp2_with fail
  generalize w.alloc (.cells #[.pointer (some ⟨d, 0, none⟩)] 30) = w1 at HK HBX HH HG ⊢
  have bx := HBX.out.cell
  have HN := Lib.hid (none_any d g w1 HH.out.l0)
  go_wp2_with fail
  refine HN.out.mono ?_
  rintro e w2 ⟨rfl, rfl⟩
  clear HN
  have HI := Lib.hid (inside_any 22 #[.pointer (some ⟨w.heap.size, 0, none⟩)] A l cp X w1 (HS.out _ HK.out) call22 (fun i hi => outside_sub g c n w.heap.size d own far (X i) w1 (HX.out i hi) HBX.out.cell HH.out.l0 HG.out.1) hl)
  go_wp2_with fail
  refine HI.out.mono ?_
  rintro e w2 ⟨rfl, rfl⟩
  clear HI bx
  go_wp2_with fail
  go_loopw [18] (fun v18 wr => ∃ k : Nat, k ≤ l ∧ v18 = .int .i64 k ∧ Hid (Dk wr d g t n ag age last heard op out T) ∧ Hid (Grp wr g c own far n S (fun i => locI (allTo L X on k i)) C) ∧ Hid (Box wr w.heap.size 30 (.pointer (some ⟨d, 0, none⟩))) ∧ Hid (Kept w wr [c])) (fun v _ => l - (intOf v).toNat)
  case atStart => exact ⟨0, Nat.zero_le _, rfl, HH, HG, HBX, HK⟩
  case round =>
    obtain ⟨k, hk, rfl, HD, HGR, HB, HKP⟩ := hrel
    clear HH HG HBX HK
    by_cases hkl : k < l
    · have e1 : decide ((k : Int) < (l : Int)) = true := by simp; omega
      have e2 : decide (k < l) = true := by simpa using hkl
      have j0 : (0 : Int) ≤ (k : Int) := by omega
      have j1 : (k : Int) < (l : Int) := by omega
      have hsk := HS.out _ HKP.out
      obtain ⟨b, off, rfl⟩ := hsk.form (by omega)
      have q0 := hsk.cell hkl
      have bx := HB.out.cell
      have d0 := HD.out.l0
      have HSET := Lib.hid (set_any g c own far n (X k) S (fun i => locI (allTo L X on k i)) C 1 on wr HGR.out (HX.out k hkl) (.inl rfl))
      clear hsk
      go_wp2_with fail
      refine HSET.out.mono ?_
      rintro e w7 ⟨z, rfl, rfl, hG7, hgr7⟩
      have hk7 := Kept.grown (bs := [c]) hgr7 (by simp)
      have HD7 := Lib.hid (hk7.dk HD.out (by simp; exact HNE.out.1) (by simp; exact HNE.out.2))
      have HG7 := Lib.hid hG7
      have HB7 := Lib.hid (hk7.lit HB.out (by simp; omega))
      have HK7 := Lib.hid (HKP.out.trans hk7)
      clear hG7 hgr7 hk7 q0 bx d0
      go_wp2_with fail
      exact ⟨⟨k + 1, by omega, rfl, HD7, Lib.hid (by rw [← allTo_next]; exact HG7.out), HB7, HK7⟩, by show l - (k + 1) < l - k; omega⟩
    · have e1 : decide ((k : Int) < (l : Int)) = false := by simp; omega
      have e2 : decide (k < l) = false := by simpa using hkl
      have hkl' : k = l := by omega
      subst hkl'
      have bx := HB.out.cell
      go_wp2_with fail
      refine (HNX.out wr HD.out HGR.out HKP.out).mono ?_
      rintro e w7 ⟨⟨v, rfl⟩, hq⟩
      have HQ := Lib.hid hq
      clear hq
      go_wp2_with fail
      go_ret
      exact ⟨rfl, wr, _, HKP.out, HD.out, HGR.out, HQ.out⟩
end Go.Proofs.YtdjephmkpebnhaaDoor
