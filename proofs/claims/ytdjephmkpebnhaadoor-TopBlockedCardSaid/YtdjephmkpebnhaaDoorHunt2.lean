/- The group's Hunt. -/
import Derived.Test.YtdjephmkpebnhaaDoorHunt
namespace Go.Proofs.YtdjephmkpebnhaaDoor
open Go.RowKit

/-- What Hunt answers and leaves. -/
def RetHunt (w : World) (g c : Nat) (own far : Int) (n : Nat) (S B C : Nat → Int) (call : Int) (e : Ending) (w' : World) : Prop :=
  ((∀ i, i < n → freeC (S i) (B i) = false) ∧ e = .returned (.tuple #[.int .i64 0, .int .i64 9]) ∧ Below w.heap.size w w') ∨
  (∃ b, b < n ∧ freeC (S b) (B b) = true ∧ e = .returned (.tuple #[.int .i64 (b : Nat), .int .i64 0]) ∧ Grp w' g c own far n (upd S b 1) B (upd C b call) ∧ w.grownBy w' (some c))

/-- The best circuit among the first k. -/
def Best (S B : Nat → Int) (k : Nat) (v : Int) : Prop := (v = -1 ∧ ∀ i, i < k → freeC (S i) (B i) = false) ∨ (∃ b : Nat, v = b ∧ b < k ∧ freeC (S b) (B b) = true)

theorem Best.no {S B : Nat → Int} {k : Nat} {v : Int} (h : Best S B k v) (hf : freeC (S k) (B k) = false) : Best S B (k + 1) v := by
  rcases h with ⟨h1, h2⟩ | ⟨b, h1, h2, h3⟩
  · refine .inl ⟨h1, fun i hi => ?_⟩
    rcases Nat.lt_or_eq_of_le (Nat.le_of_lt_succ hi) with h | rfl
    · exact h2 i h
    · exact hf
  · exact .inr ⟨b, h1, by omega, h3⟩
theorem Best.yes {S B : Nat → Int} {k : Nat} (hf : freeC (S k) (B k) = true) : Best S B (k + 1) k := .inr ⟨k, rfl, by omega, hf⟩

set_option maxHeartbeats 2000000 in
theorem hunt_any (g c : Nat) (own far : Int) (n : Nat) (S B C : Nat → Int) (call : Int) (w : World) (h : Grp w g c own far n S B C) (hn : 1 ≤ n ∧ n ≤ 1000) (hno : NoCall n S C call) (hcall : 1 ≤ call) :
    Calls Tryd.prog 11 #[.pointer (some ⟨g, 0, none⟩), .int .i64 call] w (RetHunt w g c own far n S B C call) := by
  have hf := fresh_any g c own far n S B C call w h hn hno hcall
  have HF := Lib.hid hf
  have H := Lib.hid h
  clear hf h hno
  go_enter Tryd.func11, Tryd.ntmps11
  go_wp2_with fail
  refine HF.out.mono ?_
  rintro e w1 ⟨rfl, hb1⟩
  have H1 := Lib.hid (H.out.kept hb1)
  have HB1 := Lib.hid hb1
  have l2 := H1.out.1.l2
  clear hb1 H
  go_wp2_with fail
  go_loopw [7, 21] (fun v7 v21 wr => ∃ (k : Nat) (v : Int), k ≤ n ∧ v21 = .int .i64 k ∧ v7 = .int .i64 v ∧ Hid (Best S B k v) ∧ Hid (Grp wr g c own far n S B C) ∧ Hid (Below w.heap.size w wr)) (fun _ v _ => n - (intOf v).toNat)
  case atStart => exact ⟨0, -1, Nat.zero_le _, rfl, rfl, Lib.hid (.inl ⟨rfl, fun i hi => absurd hi (by omega)⟩), H1, HB1⟩
  case round =>
    obtain ⟨k, v, hk, rfl, rfl, HV, HG, HX⟩ := hrel
    by_cases hkn : k < n
    · have d1 : decide ((k : Int) < (n : Int)) = true := by simp; omega
      have d2 : decide (k < n) = true := by simpa using hkn
      have q0 := HG.out.2.1.c0 hkn
      have q1 := HG.out.2.1.c1 hkn
      have q2 := HG.out.2.1.c2 hkn
      go_wp2_with fail
      refine (free_any (S k) (B k) (C k) _).mono ?_
      rintro e w2 ⟨rfl, hb2⟩
      have HX2 := Lib.hid ((HX.out.alloc HX.out.size (.cells #[.int .u8 (S k), .int .u8 (B k), .int .i64 (C k)] 65)).trans (hb2.mono (by have := HX.out.size; simp; omega)))
      have HG2 := Lib.hid ((HG.out.kept ((Below.refl _ wr).alloc (Nat.le_refl _) (.cells #[.int .u8 (S k), .int .u8 (B k), .int .i64 (C k)] 65))).kept hb2)
      clear hb2 q0 q1 q2
      by_cases hfr : freeC (S k) (B k) = true
      · have HFR := Lib.hid hfr
        rw [hfr]
        clear hfr
        go_wp2_with fail
        refine (controls_any g c own far n k w2 HG2.out.1 hkn).mono ?_
        rintro e w3 ⟨rfl, hb3⟩
        have HX3 := Lib.hid (HX2.out.trans (hb3.mono HX2.out.size))
        have HG3 := Lib.hid (HG2.out.kept hb3)
        clear hb3
        obtain ⟨x, hx⟩ : ∃ x, x = ctl own far k := ⟨_, rfl⟩
        rw [← hx]
        clear hx
        cases x
        · go_wp2_with fail
          go_roundw
          case rel => exact ⟨k + 1, k, by omega, by simp, rfl, Lib.hid (Best.yes HFR.out), HG3, HX3⟩
          case measure => simp [intOf]; omega
        · -- break
          have hc0 := HG3.out.2.1.free (k * 3)
          have hc2 := HG3.out.2.1.free (k * 3 + 2)
          have r0 := HG3.out.2.1.c0 (i := k) (by omega)
          have r2 := HG3.out.2.1.c2 (i := k) (by omega)
          have rl := HG3.out.1.l2
          have hgc : ¬ g = c := HG3.out.2.2
          have hcg : ¬ c = g := fun h => hgc h.symm
          have i0 : (0 : Int) ≤ (k : Int) := by omega
          have i1 : (k : Int) < (n : Int) := by omega
          have i2 : k < n := by omega
          have i3 : decide ((k : Int) < 0) = false := by simp
          go_wp2_with fail
          go_region_held3 (fun w' => w'.cell? ⟨g, 2, none⟩ = some (.slice (some ⟨c, 0, none⟩) n n)) (first | exact rl | go_keep) (fail)
          all_goals
            clear hc0 hc2 r0 r2 rl i0 i1 i3
            go_wp2_with fail
            go_ret2
            exact .inr ⟨k, i2, HFR.out, rfl, ⟨Lit0.drew (Lit0.far (Lit0.far HG3.out.1 (by exact hgc) _) (by exact hgc) _), Cs.drewN ((HG3.out.2.1.set0 i2 1).set2 i2 call) 1, hgc⟩, grown_drew (grown_trans (grown_trans (grown_below HX3.out _) (grown_one _ _ _ _)) (grown_one _ _ _ _))⟩
      · have hff : freeC (S k) (B k) = false := by simpa using hfr
        have HFR := Lib.hid hff
        rw [hff]
        clear hfr hff
        go_wp2_with fail
        go_roundw
        case rel => exact ⟨k + 1, v, by omega, by simp, rfl, Lib.hid (HV.out.no HFR.out), HG2, HX2⟩
        case measure => simp [intOf]; omega
    · obtain rfl : n = k := by omega
      have d1 : decide ((n : Int) < (n : Int)) = false := by simp
      have d2 : decide (n < n) = false := by simp
      rcases HV.out with ⟨rfl, hall⟩ | ⟨b, rfl, hbn, hbf⟩
      · have HALL := Lib.hid hall
        clear hall
        go_wp2_with fail
        go_ret2
        exact .inl ⟨HALL.out, rfl, HX.out⟩
      · have HFR := Lib.hid hbf
        clear hbf
        have hc0 := HG.out.2.1.free (b * 3)
        have hc2 := HG.out.2.1.free (b * 3 + 2)
        have r0 := HG.out.2.1.c0 (i := b) (by omega)
        have r2 := HG.out.2.1.c2 (i := b) (by omega)
        have rl := HG.out.1.l2
        have hgc : ¬ g = c := HG.out.2.2
        have hcg : ¬ c = g := fun h => hgc h.symm
        have i0 : (0 : Int) ≤ (b : Int) := by omega
        have i1 : (b : Int) < (n : Int) := by omega
        have i2 : b < n := by omega
        have i3 : decide ((b : Int) < 0) = false := by simp
        go_wp2_with fail
        go_region_held3 (fun w' => w'.cell? ⟨g, 2, none⟩ = some (.slice (some ⟨c, 0, none⟩) n n)) (first | exact rl | go_keep) (fail)
        all_goals
          clear hc0 hc2 r0 r2 rl i0 i1 i3
          go_wp2_with fail
          go_ret2
          exact .inr ⟨b, i2, HFR.out, rfl, ⟨Lit0.drew (Lit0.far (Lit0.far HG.out.1 (by exact hgc) _) (by exact hgc) _), Cs.drewN ((HG.out.2.1.set0 i2 1).set2 i2 call) 1, hgc⟩, grown_drew (grown_trans (grown_trans (grown_below HX.out _) (grown_one _ _ _ _)) (grown_one _ _ _ _))⟩
end Go.Proofs.YtdjephmkpebnhaaDoor
