/- SetAll's walk up to next: the codes that are asked for are local blocks. -/
import Derived.Test.YtdjephmkpebnhaaDoorKeep
namespace Go.Proofs.YtdjephmkpebnhaaDoor
open Go.RowKit

theorem call22 (args : Array Value) (w : World) : (callFunc 22 args).run Tryd.prog w = .ok (.enter 22 args) w := by kernel_rfl

theorem outside_sub (g c n b d : Nat) (own far : Int) (x : Nat) (w : World) (hx : x < n) (hb : w.cell? ⟨b, 0, none⟩ = some (.pointer (some ⟨d, 0, none⟩))) (hd : w.cell? ⟨d, 0, none⟩ = some (.pointer (some ⟨g, 0, none⟩))) (hg : Gh w g c own far n) :
    Calls Tryd.prog 22 #[.int .i64 (x : Int), .pointer (some ⟨b, 0, none⟩)] w (fun e w' => e = .returned (.bool false) ∧ w = w') := by
  have HS := Lib.hid (size_any g c own far n w hg)
  have d1 : decide ((x : Int) < 0) = false := by simp
  have d2 : decide ((n : Int) ≤ (x : Int)) = false := by simp; omega
  have d3 : decide (n ≤ x) = false := by simp; omega
  clear hg
  go_enter Tryd.func22, Tryd.ntmps22
  go_wp2_with fail
  refine HS.out.mono ?_
  rintro e w' ⟨rfl, rfl⟩
  go_wp2_with fail
  go_ret
  exact ⟨rfl, rfl⟩

/-- No code is outside. -/
theorem inside_any (fid : FuncId) (caps : Array Value) (A : Option Addr) (l cp : Nat) (X : Nat → Nat) (w : World) (hs : Sees w w.heap.size A l (fun i => .int .i64 (X i : Nat)))
    (hcf : ∀ (args : Array Value) (w : World), (callFunc fid args).run Tryd.prog w = .ok (.enter fid args) w)
    (hcl : ∀ i, i < l → Calls Tryd.prog fid (#[.int .i64 (X i : Nat)] ++ caps) w (fun e w' => e = .returned (.bool false) ∧ w = w')) (hl : l ≤ 1000) :
    Calls Tryd.prog 21 #[.slice A l cp, .func (.func fid) #[] caps] w (fun e w' => e = .returned (.bool false) ∧ w = w') := by
  have hk : Calls Tryd.prog 37 #[.slice A l cp, .func (.func fid) #[] caps] w (fun e w' => e = .returned (.int .i64 (-1)) ∧ w = w') := by
    have HC := Lib.hid hcl
    have HS := Lib.hid hs
    clear hcl hs
    go_enter Tryd.func37, Tryd.ntmps37
    go_wp2_with fail
    go_loopw [8] (fun v8 wr => ∃ k : Nat, k ≤ l ∧ v8 = .int .i64 k ∧ w = wr) (fun v _ => l - (intOf v).toNat)
    case atStart => exact ⟨0, Nat.zero_le _, rfl, rfl⟩
    case round =>
      obtain ⟨k, hk, rfl, rfl⟩ := hrel
      by_cases hkl : k < l
      · have e1 : decide ((k : Int) < (l : Int)) = true := by simp; omega
        have e2 : decide (k < l) = true := by simpa using hkl
        have j0 : (0 : Int) ≤ (k : Int) := by omega
        have j1 : (k : Int) < (l : Int) := by omega
        obtain ⟨b, off, rfl⟩ := HS.out.form (by omega)
        have q0 := HS.out.cell hkl
        go_wp2_with fail
        refine (HC.out k hkl).mono ?_
        rintro e w' ⟨rfl, rfl⟩
        go_wp2_with fail
        go_roundw
        case rel => exact ⟨k + 1, by omega, by simp, by trivial⟩
        case measure => simp [intOf]; omega
      · obtain rfl : l = k := by omega
        have e1 : decide ((l : Int) < (l : Int)) = false := by simp
        have e2 : decide (l < l) = false := by simp
        go_wp2_with fail
        go_ret
        exact ⟨rfl, rfl⟩
  have HK := Lib.hid hk
  clear hk hcl hs hcf
  go_enter Tryd.func21, Tryd.ntmps21
  go_wp2_with fail
  refine HK.out.mono ?_
  rintro e w' ⟨rfl, rfl⟩
  go_wp2_with fail
  go_ret
  exact ⟨rfl, rfl⟩
end Go.Proofs.YtdjephmkpebnhaaDoor
