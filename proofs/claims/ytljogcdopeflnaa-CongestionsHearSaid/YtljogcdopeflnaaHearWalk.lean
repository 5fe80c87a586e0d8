/- The law CongestionsHear: the walk. -/
import Derived.Test.YtljogcdopeflnaaHearLaw
namespace Go.Proofs.Ytljogcdopeflnaa
open Go.RowKit

theorem Row.grown {w w' : World} {g n : Nat} {t : TypeId} {f : Nat → Value} {row : Option Nat} (h : Row w g t n f) (hb : w.grownBy w' row) (hg : some g ≠ row) : Row w' g t n f := by
  have hl := h.lt
  obtain ⟨cs, hh, hr⟩ := h
  exact ⟨cs, (hb.block g hl hg).trans hh, hr⟩

theorem keep3 {wr wx w7 : World} {p p2 : Addr} {v v2 : Value} (h : wx.cell? p = some v ∧ wx.cell? p2 = some v2 ∧ Below wr.heap.size wr wx) (hp : p.block < wr.heap.size) (hp2 : p2.block < wr.heap.size) (hb7 : Below wx.heap.size wx w7) :
    w7.cell? p = some v ∧ w7.cell? p2 = some v2 ∧ Below wr.heap.size wr w7 :=
  ⟨(hb7.cell (by have := h.2.2.size; omega)).trans h.1, (hb7.cell (by have := h.2.2.size; omega)).trans h.2.1, h.2.2.trans (hb7.mono h.2.2.size)⟩
theorem limb3 {wr wx : World} {p p2 : Addr} {v v2 : Value} (h : wx.cell? p = some v ∧ wx.cell? p2 = some v2 ∧ Below wr.heap.size wr wx) : Below wr.heap.size wr wx := h.2.2
theorem keepC {wr wx w7 : World} {p : Addr} {v : Value} (h1 : wx.cell? p = some v) (hb : Below wr.heap.size wr wx) (hlt : p.block < wr.heap.size) (hb7 : Below wx.heap.size wx w7) : w7.cell? p = some v :=
  (hb7.cell (by have := hb.size; omega)).trans h1
theorem keepB {wr wx w7 : World} (hb : Below wr.heap.size wr wx) (hb7 : Below wx.heap.size wx w7) : Below wr.heap.size wr w7 := hb.trans (hb7.mono hb.size)

theorem hear_many (A : Option Addr) (n cp : Nat) (x : Int) (w : World) (hn : 100 < n) :
    Calls Try.prog 6 #[.int .u8 x, .slice A n cp] w (RetBool w true) := by
  have dn : decide (100 < (n : Int)) = true := by simp; omega
  clear hn
  go_enter Try.func6, Try.ntmps6
  go_wp2_with fail
  refine (lives_any _).mono ?_
  rintro e w1 ⟨rfl, hb1⟩
  go_wp2_with fail
  go_ret
  exact ⟨rfl, hb1⟩

def eight (v : Value) : Array Value := #[v, v, v, v, v, v, v, v]
theorem row_eight {w : World} (h : Nat → Int) (h0 : ∀ j, h j = 0) : Row (w.alloc (.cells #[.int .i64 0, .int .i64 0, .int .i64 0, .int .i64 0, .int .i64 0, .int .i64 0, .int .i64 0, .int .i64 0] 44)) w.heap.size 44 8 (fun j => .int .i64 (h j)) :=
  Row.new _ rfl (fun j hj => by
    rw [h0]
    match j, hj with
    | 0, _ => rfl
    | 1, _ => rfl
    | 2, _ => rfl
    | 3, _ => rfl
    | 4, _ => rfl
    | 5, _ => rfl
    | 6, _ => rfl
    | 7, _ => rfl)

set_option maxRecDepth 100000 in
set_option maxHeartbeats 2000000 in
theorem hear_law (A : Option Addr) (n cp : Nat) (x : Int) (F G J : Nat → Int) (w : World) (hn : n ≤ 100) (hx : 0 ≤ x ∧ x ≤ 255)
    (hS : Sees3 w w.heap.size A n (fun i => .int .u8 (F i)) (fun i => .int .u8 (G i)) (fun i => .int .u8 (J i))) (hSb : ∀ i, i < n → (0 ≤ F i ∧ F i ≤ 255) ∧ (0 ≤ G i ∧ G i ≤ 255) ∧ 0 ≤ J i ∧ J i ≤ 255) :
    Calls Try.prog 6 #[.int .u8 x, .slice A n cp] w (RetBool w true) := by
  have dn : decide (100 < (n : Int)) = false := by simp; omega
  have HS := Lib.hid hS
  have HSB := Lib.hid hSb
  obtain ⟨β, hβ⟩ : ∃ β : Nat, 1 + x % 64 = (β : Int) := ⟨(1 + x % 64).toNat, by omega⟩
  have bβ : 1 ≤ β ∧ β ≤ 64 := by omega
  clear hS hSb
  go_enter Try.func6, Try.ntmps6
  go_wp2_with fail
  refine (newControl_any (β : Int) w).mono ?_
  rintro e w1 (⟨h, _⟩ | ⟨_, g, b, rfl, hg, hb, hc, hb1⟩)
  · omega
  have HC1 := Lib.hid hc
  have HB1 := Lib.hid hb1
  have hbb := Lib.hid hb
  clear hc hb1 hg hb
  go_wp2_with fail
  have ra := (row_eight (w := w1) (fun _ => 0) (fun _ => rfl)).alloc (.cells #[.int .i64 0, .int .i64 0, .int .i64 0, .int .i64 0, .int .i64 0, .int .i64 0, .int .i64 0, .int .i64 0] 44)
  have rl := row_eight (w := w1.alloc (.cells #[.int .i64 0, .int .i64 0, .int .i64 0, .int .i64 0, .int .i64 0, .int .i64 0, .int .i64 0, .int .i64 0] 44)) (fun _ => 0) (fun _ => rfl)
  simp only [World.size_alloc] at rl
  have b2 : Below w1.heap.size w1 ((w1.alloc (.cells #[.int .i64 0, .int .i64 0, .int .i64 0, .int .i64 0, .int .i64 0, .int .i64 0, .int .i64 0, .int .i64 0] 44)).alloc (.cells #[.int .i64 0, .int .i64 0, .int .i64 0, .int .i64 0, .int .i64 0, .int .i64 0, .int .i64 0, .int .i64 0] 44)) := ((Below.refl _ w1).alloc (Nat.le_refl _) _).alloc (by simp) _
  have hga : w.heap.size ≤ w1.heap.size := HB1.out.size
  have hglt : g < w1.heap.size := HC1.out.1.lt
  have hblt : b < w1.heap.size := by obtain ⟨_, _, D, h, _⟩ := HC1.out; exact h.lt
  have hc2 := HC1.out.kept b2
  have hb2 := HB1.out.trans (b2.mono HB1.out.size)
  generalize (w1.alloc (.cells #[.int .i64 0, .int .i64 0, .int .i64 0, .int .i64 0, .int .i64 0, .int .i64 0, .int .i64 0, .int .i64 0] 44)).alloc (.cells #[.int .i64 0, .int .i64 0, .int .i64 0, .int .i64 0, .int .i64 0, .int .i64 0, .int .i64 0, .int .i64 0] 44) = w2 at ra rl hc2 hb2 b2 ⊢
  generalize w1.heap.size = ga at *
  have HRA := Lib.hid ra
  have HRL := Lib.hid rl
  have HC2 := Lib.hid hc2
  have HB2 := Lib.hid hb2
  have HORD := Lib.hid (show w.heap.size ≤ ga ∧ g < ga ∧ b < ga from ⟨hga, hglt, hblt⟩)
  clear ra rl hc2 hb2 b2 hga hglt hblt HB1 HC1
  go_loopw [10, 11] (fun v10 v11 wr => ∃ (now i nc : Nat) (f : Int → Option (Int × Int)) (A : Nat → Nat) (V : Nat → Int), i ≤ n ∧ v10 = .int .i64 now ∧ v11 = .int .i64 i ∧ now ≤ 255 * i ∧ nc ≤ i ∧ Hid (HearInv f A V now) ∧ Hid (Ctl wr g b β nc f) ∧
      Hid (Row wr ga 44 8 (fun j => .int .i64 (A j))) ∧ Hid (Row wr (ga + 1) 44 8 (fun j => .int .i64 (V j))) ∧ Hid (Below w.heap.size w wr)) (fun _ v _ => n - (intOf v).toNat)
  case atStart => exact ⟨0, 0, 0, _, _, _, by omega, rfl, rfl, by omega, by omega, Lib.hid inv_start, HC2, HRA, HRL, HB2⟩
  case round =>
    obtain ⟨now0, i, nc, f, A, V, hi, rfl, rfl, hnow, hnc, INV0, CR, RA, RL, HBr⟩ := hrel
    by_cases hin : i < n
    · have din : decide ((i : Int) < (n : Int)) = true := by simp; omega
      have din' : decide (i < n) = true := by simpa using hin
      obtain ⟨bs, off, rfl, hbs, cF, cG, cJ⟩ := (HS.out.below HBr.out) i hin
      have hSi := HSB.out i hin
      replace cF : wr.cell? ⟨bs, off + i * 3, none⟩ = some (.int .u8 (F i)) := cF
      replace cG : wr.cell? ⟨bs, off + i * 3 + 1, none⟩ = some (.int .u8 (G i)) := cG
      replace cJ : wr.cell? ⟨bs, off + i * 3 + 2, none⟩ = some (.int .u8 (J i)) := cJ
      generalize F i = s1 at cF hSi
      generalize G i = s2 at cG hSi
      generalize J i = s3 at cJ hSi
      obtain ⟨s1, rfl⟩ := Int.eq_ofNat_of_zero_le hSi.1.1
      obtain ⟨now, hnw⟩ : ∃ m, m = now0 + s1 := ⟨_, rfl⟩
      have hnw' : (now0 : Int) + (s1 : Int) = (now : Int) := by omega
      obtain ⟨t, ht⟩ : ∃ t : Nat, s2 % 8 = (t : Int) := ⟨(s2 % 8).toNat, by omega⟩
      have bt : t < 8 := by omega
      obtain ⟨v, hv⟩ : ∃ v, s3 % 5 - 1 = v := ⟨_, rfl⟩
      have bv : -1 ≤ v ∧ v ≤ 3 := by omega
      have bnow : now ≤ 255 * (i + 1) := by omega
      have INV1 := Lib.hid (INV0.out.later (show now0 ≤ now by omega))
      clear hnw
      by_cases hv0 : v < 0
      · have dv : decide (0 ≤ v) = false := by simp; omega
        have HH := Lib.hid (hear_bad g b β now t v wr CR.out.1 (by omega) (.inl hv0))
        go_wp2_with fail
        refine HH.out.mono ?_
        rintro e w5 ⟨rfl, rfl⟩
        obtain ⟨wk, rfl⟩ : ∃ wk : World, wk = wr := ⟨_, rfl⟩
        have INV := INV1
        have CK := CR
        have RAK := RA
        have RLK := RL
        clear cF cG cJ hSi
        go_wp2_with fail
        clear hnw' ht hv dv
        go_loopw [15] (fun v wr => ∃ k : Nat, k ≤ 8 ∧ v = .int .i64 k ∧ Hid (Below wk.heap.size wk wr)) (fun v _ => 8 - (intOf v).toNat)
        case atStart => exact ⟨0, by omega, rfl, Lib.hid (Below.refl _ _)⟩
        case round =>
          obtain ⟨k, hk, rfl, HK⟩ := hrel
          by_cases hk8 : k < 8
          · have dk : decide ((k : Int) < 8) = true := by simp; omega
            obtain ⟨wo, rfl⟩ : ∃ wo : World, wo = wr := ⟨_, rfl⟩
            have hinv := INV.out.1 k hk8
            obtain ⟨Ak, hAk⟩ : ∃ a, a = A k := ⟨_, rfl⟩
            obtain ⟨Vk, hVk⟩ : ∃ v, v = V k := ⟨_, rfl⟩
            rw [← hAk, ← hVk] at hinv
            have bA : Ak ≤ now := hinv.2.1
            have bV : 0 ≤ Vk ∧ Vk ≤ 3 := hinv.2.2
            have RK := Lib.hid hAk
            have RV := Lib.hid hVk
            clear hinv hAk hVk
            go_wp2_with fail
            go_loopw [16] (fun v wr => ∃ d : Nat, d ≤ 300 ∧ v = .int .i64 d ∧ Hid (Below wk.heap.size wk wr)) (fun v _ => 300 - (intOf v).toNat)
            case atStart => exact ⟨0, by omega, rfl, HK⟩
            case round =>
              obtain ⟨d, hd, rfl, HD⟩ := hrel
              have HC := Lib.hid (CK.out.kept HD.out)
              have ca := (RAK.out.kept HD.out).cell hk8
              have cl := (RLK.out.kept HD.out).cell hk8
              replace ca : _ = some (Value.int .i64 (A k)) := ca
              replace cl : _ = some (Value.int .i64 (V k)) := cl
              rw [← RK.out] at ca
              rw [← RV.out] at cl
              by_cases hd3 : (d : Int) < 3 * (β : Int)
              · have dd : decide ((d : Int) < 3 * (β : Int)) = true := by simpa using hd3
                have hlev := INV.out.level hk8 (β : Int) ((now : Int) + d) (by omega) (by omega)
                rw [← RK.out, ← RV.out] at hlev
                obtain ⟨q, hq⟩ : ∃ q, ((now : Int) + d - Ak) / (β : Int) = q := ⟨_, rfl⟩
                have hq0 : 0 ≤ q := by rw [← hq]; exact Int.ediv_nonneg (by omega) (by omega)
                have hq1 : q ≤ 40000 := by rw [← hq]; exact Int.le_trans (Int.ediv_le_self _ (by omega)) (by omega)
                have hqt : ((now : Int) + d - Ak).tdiv (β : Int) = q := by rw [Int.tdiv_eq_ediv_of_nonneg (by omega)]; exact hq
                rw [hq] at hlev
                have hcall := fun (wx : World) (hwx : Below wr.heap.size wr wx) => clevel_any g b nc (β : Int) ((now : Int) + d) k f wx (HC.out.kept hwx) (by omega) ⟨by omega, by omega⟩ (by omega) (fun p hp => INV.out.ok (by omega) k p hp)
                rw [hlev] at hcall
                have HCALL := Lib.hid hcall
                clear hcall hlev
                have hd2 : ((d + β + d % 2 : Nat) : Int) = (d : Int) + ((β : Int) - 1 + (d : Int) % 2 + 1) := by omega
                have HD2 := Lib.hid hd2
                clear hd2
                by_cases hv : 0 ≤ Vk - q
                · have hmx : max (Vk - q) 0 = Vk - q := by omega
                  rw [hmx] at HCALL
                  clear hmx
                  go_wp2_with fail
                  go_quiet (fail)
                  have ca' : (wr.drewN nq).cell? ⟨ga, k, none⟩ = some (.int .i64 Ak) := ca
                  have hsz : (wr.drewN nq).heap.size = wr.heap.size := rfl
                  go_wp2_with fail
                  refine (HCALL.out _ (Below.drewN' (Below.refl _ _) _)).mono ?_
                  rintro e w6 ⟨rfl, hb6⟩
                  have HB6 := Lib.hid (HD.out.trans ((Below.drewN' (Below.refl wr.heap.size wr) nq).trans hb6 |>.mono HD.out.size))
                  clear hb6 ca' hsz ca cl
                  go_wp2_with fail
                  go_roundw
                  case rel => exact ⟨d + β + d % 2, by omega, congrArg (Value.int .i64) (by rw [HD2.out]), HB6⟩
                  case measure => simp [intOf]; omega
                · have hmx : max (Vk - q) 0 = 0 := by omega
                  rw [hmx] at HCALL
                  clear hmx
                  go_wp2_with fail
                  go_quiet (fail)
                  go_wp2_with fail
                  refine (HCALL.out _ (Below.drewN' (Below.refl _ _) _)).mono ?_
                  rintro e w6 ⟨rfl, hb6⟩
                  have HB6 := Lib.hid (HD.out.trans ((Below.drewN' (Below.refl wr.heap.size wr) nq).trans hb6 |>.mono HD.out.size))
                  clear hb6 ca cl
                  go_wp2_with fail
                  go_roundw
                  case rel => exact ⟨d + β + d % 2, by omega, congrArg (Value.int .i64) (by rw [HD2.out]), HB6⟩
                  case measure => simp [intOf]; omega
              · have dd : decide ((d : Int) < 3 * (β : Int)) = false := by simpa using hd3
                have hold := INV.out.old hk8 (β : Int)
                rw [← RK.out, ← RV.out] at hold
                have hcall := fun (wx : World) (hwx : Below wr.heap.size wr wx) => clevel_any g b nc (β : Int) ((Ak : Int) - 1) k f wx (HC.out.kept hwx) (by omega) ⟨by omega, by omega⟩ (by omega) (fun p hp => INV.out.ok (by omega) k p hp)
                rw [hold] at hcall
                have HCALL := Lib.hid hcall
                clear hcall hold
                have hlts := cell_lt ca
                have hlts' := cell_lt cl
                have e1 : IntKind.i64.wrap ((Ak : Int) - 1) = (Ak : Int) - 1 := IntWalk.i64_in _ (by omega)
                go_wp2_with fail
                have k0 : (0 : Int) ≤ (k : Int) := by omega
                have e2 : IntKind.u16.wrap (k : Int) = (k : Int) := by simp [IntKind.wrap_u16] <;> omega
                have k1 : (k : Int) < 8 := by omega
                have k2 : (k : Int) ≤ 8 := by omega
                go_region_held3 (fun w' => w'.cell? ⟨ga, k, none⟩ = some (.int .i64 Ak) ∧ w'.cell? ⟨ga + 1, k, none⟩ = some (.int .i64 Vk) ∧ Below wr.heap.size wr w')
                  (first | exact ⟨ca, cl, Below.drew (Below.refl _ _)⟩ | exact keep3 (by assumption) hlts hlts' hb7 | go_keep)
                  (first | (go_at_call 17; refine (HCALL.out _ ?_).mono ?_; (exact limb3 (p := ⟨ga, k, none⟩) (p2 := ⟨ga + 1, k, none⟩) (v := .int .i64 Ak) (v2 := .int .i64 Vk) (by assumption)); rintro e w7 ⟨rfl, hb7⟩))
                have hlast : Below wr.heap.size wr w7 := limb3 (p := ⟨ga, k, none⟩) (p2 := ⟨ga + 1, k, none⟩) (v := .int .i64 Ak) (v2 := .int .i64 Vk) (by assumption)
                have HB7 := Lib.hid (HD.out.trans (hlast.mono HD.out.size))
                clear hlast hb7 ca cl e1 e2
                go_wp2_with fail
                go_roundw
                case rel => exact ⟨k + 1, by omega, by simp, HB7⟩
                case measure => simp [intOf]; omega
          · have dk : decide ((k : Int) < 8) = false := by simp; omega
            go_wp2_with fail
            go_roundw
            case rel => exact ⟨now, i + 1, nc, f, A, V, by omega, rfl, by simp, by omega, by omega, INV, Lib.hid (CK.out.kept HK.out), Lib.hid (RAK.out.kept HK.out), Lib.hid (RLK.out.kept HK.out), Lib.hid (HBr.out.trans (HK.out.mono HBr.out.size))⟩
            case measure => simp [intOf]; omega
      · have dv : decide (0 ≤ v) = true := by simp; omega
        have hok := INV1.out.ok (by omega)
        have HH := Lib.hid (hear_any g b nc β now t v f wr CR.out (by omega) ⟨by omega, by omega⟩ (by omega) (by omega) (by omega) hok)
        have hfew := INV1.out.few β now t
        have HFEW := Lib.hid hfew
        clear hok hfew
        go_wp2_with fail
        refine HH.out.mono ?_
        rintro e w5 (⟨h, _⟩ | ⟨_, rfl, hc5, hg5⟩)
        · exact absurd h (Nat.not_le.2 HFEW.out)
        have ra5 := RA.out.grown hg5 (by simp; have := HORD.out; omega)
        have rl5 := RL.out.grown hg5 (by simp; have := HORD.out; omega)
        have hb5 := below_grown (grown_trans (grown_below (HBr.out.mono (Nat.le_refl _)) _) hg5) (by have := hbb.out; exact this) (Nat.le_refl _)
        have ra6 := ra5.set bt (.int .i64 (now : Int))
        have rl6 := rl5.far (p := ⟨ga, t, none⟩) (by simp) (.int .i64 (now : Int))
        have ra7 := ra6.far (p := ⟨ga + 1, t, none⟩) (by simp) (.int .i64 v)
        have rl7 := rl6.set bt (.int .i64 v)
        have g6 := grown_set (grown_refl w5 (some ga)) (p := ⟨ga, t, none⟩) (.inl rfl) (.int .i64 (now : Int))
        have g7 := grown_set (grown_refl (w5.setCell ⟨ga, t, none⟩ (.int .i64 (now : Int))) (some (ga + 1))) (p := ⟨ga + 1, t, none⟩) (.inl rfl) (.int .i64 v)
        have hc7 := (hc5.grown g6 (by simp; have := HORD.out; omega) (by simp; have := HORD.out; omega)).grown g7 (by simp; have := HORD.out; omega) (by simp; have := HORD.out; omega)
        have hb7 := hb5.trans ((below_grown g6 HORD.out.1 hb5.size).trans (below_grown g7 (by have := HORD.out; omega) (Nat.le_trans hb5.size g6.size)))
        have f5 := ra5.free t
        have x5 := ra5.cell bt
        have f6 := rl6.free t
        have x6 := rl6.cell bt
        have RA7 := Lib.hid ra7
        have RL7 := Lib.hid rl7
        have HC7 := Lib.hid hc7
        have HB7 := Lib.hid hb7
        clear ra5 rl5 ra6 rl6 ra7 rl7 g6 g7 hc7 hb7 hb5 hc5 hg5 cF cG cJ hSi
        go_wp2_with fail
        clear f5 x5 f6 x6
        generalize (w5.setCell ⟨ga, t, none⟩ (.int .i64 (now : Int))).setCell ⟨ga + 1, t, none⟩ (.int .i64 v) = wk at RA7 RL7 HC7 HB7 ⊢
        have pack : ∃ (f' : Int → Option (Int × Int)) (A' : Nat → Nat) (V' : Nat → Int) (nc' : Nat), nc' ≤ i + 1 ∧ Hid (HearInv f' A' V' now) ∧ Hid (Ctl wk g b β nc' f') ∧ Hid (Row wk ga 44 8 (fun j => .int .i64 (A' j))) ∧ Hid (Row wk (ga + 1) 44 8 (fun j => .int .i64 (V' j))) :=
          ⟨_, _, _, nc + 1, by omega, Lib.hid (INV1.out.step bt (n := v) (by omega)), HC7, Lib.hid (RA7.out.congr (fun j _ => by by_cases e : j = t <;> simp [e])), Lib.hid (RL7.out.congr (fun j _ => by by_cases e : j = t <;> simp [e]))⟩
        have HBr := HB7
        clear RA7 RL7 HC7 HB7 HFEW HH INV1 RA RL CR INV0
        obtain ⟨f, A, V, nc, hnc, INV, CK, RAK, RLK⟩ := pack
        clear hnw' ht hv dv
        go_loopw [15] (fun v wr => ∃ k : Nat, k ≤ 8 ∧ v = .int .i64 k ∧ Hid (Below wk.heap.size wk wr)) (fun v _ => 8 - (intOf v).toNat)
        case atStart => exact ⟨0, by omega, rfl, Lib.hid (Below.refl _ _)⟩
        case round =>
          obtain ⟨k, hk, rfl, HK⟩ := hrel
          by_cases hk8 : k < 8
          · have dk : decide ((k : Int) < 8) = true := by simp; omega
            obtain ⟨wo, rfl⟩ : ∃ wo : World, wo = wr := ⟨_, rfl⟩
            have hinv := INV.out.1 k hk8
            obtain ⟨Ak, hAk⟩ : ∃ a, a = A k := ⟨_, rfl⟩
            obtain ⟨Vk, hVk⟩ : ∃ v, v = V k := ⟨_, rfl⟩
            rw [← hAk, ← hVk] at hinv
            have bA : Ak ≤ now := hinv.2.1
            have bV : 0 ≤ Vk ∧ Vk ≤ 3 := hinv.2.2
            have RK := Lib.hid hAk
            have RV := Lib.hid hVk
            clear hinv hAk hVk
            go_wp2_with fail
            go_loopw [16] (fun v wr => ∃ d : Nat, d ≤ 300 ∧ v = .int .i64 d ∧ Hid (Below wk.heap.size wk wr)) (fun v _ => 300 - (intOf v).toNat)
            case atStart => exact ⟨0, by omega, rfl, HK⟩
            case round =>
              obtain ⟨d, hd, rfl, HD⟩ := hrel
              have HC := Lib.hid (CK.out.kept HD.out)
              have ca := (RAK.out.kept HD.out).cell hk8
              have cl := (RLK.out.kept HD.out).cell hk8
              replace ca : _ = some (Value.int .i64 (A k)) := ca
              replace cl : _ = some (Value.int .i64 (V k)) := cl
              rw [← RK.out] at ca
              rw [← RV.out] at cl
              by_cases hd3 : (d : Int) < 3 * (β : Int)
              · have dd : decide ((d : Int) < 3 * (β : Int)) = true := by simpa using hd3
                have hlev := INV.out.level hk8 (β : Int) ((now : Int) + d) (by omega) (by omega)
                rw [← RK.out, ← RV.out] at hlev
                obtain ⟨q, hq⟩ : ∃ q, ((now : Int) + d - Ak) / (β : Int) = q := ⟨_, rfl⟩
                have hq0 : 0 ≤ q := by rw [← hq]; exact Int.ediv_nonneg (by omega) (by omega)
                have hq1 : q ≤ 40000 := by rw [← hq]; exact Int.le_trans (Int.ediv_le_self _ (by omega)) (by omega)
                have hqt : ((now : Int) + d - Ak).tdiv (β : Int) = q := by rw [Int.tdiv_eq_ediv_of_nonneg (by omega)]; exact hq
                rw [hq] at hlev
                have hcall := fun (wx : World) (hwx : Below wr.heap.size wr wx) => clevel_any g b nc (β : Int) ((now : Int) + d) k f wx (HC.out.kept hwx) (by omega) ⟨by omega, by omega⟩ (by omega) (fun p hp => INV.out.ok (by omega) k p hp)
                rw [hlev] at hcall
                have HCALL := Lib.hid hcall
                clear hcall hlev
                have hd2 : ((d + β + d % 2 : Nat) : Int) = (d : Int) + ((β : Int) - 1 + (d : Int) % 2 + 1) := by omega
                have HD2 := Lib.hid hd2
                clear hd2
                by_cases hv : 0 ≤ Vk - q
                · have hmx : max (Vk - q) 0 = Vk - q := by omega
                  rw [hmx] at HCALL
                  clear hmx
                  go_wp2_with fail
                  go_quiet (fail)
                  have ca' : (wr.drewN nq).cell? ⟨ga, k, none⟩ = some (.int .i64 Ak) := ca
                  have hsz : (wr.drewN nq).heap.size = wr.heap.size := rfl
                  go_wp2_with fail
                  refine (HCALL.out _ (Below.drewN' (Below.refl _ _) _)).mono ?_
                  rintro e w6 ⟨rfl, hb6⟩
                  have HB6 := Lib.hid (HD.out.trans ((Below.drewN' (Below.refl wr.heap.size wr) nq).trans hb6 |>.mono HD.out.size))
                  clear hb6 ca' hsz ca cl
                  go_wp2_with fail
                  go_roundw
                  case rel => exact ⟨d + β + d % 2, by omega, congrArg (Value.int .i64) (by rw [HD2.out]), HB6⟩
                  case measure => simp [intOf]; omega
                · have hmx : max (Vk - q) 0 = 0 := by omega
                  rw [hmx] at HCALL
                  clear hmx
                  go_wp2_with fail
                  go_quiet (fail)
                  go_wp2_with fail
                  refine (HCALL.out _ (Below.drewN' (Below.refl _ _) _)).mono ?_
                  rintro e w6 ⟨rfl, hb6⟩
                  have HB6 := Lib.hid (HD.out.trans ((Below.drewN' (Below.refl wr.heap.size wr) nq).trans hb6 |>.mono HD.out.size))
                  clear hb6 ca cl
                  go_wp2_with fail
                  go_roundw
                  case rel => exact ⟨d + β + d % 2, by omega, congrArg (Value.int .i64) (by rw [HD2.out]), HB6⟩
                  case measure => simp [intOf]; omega
              · have dd : decide ((d : Int) < 3 * (β : Int)) = false := by simpa using hd3
                have hold := INV.out.old hk8 (β : Int)
                rw [← RK.out, ← RV.out] at hold
                have hcall := fun (wx : World) (hwx : Below wr.heap.size wr wx) => clevel_any g b nc (β : Int) ((Ak : Int) - 1) k f wx (HC.out.kept hwx) (by omega) ⟨by omega, by omega⟩ (by omega) (fun p hp => INV.out.ok (by omega) k p hp)
                rw [hold] at hcall
                have HCALL := Lib.hid hcall
                clear hcall hold
                have hlts := cell_lt ca
                have hlts' := cell_lt cl
                have e1 : IntKind.i64.wrap ((Ak : Int) - 1) = (Ak : Int) - 1 := IntWalk.i64_in _ (by omega)
                go_wp2_with fail
                have k0 : (0 : Int) ≤ (k : Int) := by omega
                have e2 : IntKind.u16.wrap (k : Int) = (k : Int) := by simp [IntKind.wrap_u16] <;> omega
                have k1 : (k : Int) < 8 := by omega
                have k2 : (k : Int) ≤ 8 := by omega
                go_region_held3 (fun w' => w'.cell? ⟨ga, k, none⟩ = some (.int .i64 Ak) ∧ w'.cell? ⟨ga + 1, k, none⟩ = some (.int .i64 Vk) ∧ Below wr.heap.size wr w')
                  (first | exact ⟨ca, cl, Below.drew (Below.refl _ _)⟩ | exact keep3 (by assumption) hlts hlts' hb7 | go_keep)
                  (first | (go_at_call 17; refine (HCALL.out _ ?_).mono ?_; (exact limb3 (p := ⟨ga, k, none⟩) (p2 := ⟨ga + 1, k, none⟩) (v := .int .i64 Ak) (v2 := .int .i64 Vk) (by assumption)); rintro e w7 ⟨rfl, hb7⟩))
                have hlast : Below wr.heap.size wr w7 := limb3 (p := ⟨ga, k, none⟩) (p2 := ⟨ga + 1, k, none⟩) (v := .int .i64 Ak) (v2 := .int .i64 Vk) (by assumption)
                have HB7 := Lib.hid (HD.out.trans (hlast.mono HD.out.size))
                clear hlast hb7 ca cl e1 e2
                go_wp2_with fail
                go_roundw
                case rel => exact ⟨k + 1, by omega, by simp, HB7⟩
                case measure => simp [intOf]; omega
          · have dk : decide ((k : Int) < 8) = false := by simp; omega
            go_wp2_with fail
            go_roundw
            case rel => exact ⟨now, i + 1, nc, f, A, V, by omega, rfl, by simp, by omega, by omega, INV, Lib.hid (CK.out.kept HK.out), Lib.hid (RAK.out.kept HK.out), Lib.hid (RLK.out.kept HK.out), Lib.hid (HBr.out.trans (HK.out.mono HBr.out.size))⟩
            case measure => simp [intOf]; omega
    · have din : decide ((i : Int) < (n : Int)) = false := by simp; omega
      have din' : decide (i < n) = false := by simp; omega
      go_wp2_with fail
      refine (lives_any _).mono ?_
      rintro e w4 ⟨rfl, hb4⟩
      go_wp2_with fail
      go_ret
      exact ⟨rfl, HBr.out.trans (hb4.mono HBr.out.size)⟩
end Go.Proofs.Ytljogcdopeflnaa
