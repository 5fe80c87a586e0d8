/- The desk's small methods: none, Rest, has, Local, locals; slices.Equal of bools. -/
import Derived.Test.YtdjephmkpebnhaaDoorDesk
namespace Go.Proofs.YtdjephmkpebnhaaDoor
open Go.RowKit

theorem none_any (d g : Nat) (w : World) (h : w.cell? ⟨d, 0, none⟩ = some (.pointer (some ⟨g, 0, none⟩))) : Calls Tryd.prog 20 #[.pointer (some ⟨d, 0, none⟩)] w fun e w' => e = .returned (.bool false) ∧ w = w' := by
  go_enter Tryd.func20, Tryd.ntmps20
  go_wp2_with fail
  go_ret
  exact ⟨rfl, rfl⟩

theorem rest_yes (d g : Nat) (w : World) (h : w.cell? ⟨d, 0, none⟩ = some (.pointer (some ⟨g, 0, none⟩))) (h6 : w.cell? ⟨d, 6, none⟩ = some (.pointer none)) : Calls Tryd.prog 8 #[.pointer (some ⟨d, 0, none⟩)] w fun e w' => e = .returned (.bool true) ∧ w = w' := by
  have HN := Lib.hid (none_any d g w h)
  clear h
  go_enter Tryd.func8, Tryd.ntmps8
  go_wp2_with fail
  refine HN.out.mono ?_
  rintro e w' ⟨rfl, rfl⟩
  go_wp2_with fail
  go_ret
  exact ⟨rfl, rfl⟩

theorem rest_no (d g m : Nat) (w : World) (h : w.cell? ⟨d, 0, none⟩ = some (.pointer (some ⟨g, 0, none⟩))) (h6 : w.cell? ⟨d, 6, none⟩ = some (.pointer (some ⟨m, 0, none⟩))) : Calls Tryd.prog 8 #[.pointer (some ⟨d, 0, none⟩)] w fun e w' => e = .returned (.bool false) ∧ w = w' := by
  have HN := Lib.hid (none_any d g w h)
  clear h
  go_enter Tryd.func8, Tryd.ntmps8
  go_wp2_with fail
  refine HN.out.mono ?_
  rintro e w' ⟨rfl, rfl⟩
  go_wp2_with fail
  go_ret
  exact ⟨rfl, rfl⟩

/-- A local block, as a number. -/
def locI (b : Bool) : Int := if b then 1 else 0

theorem local_any (d g c : Nat) (own far : Int) (n i : Nat) (S C : Nat → Int) (L : Nat → Bool) (w : World) (h : w.cell? ⟨d, 0, none⟩ = some (.pointer (some ⟨g, 0, none⟩))) (hG : Grp w g c own far n S (fun k => locI (L k)) C) (hi : i < n) :
    Calls Tryd.prog 46 #[.pointer (some ⟨d, 0, none⟩), .int .i64 (i : Int)] w (RetBool w (L i)) := by
  have hk : Calls Tryd.prog 50 #[.pointer (some ⟨d, 0, none⟩), .int .i64 (i : Int), .int .u8 1] w (RetBool w (L i)) := by
    have HN := Lib.hid (none_any d g w h)
    have ha := at_any g c own far n i S (fun k => locI (L k)) C w hG hi
    obtain ⟨x, hx⟩ : ∃ x, x = L i := ⟨_, rfl⟩
    rw [← hx] at ha ⊢
    clear hx hG
    cases x
    all_goals
      simp only [locI, Bool.false_eq_true, if_false, if_true] at ha
      have HA := Lib.hid ha
      clear ha
      go_enter Tryd.func50, Tryd.ntmps50
      go_wp2_with fail
      refine HN.out.mono ?_
      rintro e w' ⟨rfl, rfl⟩
      go_wp2_with fail
      refine HA.out.mono ?_
      rintro e w1 ⟨rfl, hb⟩
      have HB := Lib.hid hb
      clear hb
      go_wp2_with fail
      go_ret
      exact ⟨rfl, HB.out.alloc HB.out.size _⟩
  have HK := Lib.hid hk
  clear hk h hG
  go_enter Tryd.func46, Tryd.ntmps46
  go_wp2_with fail
  refine HK.out.mono ?_
  rintro e w1 ⟨rfl, hb⟩
  have HB := Lib.hid hb
  clear hb
  go_wp2_with fail
  go_ret
  exact ⟨rfl, HB.out⟩

/-- A new row of bools. -/
def RetRow (w : World) (n : Nat) (F : Nat → Bool) (e : Ending) (w' : World) : Prop := ∃ r, e = .returned (.slice (some ⟨r, 0, none⟩) n n) ∧ Row w' r 4 n (fun k => .bool (F k)) ∧ w.heap.size ≤ r ∧ Below w.heap.size w w'

set_option maxHeartbeats 2000000 in
theorem locals_any (d g c t : Nat) (own far ag age last heard : Int) (op out : Value) (n : Nat) (S C : Nat → Int) (L T : Nat → Bool) (w : World) (h : Dk w d g t n ag age last heard op out T) (hG : Grp w g c own far n S (fun k => locI (L k)) C) (hn : 1 ≤ n ∧ n ≤ 256) :
    Calls Tryd.prog 39 #[.pointer (some ⟨d, 0, none⟩)] w (RetRow w n L) := by
  have hmk := make_n (P := Tryd.prog) 33 4 (.bool false) #[.bool false] 1 1 (by kernel_rfl) (by kernel_rfl) rfl n (by decide) (by omega)
  have l3 := h.l3
  have HL := Lib.hid (fun i (hi : i < n) w' (hb : Below w.heap.size w w') => local_any d g c own far n i S C L w' (h.kept hb).l0 (hG.kept hb) hi)
  have hrow : Row (w.alloc (.cells (madeCells #[.bool false] (n * 1)) 4)) w.heap.size 4 n (fun k => .bool (if k < 0 then L k else false)) :=
    Row.new _ (by simp [madeCells]) (fun j hj => by
      rw [made_get_n _ _ _ (by omega)]
      simp [Nat.mod_one])
  have hb0 := (Below.refl w.heap.size w).alloc (Nat.le_refl _) (.cells (madeCells #[.bool false] (n * 1)) 4)
  simp only [Nat.mul_one] at hrow hb0
  have HR0 := Lib.hid hrow
  have HB0 := Lib.hid hb0
  clear hrow hb0 h hG
  go_enter Tryd.func39, Tryd.ntmps39
  go_wp2_with fail
  clear hmk l3
  go_loopw [13] (fun v13 wr => ∃ k : Nat, k ≤ n ∧ v13 = .int .i64 k ∧ Hid (Row wr w.heap.size 4 n (fun j => .bool (if j < k then L j else false))) ∧ Hid (Below w.heap.size w wr)) (fun v _ => n - (intOf v).toNat)
  case atStart => exact ⟨0, Nat.zero_le _, rfl, HR0, HB0⟩
  case round =>
    obtain ⟨k, hk, rfl, HR, HX⟩ := hrel
    by_cases hkn : k < n
    · have e1 : decide ((k : Int) < (n : Int)) = true := by simp; omega
      have e2 : decide (k < n) = true := by simpa using hkn
      have i0 : (0 : Int) ≤ (k : Int) := by omega
      have i1 : (k : Int) < (n : Int) := by omega
      go_wp2_with fail
      refine (HL.out k hkn wr HX.out).mono ?_
      rintro e w2 ⟨rfl, hb2⟩
      have HX2 := Lib.hid (HX.out.trans (hb2.mono HX.out.size))
      have HR2 := Lib.hid (HR.out.kept hb2)
      have q0 := HR2.out.cell hkn
      have f0 := HR2.out.free k
      clear hb2
      go_wp2_with fail
      go_roundw
      case rel =>
        refine ⟨k + 1, by omega, by simp, Lib.hid ((HR2.out.set hkn _).congr fun j hj => ?_), Lib.hid (HX2.out.setCell (by simp) _)⟩
        by_cases hjk : j = k
        · subst hjk; simp
        · rw [if_neg hjk]
          by_cases hlt : j < k
          · rw [if_pos hlt, if_pos (by omega)]
          · rw [if_neg hlt, if_neg (by omega)]
      case measure => simp [intOf]; omega
    · obtain rfl : n = k := by omega
      have e1 : decide ((n : Int) < (n : Int)) = false := by simp
      have e2 : decide (n < n) = false := by simp
      go_wp2_with fail
      go_ret
      exact ⟨w.heap.size, rfl, HR.out.congr (fun j hj => by rw [if_pos hj]), Nat.le_refl _, HX.out⟩

/-- Are two rows equal? -/
def eqTo (F G : Nat → Bool) : Nat → Bool
  | 0 => true
  | k + 1 => eqTo F G k && (F k == G k)
theorem eqTo_iff (F G : Nat → Bool) : ∀ k, eqTo F G k = true ↔ ∀ i, i < k → F i = G i
  | 0 => ⟨fun _ i hi => absurd hi (by omega), fun _ => rfl⟩
  | k + 1 => by
    unfold eqTo
    rw [Bool.and_eq_true, eqTo_iff F G k]
    constructor
    · rintro ⟨h1, h2⟩ i hi
      rcases Nat.lt_or_eq_of_le (Nat.le_of_lt_succ hi) with h | rfl
      · exact h1 i h
      · simpa using h2
    · intro h
      exact ⟨fun i hi => h i (by omega), by simpa using h k (by omega)⟩
theorem eqTo_less {F G : Nat → Bool} {k n : Nat} (h : k < n) (hk : F k ≠ G k) : eqTo F G n = false := by
  rw [← Bool.not_eq_true, eqTo_iff]
  exact fun h' => hk (h' k h)

set_option maxHeartbeats 1000000 in
theorem equal_any (r s n : Nat) (F G : Nat → Bool) (w : World) (hr : Row w r 4 n (fun k => .bool (F k))) (hs : Row w s 4 n (fun k => .bool (G k))) (hn : n ≤ 256) :
    Calls Tryd.prog 40 #[.slice (some ⟨r, 0, none⟩) n n, .slice (some ⟨s, 0, none⟩) n n] w (RetBool w (eqTo F G n)) := by
  have HR := Lib.hid hr
  have HS := Lib.hid hs
  clear hr hs
  go_enter Tryd.func40, Tryd.ntmps40
  go_wp2_with fail
  go_loopw [13] (fun v13 wr => ∃ k : Nat, k ≤ n ∧ v13 = .int .i64 k ∧ Hid (eqTo F G k = true) ∧ Hid (Below w.heap.size w wr)) (fun v _ => n - (intOf v).toNat)
  case atStart => exact ⟨0, Nat.zero_le _, rfl, Lib.hid rfl, Lib.hid (Below.refl _ _)⟩
  case round =>
    obtain ⟨k, hk, rfl, HE, HX⟩ := hrel
    by_cases hkn : k < n
    · have e1 : decide ((k : Int) < (n : Int)) = true := by simp; omega
      have e2 : decide (k < n) = true := by simpa using hkn
      have i0 : (0 : Int) ≤ (k : Int) := by omega
      have i1 : (k : Int) < (n : Int) := by omega
      have q0 := (HR.out.kept HX.out).cell hkn
      have q1 := (HS.out.kept HX.out).cell hkn
      replace q0 : wr.cell? ⟨r, k, none⟩ = some (.bool (F k)) := q0
      replace q1 : wr.cell? ⟨s, k, none⟩ = some (.bool (G k)) := q1
      by_cases hfg : F k = G k
      · have HFG := Lib.hid hfg
        rw [← hfg] at q1
        obtain ⟨x, hx⟩ : ∃ x, x = F k := ⟨_, rfl⟩
        rw [← hx] at q0 q1
        clear hfg hx
        cases x
        all_goals
          go_wp2_with fail
          go_quiet (fail)
          go_wp2_with fail
          go_roundw
          case rel => exact ⟨k + 1, by omega, by simp, Lib.hid (by unfold eqTo; rw [HE.out, HFG.out]; simp), Lib.hid (Below.drewN' HX.out nq)⟩
          case measure => simp [intOf]; omega
      · have HFG := Lib.hid (eqTo_less hkn hfg)
        obtain ⟨x, hx⟩ : ∃ x, x = F k := ⟨_, rfl⟩
        have hg : G k = !x := by rw [hx]; cases hF : F k <;> cases hG : G k <;> simp_all
        rw [← hx] at q0
        rw [hg] at q1
        clear hfg hx hg
        cases x
        all_goals
          simp only [Bool.not_false, Bool.not_true] at q1
          go_wp2_with fail
          go_quiet (fail)
          go_wp2_with fail
          go_ret
          exact ⟨by rw [HFG.out]; rfl, Below.drewN' HX.out nq⟩
    · obtain rfl : n = k := by omega
      have e1 : decide ((n : Int) < (n : Int)) = false := by simp
      have e2 : decide (n < n) = false := by simp
      go_wp2_with fail
      go_ret
      exact ⟨by rw [HE.out]; rfl, HX.out⟩
end Go.Proofs.YtdjephmkpebnhaaDoor
