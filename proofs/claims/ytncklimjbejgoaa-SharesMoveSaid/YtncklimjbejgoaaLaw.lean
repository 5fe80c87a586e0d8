/- The statement's own functions 'status' and 'place'. -/
import Derived.Test.YtncklimjbejgoaaLivesAll
namespace Go.Proofs.Ytncklimjbejgoaa
open Go.RowKit

theorem law_status (A : Option Addr) (m c i : Nat) (S : Nat → Int) (w : World)
    (hs : Sees w w.heap.size A m (fun k => .int .u8 (S k))) :
    Calls Try.prog 22 #[.slice A m c, .int .i64 (i : Nat)] w fun e w' => e = .returned (.int .u8 (stat m S i)) ∧ w = w' := by
  by_cases h : m ≤ i
  · have hd : decide (m ≤ i) = true := by simpa using h
    go_enter Try.func22, Try.ntmps22
    go_wp2
    go_ret
    exact ⟨by simp [stat, h], rfl⟩
  · have hd : decide (m ≤ i) = false := by simpa using h
    obtain ⟨b, off, rfl, hb, hc0⟩ := hs i (by omega)
    by_cases h2 : 2 < S i
    all_goals
      go_enter Try.func22, Try.ntmps22
      go_wp2
      go_ret
      exact ⟨by unfold stat; rw [if_neg (by omega)]; first | (rw [if_pos (by omega)]; rfl) | (rw [if_neg (by omega)]; rfl), rfl⟩

/-- What the statement's 'place' answers. -/
def lawPlaceOf (n : Nat) (G : Nat → Nat) (U : Nat → Bool) (q : Nat) : Option Nat :=
  if n = 0 then none else if U (G (q % n)) then some (G (q % n))
  else if (pick (fun j => U (G j)) n).length = 0 then none else some (G ((pick (fun j => U (G j)) n).getD (q / n % (pick (fun j => U (G j)) n).length) 0))

theorem lawPlace_eq (n : Nat) (G : Nat → Nat) (U : Nat → Bool) (q : Nat) (hn : 0 < n) (hex : ∃ j, j < n ∧ U (G j) = true) : lawPlaceOf n G U q = some (placeOf n G U q) := by
  obtain ⟨j, hj, hu⟩ := hex
  have hp := pick_pos (fun j => U (G j)) n j hj hu
  unfold lawPlaceOf placeOf
  rw [if_neg (by omega)]
  split
  · rfl
  · rw [if_neg (by omega)]

set_option maxHeartbeats 1000000 in
theorem law_place (A A2 : Option Addr) (n c m c2 : Nat) (G : Nat → Nat) (U : Nat → Bool) (q : Nat) (Q : Int) (hQ : Q = (q : Int)) (w : World) (hn : n ≤ 40) (hq : q < 16)
    (hG : ∀ i, i < n → G i < m)
    (hs : Sees w w.heap.size A n (fun k => .int .i64 (G k : Nat))) (hs2 : Sees w w.heap.size A2 m (fun k => .bool (U k))) :
    Calls Try.prog 11 #[.slice A n c, .slice A2 m c2, .int .i64 Q] w fun e w' => e = .returned (.int .i64 (code (lawPlaceOf n G U q))) ∧ Below w.heap.size w w' := by
  subst hQ
  obtain ⟨i0, hi, hz0, hz1, hz2⟩ := info_parts Try.info3
  have HS := Lib.hid hs
  have HS2 := Lib.hid hs2
  have HG := Lib.hid hG
  clear hs hs2 hG
  by_cases hn0 : n = 0
  · have hb : ((n : Int) == 0) = true := by rw [beq_iff_eq]; omega
    have hres : lawPlaceOf n G U q = none := by unfold lawPlaceOf; rw [if_pos hn0]
    have HR := Lib.hid hres
    clear hres hn0
    go_enter Try.func11, Try.ntmps11
    go_wp2_with fail
    go_ret
    exact ⟨by rw [HR.out]; rfl, Below.refl _ _⟩
  have hb0 : ((n : Int) == 0) = false := by rw [beq_eq_false_iff_ne]; omega
  have hql : q % n < n := Nat.mod_lt _ (by omega)
  obtain ⟨b, off, rfl, hb, hc0⟩ := HS.out (q % n) hql
  obtain ⟨x, hx⟩ : ∃ x, x = G (q % n) := ⟨_, rfl⟩
  have hxm : x < m := by rw [hx]; exact HG.out _ hql
  have hc0' : w.cell? ⟨b, off + q % n, none⟩ = some (.int .i64 (x : Nat)) := by rw [hx]; exact hc0
  obtain ⟨b2, off2, rfl, hb2, hd0⟩ := HS2.out x hxm
  have hd0' : w.cell? ⟨b2, off2 + x, none⟩ = some (.bool (U x)) := hd0
  clear hc0 hd0
  have HX := Lib.hid hx
  clear hx
  cases hu : U x with
  | true =>
    have hres : lawPlaceOf n G U q = some x := by unfold lawPlaceOf; rw [if_neg hn0, ← HX.out, if_pos hu]
    have HR := Lib.hid hres
    clear hres
    rw [hu] at hd0'
    clear hu
    go_enter Try.func11, Try.ntmps11
    go_wp2_with fail
    go_ret
    exact ⟨by rw [HR.out]; rfl, Below.refl _ _⟩
  | false =>
    rw [hu] at hd0'
    have HU := Lib.hid hu
    have HN0 := Lib.hid hn0
    clear hu hn0
    go_enter Try.func11, Try.ntmps11
    go_wp2_with fail
    clear hd0' hc0'
    go_loopw [8, 9] (fun v i wr => ∃ k : Nat, k ≤ n ∧ i = .int .i64 k ∧ wr.ownsRow w.heap.size 3 1 v (pick (fun j => U (G j)) k).length (enc ((pick (fun j => U (G j)) k).map G)) ∧ Below w.heap.size w wr)
      (fun _ i _ => n - (intOf i).toNat)
    case atStart => exact ⟨0, Nat.zero_le _, rfl, World.ownsRow_nil _ _ _ _, Below.refl _ _⟩
    case round =>
      obtain ⟨k, hk, rfl, hown, hnx⟩ := hrel
      have hpl := pick_le (fun j => U (G j)) k
      by_cases hlt : k < n
      · have hc1 : wr.cell? ⟨b, off + k, none⟩ = some (.int .i64 (G k : Nat)) := (hnx.cell (p := ⟨b, off + k, none⟩) hb).trans (HS.out.cell hlt)
        have hgk := HG.out k hlt
        have hd1 : wr.cell? ⟨b2, off2 + G k, none⟩ = some (.bool (U (G k))) := (hnx.cell (p := ⟨b2, off2 + G k, none⟩) hb2).trans (HS2.out.cell hgk)
        cases hu : U (G k) with
        | true =>
          rw [hu] at hd1
          have hps : pick (fun j => U (G j)) (k + 1) = pick (fun j => U (G j)) k ++ [k] := by rw [pick_succ, if_pos hu]
          have HPS := Lib.hid hps
          clear hps hu
          go_wp2_with (first
            | (at_builtin; refine wpList_push _ rfl _ _ 31 rfl w.heap.size 3 i0 (.int .i64 0) 8 Try.underlying31 hi hz0 hz1 hz2 rfl _ _ _ rfl hown (.int .i64 (G k : Nat)) rfl rfl (by omega) (by omega) hnx.size ?_; intro v' w2 hown2 hbel2))
          clear hown
          go_roundw
          case rel => exact ⟨k + 1, by omega, by go_num, by rw [HPS.out, List.map_append, List.map_singleton, enc_snoc, List.length_append]; exact hown2, hnx.trans hbel2⟩
          case measure => simp [intOf]; omega
        | false =>
          rw [hu] at hd1
          have hps : pick (fun j => U (G j)) (k + 1) = pick (fun j => U (G j)) k := by rw [pick_succ, if_neg (by simp [hu])]
          have HPS := Lib.hid hps
          clear hps hu
          go_wp2_with fail
          go_roundw
          case rel => exact ⟨k + 1, by omega, by go_num, by rw [HPS.out]; exact hown, hnx⟩
          case measure => simp [intOf]; omega
      · obtain rfl : k = n := by omega
        obtain ⟨l, hl⟩ : ∃ l, l = pick (fun j => U (G j)) k := ⟨_, rfl⟩
        rw [← hl] at hown
        have hll : l.length ≤ 40 := by rw [hl]; omega
        obtain ⟨A', c', rfl, hle, hm', hsee⟩ := sees_of_own hown
        have HSEE := Lib.hid hsee
        have HL := Lib.hid hl
        clear hl hsee hown hpl
        by_cases hl0 : l.length = 0
        · have hlb : ((l.length : Int) == 0) = true := by rw [beq_iff_eq]; omega
          have hres : lawPlaceOf k G U q = none := by unfold lawPlaceOf; rw [if_neg HN0.out, ← HX.out, if_neg (by simp [HU.out]), ← HL.out, if_pos hl0]
          have HR := Lib.hid hres
          clear hres hl0
          go_wp2_with fail
          go_ret
          exact ⟨by rw [HR.out]; rfl, hnx⟩
        · have hlb : ((l.length : Int) == 0) = false := by rw [beq_eq_false_iff_ne]; omega
          have hd0 : 0 ≤ (q : Int) / (k : Int) := Int.ediv_nonneg (by omega) (by omega)
          have hd1 : (q : Int) / (k : Int) ≤ 15 := Int.le_trans (Int.ediv_le_self _ (by omega)) (by omega)
          have hr0 : 0 ≤ (q : Int) / (k : Int) % (l.length : Int) := Int.emod_nonneg _ (by omega)
          have hr1 : (q : Int) / (k : Int) % (l.length : Int) < (l.length : Int) := Int.emod_lt_of_pos _ (by omega)
          have hx2 : q / k % l.length < l.length := Nat.mod_lt _ (by omega)
          obtain ⟨b3, off3, rfl, hb3, he0⟩ := HSEE.out (q / k % l.length) hx2
          obtain ⟨y, hy⟩ : ∃ y, y = G (l.getD (q / k % l.length) 0) := ⟨_, rfl⟩
          have he1 : wr.cell? ⟨b3, off3 + q / k % l.length, none⟩ = some (.int .i64 (y : Nat)) := by
            rw [he0]
            show some ((enc (l.map G)).getD (q / k % l.length) (.bool false)) = _
            rw [enc_getD _ _ (by simpa using hx2), hy]
            simp [List.getD_eq_getElem?_getD, hx2]
          have hres : lawPlaceOf k G U q = some y := by unfold lawPlaceOf; rw [if_neg HN0.out, ← HX.out, if_neg (by simp [HU.out]), ← HL.out, if_neg hl0, hy]
          have HR := Lib.hid hres
          clear hres he0 hy hl0
          go_wp2_with fail
          go_ret
          exact ⟨by rw [HR.out]; rfl, hnx⟩
end Go.Proofs.Ytncklimjbejgoaa
