/- The law FlowsPair: the walk. -/
import Derived.Test.YtbcalbkficbppaaPairLaw
namespace Go.Proofs.Ytbcalbkficbppaa
open Go.RowKit

theorem bcell {W w1 : World} (hb : Below W.heap.size W w1) : (∀ b o, b < W.heap.size → w1.cell? ⟨b, o, none⟩ = W.cell? ⟨b, o, none⟩) ∧ (∀ b o, b < W.heap.size → w1.frozen? ⟨b, o, none⟩ = W.frozen? ⟨b, o, none⟩) :=
  ⟨fun b o h => hb.cell (p := ⟨b, o, none⟩) h, fun b o h => hb.frozen (p := ⟨b, o, none⟩) h⟩

def TwoLeft (wc wx : World) (ga gb : Nat) (ag mo wa ag2 mo2 : Int) : Prop := ∃ wb, Lit0 wx ga 25 #[.int .i64 ag, .int .i64 mo, .int .i64 wa] ∧ Lit0 wx gb 25 #[.int .i64 ag2, .int .i64 mo2, .int .i64 wb] ∧ (ag + 1 ≤ wb ∧ wb ≤ 21) ∧ wc.grownBy wx (some gb)

theorem hb0g {w wc wx : World} {g : Nat} (h : Below w.heap.size w wc) (hg : wc.grownBy wx (some g)) (hl : w.heap.size ≤ g) : Below w.heap.size w wx := h.trans (below_grown hg hl h.size)

theorem lit_new (w : World) {g : Nat} (t : TypeId) {cs : Array Value} (hg : g = w.heap.size) : Lit0 (w.alloc (.cells cs t)) g t cs := by
  subst hg
  exact Lit0.new w t cs
theorem lit_set3 {w : World} {g : Nat} {t : TypeId} {a' b' c' : Value} (h : Lit0 w g t #[.int .i64 0, .int .i64 0, .int .i64 0]) : Lit0 (((w.setCell ⟨g, 0, none⟩ a').setCell ⟨g, 1, none⟩ b').setCell ⟨g, 2, none⟩ c') g t #[a', b', c'] := ((h.set 0 a').set 1 b').set 2 c'
theorem lit_far {w : World} {g b j : Nat} {t : TypeId} {cs : Array Value} (h : Lit0 w g t cs) (hp : g ≠ b) (u : Value) : Lit0 (w.setCell ⟨b, j, none⟩ u) g t cs := h.far hp u
theorem below_set {B : Nat} {a w : World} {b j : Nat} (h : Below B a w) (hp : B ≤ b) (u : Value) : Below B a (w.setCell ⟨b, j, none⟩ u) := h.setCell hp u
def TwoTimes (w0 wx : World) (v7 v8 : Value) (c d : Array Value) : Prop := ∃ ga gb, v7 = .pointer (some ⟨ga, 0, none⟩) ∧ v8 = .pointer (some ⟨gb, 0, none⟩) ∧ Lit0 wx ga 25 c ∧ Lit0 wx gb 25 d ∧ ga ≠ gb ∧ w0.heap.size ≤ gb ∧ Below w0.heap.size w0 wx

abbrev PairS (p : Nat) (v0 v1 v2 u0 u1 u2 : Value) (w0 w : World) : Prop := w.cell? ⟨p, 0, none⟩ = some v0 ∧ w.cell? ⟨p, 1, none⟩ = some v1 ∧ w.cell? ⟨p, 2, none⟩ = some v2 ∧ w.cell? ⟨p + 1, 0, none⟩ = some u0 ∧ w.cell? ⟨p + 1, 1, none⟩ = some u1 ∧ w.cell? ⟨p + 1, 2, none⟩ = some u2 ∧ Below w0.heap.size w0 w

theorem pair_keep {p : Nat} {v0 v1 v2 u0 u1 u2 : Value} {w0 w w' : World} (h1 : p + 1 < w0.heap.size) (h : PairS p v0 v1 v2 u0 u1 u2 w0 w) (hb : Below w.heap.size w w') : PairS p v0 v1 v2 u0 u1 u2 w0 w' := by
  obtain ⟨a0, a1, a2, b0, b1, b2, hw⟩ := h
  have hs := hw.size
  exact ⟨(hb.cell (by simp only; omega)).trans a0, (hb.cell (by simp only; omega)).trans a1, (hb.cell (by simp only; omega)).trans a2, (hb.cell (by simp only; omega)).trans b0, (hb.cell (by simp only; omega)).trans b1, (hb.cell (by simp only; omega)).trans b2, hw.trans (hb.mono hs)⟩
theorem pair_alloc {p : Nat} {v0 v1 v2 u0 u1 u2 : Value} {w0 w : World} (h1 : p + 1 < w0.heap.size) (h : PairS p v0 v1 v2 u0 u1 u2 w0 w) (o : Obj) : PairS p v0 v1 v2 u0 u1 u2 w0 (w.alloc o) :=
  pair_keep h1 h ((Below.refl _ w).alloc (Nat.le_refl _) o)

theorem drew_size (w : World) : w.drew.heap.size = w.heap.size := rfl
theorem drew_cell (w : World) (p : Addr) : w.drew.cell? p = w.cell? p := rfl
theorem drew_frozen (w : World) (p : Addr) : w.drew.frozen? p = w.frozen? p := rfl
theorem pair_drew {p : Nat} {v0 v1 v2 u0 u1 u2 : Value} {w0 w : World} (h : PairS p v0 v1 v2 u0 u1 u2 w0 w) : PairS p v0 v1 v2 u0 u1 u2 w0 w.drew := ⟨h.1, h.2.1, h.2.2.1, h.2.2.2.1, h.2.2.2.2.1, h.2.2.2.2.2.1, h.2.2.2.2.2.2.drew⟩
theorem pair_set {p b j : Nat} {v0 v1 v2 u0 u1 u2 : Value} {w0 w : World} (h1 : p + 1 < w0.heap.size) (hb : w0.heap.size ≤ b) (h : PairS p v0 v1 v2 u0 u1 u2 w0 w) (u : Value) : PairS p v0 v1 v2 u0 u1 u2 w0 (w.setCell ⟨b, j, none⟩ u) := by
  obtain ⟨a0, a1, a2, b0, b1, b2, hw⟩ := h
  have hn : ∀ q o v, q < w0.heap.size → w.cell? ⟨q, o, none⟩ = some v → (w.setCell ⟨b, j, none⟩ u).cell? ⟨q, o, none⟩ = some v := fun q o v hq hv => by
    rw [← hv]
    exact (Below.cell (B := w0.heap.size) (p := ⟨q, o, none⟩) ((Below.refl _ w).setCell (by exact hb) u) hq)
  exact ⟨hn _ _ _ (by omega) a0, hn _ _ _ (by omega) a1, hn _ _ _ (by omega) a2, hn _ _ _ h1 b0, hn _ _ _ h1 b1, hn _ _ _ h1 b2, hw.setCell (by exact hb) u⟩

set_option maxRecDepth 100000 in
set_option maxHeartbeats 4000000 in
theorem pair_law (x y z x2 y2 z2 nn : Int) (w : World) (hx : 0 ≤ x ∧ x ≤ 255) (hy : 0 ≤ y ∧ y ≤ 255) (hz : 0 ≤ z ∧ z ≤ 255) (hx2 : 0 ≤ x2 ∧ x2 ≤ 255) (hy2 : 0 ≤ y2 ∧ y2 ≤ 255) (hz2 : 0 ≤ z2 ∧ z2 ≤ 255) (hnn : 0 ≤ nn ∧ nn ≤ 255) :
    Calls Try.prog 4 #[.agg #[.int .u8 x, .int .u8 y, .int .u8 z], .agg #[.int .u8 x2, .int .u8 y2, .int .u8 z2], .int .u8 nn] w (RetBool w true) := by
  obtain ⟨ag, hag⟩ : ∃ a, a = 1 + x % 20 := ⟨_, rfl⟩
  obtain ⟨mo, hmo⟩ : ∃ a, a = 1 + y % 20 := ⟨_, rfl⟩
  obtain ⟨wa, hwa⟩ : ∃ a, a = 1 + z % 20 := ⟨_, rfl⟩
  obtain ⟨ag2, hag2⟩ : ∃ a, a = 1 + x2 % 20 := ⟨_, rfl⟩
  obtain ⟨mo2, hmo2⟩ : ∃ a, a = 1 + y2 % 20 := ⟨_, rfl⟩
  obtain ⟨wa2, hwa2⟩ : ∃ a, a = 1 + z2 % 20 := ⟨_, rfl⟩
  have br : (1 ≤ ag ∧ ag ≤ 20) ∧ (1 ≤ mo ∧ mo ≤ 20) ∧ 1 ≤ wa ∧ wa ≤ 20 := by omega
  have br2 : (1 ≤ ag2 ∧ ag2 ≤ 20) ∧ (1 ≤ mo2 ∧ mo2 ≤ 20) ∧ 1 ≤ wa2 ∧ wa2 ≤ 20 := by omega
  have hof := fun w' => of_any x y z w' hx hy hz
  have hof2 := fun w' => of_any x2 y2 z2 w' hx2 hy2 hz2
  rw [← hag, ← hmo, ← hwa] at hof
  rw [← hag2, ← hmo2, ← hwa2] at hof2
  have HOF := Lib.hid hof
  have HOF2 := Lib.hid hof2
  have h01 := (Below.refl _ w).alloc (Nat.le_refl _) (.cells #[.int .u8 x, .int .u8 y, .int .u8 z] 23)
  have h02 := h01.alloc h01.size (.cells #[.int .u8 x2, .int .u8 y2, .int .u8 z2] 23)
  have la := (Lit0.new w 23 #[.int .u8 x, .int .u8 y, .int .u8 z]).alloc (.cells #[.int .u8 x2, .int .u8 y2, .int .u8 z2] 23)
  have lb := Lit0.new (w.alloc (.cells #[.int .u8 x, .int .u8 y, .int .u8 z] 23)) 23 #[.int .u8 x2, .int .u8 y2, .int .u8 z2]
  simp only [World.size_alloc] at lb
  have HB := Lib.hid h02
  have LA := Lib.hid la
  have LB := Lib.hid lb
  clear hof hof2 hag hmo hwa hag2 hmo2 hwa2 hx hy hz hx2 hy2 hz2 h01 h02 la lb
  go_enter Try.func4, Try.ntmps4
  go_wp2_with fail
  generalize ((w.alloc (.cells #[.int .u8 x, .int .u8 y, .int .u8 z] 23)).alloc (.cells #[.int .u8 x2, .int .u8 y2, .int .u8 z2] 23)) = w0 at HB LA LB ⊢
  have a0 := LA.out.cell 0
  have a1 := LA.out.cell 1
  have a2 := LA.out.cell 2
  have b0 := LB.out.cell 0
  have b1 := LB.out.cell 1
  have b2 := LB.out.cell 2
  simp only [List.getElem?_toArray, List.getElem?_cons_zero, List.getElem?_cons_succ] at a0 a1 a2 b0 b1 b2
  have hs1 := LB.out.lt
  have sd : PairS w.heap.size (.int .u8 x) (.int .u8 y) (.int .u8 z) (.int .u8 x2) (.int .u8 y2) (.int .u8 z2) w0 w0.drew := ⟨a0, a1, a2, b0, b1, b2, Below.drew (Below.refl _ _)⟩
  have sz : PairS w.heap.size (.int .u8 x) (.int .u8 y) (.int .u8 z) (.int .u8 x2) (.int .u8 y2) (.int .u8 z2) w0 w0 := ⟨a0, a1, a2, b0, b1, b2, Below.refl _ _⟩
  clear a0 a1 a2 b0 b1 b2
  go_cut [7, 8] from 20 to 23 (fun v7 v8 wx => TwoTimes w0 wx v7 v8 #[.int .i64 ag, .int .i64 mo, .int .i64 wa] #[.int .i64 ag2, .int .i64 mo2, .int .i64 wa2])
  case first =>
    go_region_held3 (fun w' => w'.cell? ⟨w.heap.size, 0, none⟩ = some (.int .u8 x) ∧ w'.cell? ⟨w.heap.size, 1, none⟩ = some (.int .u8 y) ∧ w'.cell? ⟨w.heap.size, 2, none⟩ = some (.int .u8 z) ∧ w'.cell? ⟨w.heap.size + 1, 0, none⟩ = some (.int .u8 x2) ∧ w'.cell? ⟨w.heap.size + 1, 1, none⟩ = some (.int .u8 y2) ∧ w'.cell? ⟨w.heap.size + 1, 2, none⟩ = some (.int .u8 z2) ∧ Below w0.heap.size w0 w')
      (first | with_reducible assumption | with_reducible exact sd | ((repeat (first | with_reducible exact s6 | with_reducible exact s5 | with_reducible exact sz | (with_reducible refine pair_drew ?_) | (with_reducible refine pair_alloc hs1 ?_ _) | (with_reducible refine pair_set hs1 ?_ ?_ _) | omega)); done))
      (first | (go_at_call 10; (with_reducible refine (HOF.out _).mono ?_); rintro e w5 ⟨rfl, hb5⟩; have s5 : PairS w.heap.size (.int .u8 x) (.int .u8 y) (.int .u8 z) (.int .u8 x2) (.int .u8 y2) (.int .u8 z2) w0 w5 := pair_keep hs1 (by assumption) hb5; obtain ⟨hc5, hf5⟩ := bcell hb5; (try simp only [drew_size, drew_cell, drew_frozen, World.size_alloc] at hc5 hf5); have hz5 := s5.2.2.2.2.2.2.size; (try (have lhb50 : w0.heap.size < w5.heap.size := by have := hb5.size; (try simp only [drew_size, World.size_alloc] at this); omega)); (try (have nhb50 : ¬ w0.heap.size = w5.heap.size := by have := hb5.size; (try simp only [drew_size, World.size_alloc] at this); omega)); (try (have mhb50 : ¬ w5.heap.size = w0.heap.size := by have := hb5.size; (try simp only [drew_size, World.size_alloc] at this); omega)); (try (have lhb51 : w0.heap.size + 1 < w5.heap.size := by have := hb5.size; (try simp only [drew_size, World.size_alloc] at this); omega)); (try (have nhb51 : ¬ w0.heap.size + 1 = w5.heap.size := by have := hb5.size; (try simp only [drew_size, World.size_alloc] at this); omega)); (try (have mhb51 : ¬ w5.heap.size = w0.heap.size + 1 := by have := hb5.size; (try simp only [drew_size, World.size_alloc] at this); omega))) | (go_at_call 10; (with_reducible refine (HOF2.out _).mono ?_); rintro e w6 ⟨rfl, hb6⟩; have s6 : PairS w.heap.size (.int .u8 x) (.int .u8 y) (.int .u8 z) (.int .u8 x2) (.int .u8 y2) (.int .u8 z2) w0 w6 := pair_keep hs1 (by assumption) hb6; obtain ⟨hc6, hf6⟩ := bcell hb6; (try simp only [World.size_alloc] at hc6 hf6); have hz6 := s6.2.2.2.2.2.2.size; (try (have lhb60 : w0.heap.size < w6.heap.size := by have := hb6.size; (try simp only [World.size_alloc] at this); omega)); (try (have nhb60 : ¬ w0.heap.size = w6.heap.size := by have := hb6.size; (try simp only [World.size_alloc] at this); omega)); (try (have mhb60 : ¬ w6.heap.size = w0.heap.size := by have := hb6.size; (try simp only [World.size_alloc] at this); omega)); (try (have lhb61 : w0.heap.size + 1 < w6.heap.size := by have := hb6.size; (try simp only [World.size_alloc] at this); omega)); (try (have nhb61 : ¬ w0.heap.size + 1 = w6.heap.size := by have := hb6.size; (try simp only [World.size_alloc] at this); omega)); (try (have mhb61 : ¬ w6.heap.size = w0.heap.size + 1 := by have := hb6.size; (try simp only [World.size_alloc] at this); omega)); (try (have lhb62 : w5.heap.size < w6.heap.size := by have := hb6.size; (try simp only [World.size_alloc] at this); omega)); (try (have nhb62 : ¬ w5.heap.size = w6.heap.size := by have := hb6.size; (try simp only [World.size_alloc] at this); omega)); (try (have mhb62 : ¬ w6.heap.size = w5.heap.size := by have := hb6.size; (try simp only [World.size_alloc] at this); omega)); (try (have lhb63 : w5.heap.size + 1 < w6.heap.size := by have := hb6.size; (try simp only [World.size_alloc] at this); omega)); (try (have nhb63 : ¬ w5.heap.size + 1 = w6.heap.size := by have := hb6.size; (try simp only [World.size_alloc] at this); omega)); (try (have mhb63 : ¬ w6.heap.size = w5.heap.size + 1 := by have := hb6.size; (try simp only [World.size_alloc] at this); omega))))
    all_goals
      (try have hw5 := s5.2.2.2.2.2.2)
      (try have hw6 := s6.2.2.2.2.2.2)
      go_wp2_with fail
      go_meet
      refine ⟨_, _, rfl, rfl, ?_, ?_, by omega, by omega, ?_⟩
      · repeat (first | (with_reducible exact lit_new _ _ (by first | rfl | (simp only [World.size_alloc, World.size_setCell]; done) | (simp only [World.size_alloc]; omega))) | (with_reducible refine lit_set3 ?_) | (with_reducible refine lit_far ?_ (by omega) _) | (with_reducible refine Lit0.alloc ?_ _) | (with_reducible refine Lit0.drew ?_) | (with_reducible refine Lit0.kept ?_ hb6) | (with_reducible refine Lit0.kept ?_ hb5))
      · repeat (first | (with_reducible exact lit_new _ _ (by first | rfl | (simp only [World.size_alloc, World.size_setCell]; done) | (simp only [World.size_alloc]; omega))) | (with_reducible refine lit_set3 ?_) | (with_reducible refine lit_far ?_ (by omega) _) | (with_reducible refine Lit0.alloc ?_ _) | (with_reducible refine Lit0.drew ?_) | (with_reducible refine Lit0.kept ?_ hb6) | (with_reducible refine Lit0.kept ?_ hb5))
      · repeat (first | (with_reducible exact hw6) | (with_reducible exact hw5) | (with_reducible refine Below.alloc ?_ (by first | omega | (simp only [World.size_alloc, World.size_setCell]; omega)) _) | (with_reducible refine below_set ?_ (by omega) _) | (with_reducible refine Below.drew ?_))
  case rest =>
    obtain ⟨ga, gb, rfl, rfl, la, lb, hne, hgb, hb0⟩ := hcut
    have HGB := Lib.hid (Nat.le_trans HB.out.size hgb)
    have HB0 := Lib.hid (HB.out.trans (hb0.mono HB.out.size))
    have HLA := Lib.hid la
    have HLB := Lib.hid lb
    have HNE := Lib.hid hne
    have BR := Lib.hid br
    have BR2 := Lib.hid br2
    have p0 := la.cell 0
    have q2 := lb.cell 2
    have q2f := lb.free 2
    simp only [List.getElem?_toArray, List.getElem?_cons_zero, List.getElem?_cons_succ] at p0 q2
    clear la lb hne hb0 HB LA LB HOF HOF2 sd sz hs1
    go_upto_region 2 with fail
    go_cut [7] from 24 to 30 (fun v7 wx => v7 = .pointer (some ⟨ga, 0, none⟩) ∧ TwoLeft wc wx ga gb ag mo wa ag2 mo2)
    case first =>
      by_cases hm : wa2 < ag + 1
      · have dm : decide (wa2 < ag + 1) = true := by simpa using hm
        have dm2 : decide (ag + 1 ≤ wa2) = false := by simp; omega
        go_wp2_with fail
        go_meet
        exact ⟨rfl, ag + 1, HLA.out.far (by simpa using HNE.out) _, HLB.out.set 2 _, by omega, grown_one _ _ _ _⟩
      · have dm : decide (wa2 < ag + 1) = false := by simpa using hm
        have dm2 : decide (ag + 1 ≤ wa2) = true := by simp; omega
        go_wp2_with fail
        go_meet
        exact ⟨rfl, wa2, HLA.out.far (by simpa using HNE.out) _, HLB.out.set 2 _, by omega, grown_one _ _ _ _⟩
    case rest =>
      obtain ⟨rfl, wb, la, lb, hwb, hg0⟩ := hcut
      have HBE := Lib.hid (hb0g HB0.out hg0 HGB.out)
      have p0 := la.cell 0
      have p1 := la.cell 1
      have p2 := la.cell 2
      simp only [List.getElem?_toArray, List.getElem?_cons_zero, List.getElem?_cons_succ] at p0 p1 p2
      have HLB2 := Lib.hid lb
      have HWB := Lib.hid hwb
      clear la lb hwb hg0 q2 q2f HLA HLB HB0
      go_wp2_with fail
      refine (new_good ag mo wa wc (by have := BR.out; unfold okT; simp; omega)).mono ?_
      rintro e w3 ⟨g1, rfl, hg1, hf1, hb3⟩
      have F1 := Lib.hid (show Fl w3 g1 (busyS ag mo wa false 0) from hf1)
      have LB3 := Lib.hid (HLB2.out.kept hb3)
      have B3 := Lib.hid (HBE.out.trans (hb3.mono HBE.out.size))
      have G1 := Lib.hid (Nat.le_trans HBE.out.size hg1)
      have N1 : Hid (gb ≠ g1) := Lib.hid (by have := HLB2.out.lt; omega)
      have q0 := LB3.out.cell 0
      have q1 := LB3.out.cell 1
      have q2 := LB3.out.cell 2
      simp only [List.getElem?_toArray, List.getElem?_cons_zero, List.getElem?_cons_succ] at q0 q1 q2
      clear hf1 hb3 hg1 p0 p1 p2 HBE HLB2
      go_wp2_with fail
      refine (new_good ag2 mo2 wb w3 (by have := BR2.out; have := HWB.out; unfold okT; simp; omega)).mono ?_
      rintro e w4 ⟨g2, rfl, hg2, hf2, hb4⟩
      have F2 := Lib.hid hf2
      have F14 := Lib.hid (F1.out.kept hb4)
      have LB4 := Lib.hid (LB3.out.kept hb4)
      have B4 := Lib.hid (B3.out.trans (hb4.mono B3.out.size))
      have G2 := Lib.hid (Nat.le_trans B3.out.size hg2)
      have N2 : Hid (gb ≠ g2) := Lib.hid (by have := LB3.out.lt; omega)
      have N12 : Hid (g1 ≠ g2) := Lib.hid (by have := F1.out.lt; omega)
      clear hf2 hb4 hg2 q0 q1 q2 F1 LB3 B3
      go_wp2_with fail
      refine (busy_congest ag mo wa false 0 g1 w4 F14.out (busy_ok ag mo wa false 0 BR.out (by have := BR.out; omega))).mono ?_
      rintro e w5 ⟨rfl, hf5, hg5⟩
      have F15 := Lib.hid (show Fl w5 g1 (busyS ag mo wa true 0) from hf5)
      have F25 := Lib.hid (F2.out.grown hg5 (by simpa using Ne.symm N12.out))
      have LB5 := Lib.hid (LB4.out.grown hg5 (by simpa using N1.out))
      have B5 := Lib.hid (hb0g B4.out hg5 G1.out)
      clear hf5 hg5 F14 F2 LB4 B4
      go_wp2_with fail
      refine (pair_start ag mo2 wb ag2 (by have := BR.out; have := BR2.out; have := HWB.out; omega) g2 w5 F25.out).mono ?_
      rintro e w6 ⟨rfl, s6, hf6, hg6, hpb⟩
      have F16 := Lib.hid (F15.out.grown hg6 (by simpa using N12.out))
      have F26 := Lib.hid hf6
      have LB6 := Lib.hid (LB5.out.grown hg6 (by simpa using N2.out))
      have B6 := Lib.hid (hb0g B5.out hg6 G2.out)
      have PB6 := Lib.hid hpb
      clear hf6 hg6 hpb F15 F25 LB5 B5
      go_wp2_with fail
      go_loopw [14] (fun v14 wr => ∃ (k : Nat) (s : Fs), (k : Int) ≤ nn % 41 ∧ v14 = .int .i64 k ∧ Hid (Fl wr g1 (busyS ag mo wa true ((k : Int) % ag))) ∧ Hid (Fl wr g2 s) ∧ Hid (PB ag mo2 wb k s) ∧ Hid (Lit0 wr gb 25 #[.int .i64 ag2, .int .i64 mo2, .int .i64 wb]) ∧ Hid (Below w.heap.size w wr)) (fun v _ => (nn % 41).toNat - (intOf v).toNat)
      case atStart => exact ⟨0, s6, by omega, rfl, Lib.hid (by simpa using F16.out), F26, PB6, LB6, B6⟩
      case round =>
        obtain ⟨k, s, hk, rfl, F1r, F2r, PBr, LBr, Br⟩ := hrel
        clear F16 F26 PB6 LB6 B6
        by_cases hkn : (k : Int) < nn % 41
        · have dk : decide ((k : Int) < nn % 41) = true := by simpa using hkn
          have HKM := Lib.hid (mod_range ag k BR.out.1.1)
          have HTK := fun w hf => busy_tick ag mo wa true ((k : Int) % ag) g1 w hf (busy_ok ag mo wa true _ BR.out HKM.out)
          rw [next_mod ag k BR.out.1.1] at HTK
          have HTA := Lib.hid HTK
          clear HTK
          have hsd := sends_any g1 (busyS ag mo wa true ((k : Int) % ag)) wr F1r.out BR.out.1.1
          by_cases hz0 : (k : Int) % ag = 0
          · have et : (busyS ag mo wa true ((k : Int) % ag)).told = .tuple #[.int .u8 5, .bool true] := by unfold Fs.told Fs.sends busyS; simp [hz0]
            rw [et] at hsd
            have HSD := Lib.hid hsd
            have HZ := Lib.hid hz0
            clear et hsd hz0
            go_wp2_with fail
            refine HSD.out.mono ?_
            rintro e w7 ⟨rfl, rfl⟩
            go_wp2_with fail
            refine (PBr.out.hear F2r.out HZ.out).mono ?_
            rintro e w7 ⟨n7, s7, rfl, hf7, hg7, hpm⟩
            have F17 := Lib.hid (F1r.out.grown hg7 (by simpa using N12.out))
            have F27 := Lib.hid hf7
            have LB7 := Lib.hid (LBr.out.grown hg7 (by simpa using N2.out))
            have B7 := Lib.hid (hb0g Br.out hg7 G2.out)
            have PM7 := Lib.hid hpm
            clear hf7 hg7 hpm F1r F2r LBr Br PBr HSD
            go_wp2_with fail
            refine (HTA.out _ F17.out).mono ?_
            rintro e w8 ⟨rfl, hf8, hg8⟩
            have F18 := Lib.hid hf8
            have F28 := Lib.hid (F27.out.grown hg8 (by simpa using Ne.symm N12.out))
            have LB8 := Lib.hid (LB7.out.grown hg8 (by simpa using N1.out))
            have B8 := Lib.hid (hb0g B7.out hg8 G1.out)
            clear hf8 hg8 F17 F27 LB7 B7
            go_wp2_with fail
            refine (PM7.out.ticks F28.out BR.out.1.1 HWB.out.1).mono ?_
            rintro e w9 ⟨n9, s9, rfl, hf9, hg9, hpb9⟩
            have F19 := Lib.hid (F18.out.grown hg9 (by simpa using N12.out))
            have F29 := Lib.hid hf9
            have LB9 := Lib.hid (LB8.out.grown hg9 (by simpa using N2.out))
            have B9 := Lib.hid (hb0g B8.out hg9 G2.out)
            have PB9 := Lib.hid hpb9
            clear hf9 hg9 hpb9 F18 F28 LB8 B8 PM7 HTA
            go_wp2_with fail
            go_roundw
            case rel => exact ⟨k + 1, s9, by omega, by simp, F19, F29, PB9, LB9, B9⟩
            case measure => simp [intOf]; omega
          · have et : (busyS ag mo wa true ((k : Int) % ag)).told = .tuple #[.int .u8 0, .bool false] := by unfold Fs.told Fs.sends busyS; simp [hz0]
            rw [et] at hsd
            have HSD := Lib.hid hsd
            have PM7 := Lib.hid (PBr.out.calm hz0)
            clear et hsd hz0 PBr
            go_wp2_with fail
            refine HSD.out.mono ?_
            rintro e w7 ⟨rfl, rfl⟩
            go_wp2_with fail
            refine (HTA.out _ F1r.out).mono ?_
            rintro e w8 ⟨rfl, hf8, hg8⟩
            have F18 := Lib.hid hf8
            have F28 := Lib.hid (F2r.out.grown hg8 (by simpa using Ne.symm N12.out))
            have LB8 := Lib.hid (LBr.out.grown hg8 (by simpa using N1.out))
            have B8 := Lib.hid (hb0g Br.out hg8 G1.out)
            clear hf8 hg8 F1r F2r LBr Br HSD
            go_wp2_with fail
            refine (PM7.out.ticks F28.out BR.out.1.1 HWB.out.1).mono ?_
            rintro e w9 ⟨n9, s9, rfl, hf9, hg9, hpb9⟩
            have F19 := Lib.hid (F18.out.grown hg9 (by simpa using N12.out))
            have F29 := Lib.hid hf9
            have LB9 := Lib.hid (LB8.out.grown hg9 (by simpa using N2.out))
            have B9 := Lib.hid (hb0g B8.out hg9 G2.out)
            have PB9 := Lib.hid hpb9
            clear hf9 hg9 hpb9 F18 F28 LB8 B8 PM7 HTA
            go_wp2_with fail
            go_roundw
            case rel => exact ⟨k + 1, s9, by omega, by simp, F19, F29, PB9, LB9, B9⟩
            case measure => simp [intOf]; omega
        · have dk : decide ((k : Int) < nn % 41) = false := by simpa using hkn
          go_wp2_with fail
          refine (busy_calm ag mo wa true _ g1 wr F1r.out (busy_ok ag mo wa true _ BR.out (mod_range ag k BR.out.1.1))).mono ?_
          rintro e w7 ⟨rfl, hf7, hg7⟩
          have F17 := Lib.hid hf7
          have F27 := Lib.hid (F2r.out.grown hg7 (by simpa using Ne.symm N12.out))
          have LB7 := Lib.hid (LBr.out.grown hg7 (by simpa using N1.out))
          have B7 := Lib.hid (hb0g Br.out hg7 G1.out)
          clear hf7 hg7 F1r F2r LBr Br
          go_wp2_with fail
          refine (show Calls Try.prog 20 #[.pointer (some ⟨g1, 0, none⟩)] w7 (fun e w' => e = .returned (.tuple #[.bool false, .bool false]) ∧ Below w7.heap.size w7 w') from held_any g1 _ w7 F17.out).mono ?_
          rintro e w8 ⟨rfl, hb8⟩
          have F18 := Lib.hid (F17.out.kept hb8)
          have F28 := Lib.hid (F27.out.kept hb8)
          have LB8 := Lib.hid (LB7.out.kept hb8)
          have B8 := Lib.hid (B7.out.trans (hb8.mono B7.out.size))
          clear hb8 F17 F27 LB7 B7
          have l1 := LB8.out.cell 1
          simp only [List.getElem?_toArray, List.getElem?_cons_zero, List.getElem?_cons_succ] at l1
          have hkn' : (k : Int) = nn % 41 := by omega
          have hfd := PBr.out.fails
          have HKN := Lib.hid hkn'
          rw [hkn'] at hfd
          obtain ⟨D, hD⟩ : ∃ D, D = decide (mo2 ≤ nn % 41) := ⟨_, rfl⟩
          rw [← hD] at hfd
          have QB := Lib.hid (fun (m : Nat) => quiet_left (n := m) (show Calls Try.prog 15 #[.pointer (some ⟨g2, 0, none⟩)] (w8.drewN m) (fun e w' => e = .returned (.bool D) ∧ w8.drewN m = w') from by rw [← hfd]; exact failed_any g2 _ (w8.drewN m) (F28.out.drewN m)))
          have QA := Lib.hid (fun (m : Nat) => quiet_left (n := m) (show Calls Try.prog 15 #[.pointer (some ⟨g1, 0, none⟩)] (w8.drewN m) (fun e w' => e = .returned (.bool false) ∧ w8.drewN m = w') from failed_any g1 _ (w8.drewN m) (F18.out.drewN m)))
          have QBP := Lib.hid (fun (m : Nat) => show Calls Try.prog 15 #[.pointer (some ⟨g2, 0, none⟩)] (w8.drewN m) (fun e w' => e = .returned (.bool D) ∧ w8.drewN m = w') from by rw [← hfd]; exact failed_any g2 _ (w8.drewN m) (F28.out.drewN m))
          clear hfd hkn' hkn hk dk
          cases D
          · have HD := Lib.hid hD
            have dD : decide (mo2 ≤ nn % 41) = false := hD.symm
            clear hD
            go_wp2_with fail
            go_quiet ((first | (go_at_call 15; with_reducible exact QB.out _) | (go_at_call 15; with_reducible exact QA.out _)))
            go_wp2_with fail
            refine (QBP.out _).mono ?_
            rintro e w9 ⟨rfl, rfl⟩
            go_wp2_with fail
            refine (PBr.out.opens (F28.out.drewN nq) (by rw [HKN.out]; simpa using HD.out)).mono ?_
            rintro e w9 ⟨n9, s9, rfl, hf9, hg9, hpr⟩
            have F29 := Lib.hid hf9
            have PR9 := Lib.hid hpr
            have B9 := Lib.hid (hb0g (Below.drewN' B8.out nq) hg9 G2.out)
            clear hf9 hg9 hpr
            go_wp2_with fail
            go_loopw [19] (fun v19 wr => ∃ (m : Nat) (s : Fs), m ≤ 50 ∧ v19 = .int .i64 m ∧ Hid (Fl wr g2 s) ∧ Hid (PR s) ∧ Hid (Below w.heap.size w wr)) (fun v _ => 50 - (intOf v).toNat)
            case atStart => exact ⟨0, s9, by omega, rfl, F29, PR9, B9⟩
            case round =>
              obtain ⟨m, s, hm, rfl, Fr, PRr, Br⟩ := hrel
              by_cases hm5 : m < 50
              · have d5 : decide ((m : Int) < 50) = true := by simp; omega
                have d5' : decide (m < 50) = true := by simpa using hm5
                go_wp2_with fail
                refine (PRr.out.ticks Fr.out).mono ?_
                rintro e w10 ⟨n10, s10, rfl, hf10, hg10, hpr10⟩
                have F10 := Lib.hid hf10
                have PR10 := Lib.hid hpr10
                have B10 := Lib.hid (hb0g Br.out hg10 G2.out)
                clear hf10 hg10 hpr10
                go_wp2_with fail
                go_roundw
                case rel => exact ⟨m + 1, s10, by omega, by simp, F10, PR10, B10⟩
                case measure => simp [intOf]; omega
              · have d5 : decide ((m : Int) < 50) = false := by simp; omega
                have d5' : decide (m < 50) = false := by simp; omega
                have HFD := Lib.hid (show Calls Try.prog 15 #[.pointer (some ⟨g2, 0, none⟩)] wr (fun e w' => e = .returned (.bool false) ∧ wr = w') from by have := failed_any g2 _ wr Fr.out; rw [PRr.out.2.2.2] at this; exact this)
                go_wp2_with fail
                refine HFD.out.mono ?_
                rintro e w10 ⟨rfl, rfl⟩
                go_wp2_with fail
                refine (lives_any _).mono ?_
                rintro e w4 ⟨rfl, hb4⟩
                go_wp2_with fail
                go_ret
                exact ⟨rfl, Br.out.trans (hb4.mono Br.out.size)⟩
          · have HD := Lib.hid hD
            have dD : decide (mo2 ≤ nn % 41) = true := hD.symm
            clear hD
            go_wp2_with fail
            go_quiet ((first | (go_at_call 15; with_reducible exact QB.out _) | (go_at_call 15; with_reducible exact QA.out _)))
            go_wp2_with fail
            refine (QBP.out _).mono ?_
            rintro e w9 ⟨rfl, rfl⟩
            go_wp2_with fail
            refine (lives_any _).mono ?_
            rintro e w4 ⟨rfl, hb4⟩
            go_wp2_with fail
            go_ret
            exact ⟨rfl, Below.trans (Below.drewN' B8.out nq) (hb4.mono B8.out.size)⟩
end Go.Proofs.Ytbcalbkficbppaa
