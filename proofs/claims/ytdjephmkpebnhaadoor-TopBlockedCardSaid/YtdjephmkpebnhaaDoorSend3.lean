/- send: a Set goes into what is to be taken. -/
import Derived.Test.YtdjephmkpebnhaaDoorSend2
import Derived.Deep.RegionWith
import Derived.Deep.RegionHeld
namespace Go.Proofs.YtdjephmkpebnhaaDoor
open Go.RowKit

theorem bcell {W w1 : World} (hb : Below W.heap.size W w1) : (∀ b o, b < W.heap.size → w1.cell? ⟨b, o, none⟩ = W.cell? ⟨b, o, none⟩) ∧ (∀ b o, b < W.heap.size → w1.frozen? ⟨b, o, none⟩ = W.frozen? ⟨b, o, none⟩) :=
  ⟨fun b o h => hb.cell (p := ⟨b, o, none⟩) h, fun b o h => hb.frozen (p := ⟨b, o, none⟩) h⟩
theorem drew_size (w : World) : w.drew.heap.size = w.heap.size := rfl
theorem drew_cell (w : World) (p : Addr) : w.drew.cell? p = w.cell? p := rfl
theorem drew_frozen (w : World) (p : Addr) : w.drew.frozen? p = w.frozen? p := rfl

/-- A row of bools as a value that reads as F. -/
def Bools (w : World) (m : Nat) (F : Nat → Bool) (v : Value) : Prop := ∃ r, v = .slice (some ⟨r, 0, none⟩) m m ∧ Sees w w.heap.size (some ⟨r, 0, none⟩) m (fun k => .bool (F k))
theorem Bools.kept {w w' : World} {m : Nat} {F : Nat → Bool} {v : Value} (h : Bools w m F v) (hb : Below w.heap.size w w') : Bools w' m F v := by
  obtain ⟨r, rfl, hs⟩ := h
  exact ⟨r, rfl, (hs.below hb).more hb.size⟩

theorem Sees.far {w : World} {B r n : Nat} {f : Nat → Value} (h : Sees w B (some ⟨r, 0, none⟩) n f) {p : Addr} (hp : p.block < r) (u : Value) : Sees (w.setCell p u) B (some ⟨r, 0, none⟩) n f := fun k hk => by
  obtain ⟨b, off, e, hlt, hc⟩ := h k hk
  injection e with e
  injection e with e1 e2
  subst e1 e2
  exact ⟨_, _, rfl, hlt, (World.cell?_setCell_far w p ⟨_, _, none⟩ u (by simp only; omega)).trans hc⟩

theorem Sees.farw {w : World} {r n : Nat} {f : Nat → Value} (h : Sees w w.heap.size (some ⟨r, 0, none⟩) n f) {p : Addr} (hp : p.block < r) (u : Value) : Sees (w.setCell p u) (w.setCell p u).heap.size (some ⟨r, 0, none⟩) n f := by
  rw [World.size_setCell]
  exact h.far hp u
theorem Sees.grownO {w w' : World} {r n g : Nat} {f : Nat → Value} (h : Sees w w.heap.size (some ⟨r, 0, none⟩) n f) (hb : w.grownBy w' (some g)) (hr : r ≠ g) : Sees w' w'.heap.size (some ⟨r, 0, none⟩) n f := fun k hk => by
  obtain ⟨b, off, e, hlt, hc⟩ := h k hk
  injection e with e
  injection e with e1 e2
  subst e1 e2
  exact ⟨_, _, rfl, Nat.lt_of_lt_of_le hlt hb.size, (World.grownBy.cell_far hb ⟨_, _, none⟩ hlt (by simpa using hr)).trans hc⟩

/-- The box behind the copies. -/
def Boxed (w wx : World) (b m : Nat) (K Sr F : Int) (M O : Nat → Bool) : Prop := ∃ r1 r2, Lit0 wx b 42 #[.int .u8 K, .int .u32 Sr, .int .i64 F, .slice (some ⟨r1, 0, none⟩) m m, .slice (some ⟨r2, 0, none⟩) m m] ∧ (w.heap.size < r1 ∧ Sees wx wx.heap.size (some ⟨r1, 0, none⟩) m (fun k => .bool (M k))) ∧ (w.heap.size < r2 ∧ Sees wx wx.heap.size (some ⟨r2, 0, none⟩) m (fun k => .bool (O k))) ∧ Below w.heap.size w wx

set_option maxHeartbeats 4000000 in
theorem send_set (d g t n mb ob m c1 c2 : Nat) (ag age last heard Sr F : Int) (op : Value) (T M O : Nat → Bool) (w : World) (h : Dk w d g t n ag age last heard op (.slice none 0 0) T) (hm : 1 ≤ m ∧ m ≤ 100) (hc1 : m ≤ c1) (hc2 : m ≤ c2)
    (hM : Sees w w.heap.size (some ⟨mb, 0, none⟩) m (fun k => .bool (M k))) (hO : Sees w w.heap.size (some ⟨ob, 0, none⟩) m (fun k => .bool (O k))) :
    Calls Tryd.prog 27 #[.pointer (some ⟨d, 0, none⟩), .agg #[.int .u8 1, .int .u32 Sr, .int .i64 F, .slice (some ⟨mb, 0, none⟩) m c1, .slice (some ⟨ob, 0, none⟩) m c2]] w (RetSent w d g t n ag age last heard op T (fun r w' => ∃ mk on, MsgAt w' r 1 Sr F mk on ∧ Bools w' m M mk ∧ Bools w' m O on)) := by
  have l0 := Lit0.new w 42 #[.int .u8 1, .int .u32 Sr, .int .i64 F, .slice (some ⟨mb, 0, none⟩) m c1, .slice (some ⟨ob, 0, none⟩) m c2]
  have hb0 := (Below.refl w.heap.size w).alloc (Nat.le_refl _) (.cells #[.int .u8 1, .int .u32 Sr, .int .i64 F, .slice (some ⟨mb, 0, none⟩) m c1, .slice (some ⟨ob, 0, none⟩) m c2] 42)
  have b3 := l0.cell 3
  have b4 := l0.cell 4
  simp only [List.getElem?_toArray, List.getElem?_cons_zero, List.getElem?_cons_succ] at b3 b4
  have f3 := l0.free 3
  have f4 := l0.free 4
  have hlt := l0.lt
  have H := Lib.hid h
  have H1 := Lib.hid (h.kept hb0)
  have HB1 := Lib.hid hb0
  have HCM := Lib.hid (fun w' (hb : Below w.heap.size w w') => clone_any mb m c1 M w' ⟨hm.1, hc1, by omega⟩ ((hM.below hb).more hb.size))
  have HCO := Lib.hid (fun w' (hb : Below w.heap.size w w') => clone_any ob m c2 O w' ⟨hm.1, hc2, by omega⟩ ((hO.below hb).more hb.size))
  have HK := Lib.hid (fun r cp w (hc : m ≤ cp) => clip_bools r m cp w hc)
  have HL := Lib.hid l0
  clear h l0 hb0 hM hO hc1 hc2
  go_enter Tryd.func27, Tryd.ntmps27
  go_wp2_with fail
  generalize hw1 : w.alloc (.cells #[.int .u8 1, .int .u32 Sr, .int .i64 F, .slice (some ⟨mb, 0, none⟩) m c1, .slice (some ⟨ob, 0, none⟩) m c2] 42) = w1 at b3 b4 f3 f4 H1 HB1 HL hlt ⊢
  clear hw1
  go_cut [3] from 4 to 13 (fun v3 wx => v3 = .pointer (some ⟨w.heap.size, 0, none⟩) ∧ Boxed w wx w.heap.size m 1 Sr F M O ∧ Dk wx d g t n ag age last heard op (.slice none 0 0) T)
  case first =>
    go_region_with (first
      | (go_at_call 42; (with_reducible refine (HCM.out _ ?_).mono ?_); (exact Below.drew HB1.out); rintro e w5 ⟨r1, cp1, rfl, hcp1, hs1, hr1, hb5⟩; obtain ⟨hc5, hf5⟩ := bcell hb5; (try simp only [drew_size, drew_cell, drew_frozen] at hc5 hf5))
      | (go_at_call 41; (with_reducible refine (HK.out r1 cp1 _ hcp1).mono ?_); rintro e w6 ⟨rfl, rfl⟩)
      | (go_at_call 42; (with_reducible refine (HCO.out _ ?_).mono ?_); (exact (Below.drew HB1.out).trans (hb5.mono (by first | exact HB1.out.size | omega))); rintro e w7 ⟨r2, cp2, rfl, hcp2, hs2, hr2, hb7⟩; obtain ⟨hc7, hf7⟩ := bcell hb7; have hsz5 : w.heap.size < w5.heap.size := Nat.lt_of_lt_of_le hlt hb5.size)
      | (go_at_call 41; (with_reducible refine (HK.out r2 cp2 _ hcp2).mono ?_); rintro e w8 ⟨rfl, rfl⟩))
    all_goals
      have HL7 := Lib.hid (((HL.out.drew.kept hb5).kept hb7).set 3 (.slice (some ⟨r1, 0, none⟩) m m) |>.set 4 (.slice (some ⟨r2, 0, none⟩) m m))
      have hd0 : d ≠ w.heap.size := by have := H.out.1.lt; omega
      have ht0 : t ≠ w.heap.size := by have := H.out.2.1.lt; omega
      have HD7 := Lib.hid ((((Dk.drewN H1.out 1).kept hb5).kept hb7).far hd0 ht0 3 (.slice (some ⟨r1, 0, none⟩) m m) |>.far hd0 ht0 4 (.slice (some ⟨r2, 0, none⟩) m m))
      have HB7 := Lib.hid ((((Below.drew HB1.out).trans (hb5.mono HB1.out.size)).trans (hb7.mono (Nat.le_of_lt hsz5))).setCell (p := ⟨w.heap.size, 3, none⟩) (Nat.le_refl _) (.slice (some ⟨r1, 0, none⟩) m m) |>.setCell (p := ⟨w.heap.size, 4, none⟩) (Nat.le_refl _) (.slice (some ⟨r2, 0, none⟩) m m))
      have hq1 : w.heap.size < r1 := Nat.lt_of_lt_of_le hlt hr1
      have hq2 : w.heap.size < r2 := Nat.lt_of_lt_of_le hsz5 hr2
      have HS1 := Lib.hid ((((hs1.below hb7).more hb7.size).farw (p := ⟨w.heap.size, 3, none⟩) hq1 (.slice (some ⟨r1, 0, none⟩) m m)).farw (p := ⟨w.heap.size, 4, none⟩) hq1 (.slice (some ⟨r2, 0, none⟩) m m))
      have HS2 := Lib.hid ((hs2.farw (p := ⟨w.heap.size, 3, none⟩) hq2 (.slice (some ⟨r1, 0, none⟩) m m)).farw (p := ⟨w.heap.size, 4, none⟩) hq2 (.slice (some ⟨r2, 0, none⟩) m m))
      clear hs1 hs2 hr1 hr2 hb5 hb7 hc5 hf5 hc7 hf7 hd0 ht0 b3 b4 f3 f4 hcp1 hcp2 hsz5
      go_wp2_with fail
      go_meet
      exact ⟨rfl, ⟨r1, r2, HL7.out, ⟨hq1, HS1.out⟩, ⟨hq2, HS2.out⟩, HB7.out⟩, HD7.out⟩
  case rest =>
    obtain ⟨rfl, ⟨r1, r2, HLA, ⟨hq1, hs1⟩, ⟨hq2, hs2⟩, hbA⟩, HDA⟩ := hcut
    clear b3 b4 f3 f4 HL HCM HCO HK
    have HBA := Lib.hid hbA
    have HDB := Lib.hid HDA
    have HS1 := Lib.hid hs1
    have HS2 := Lib.hid hs2
    have q0 := HLA.cell 0
    have q1 := HLA.cell 1
    have q2 := HLA.cell 2
    have q3 := HLA.cell 3
    have q4 := HLA.cell 4
    simp only [List.getElem?_toArray, List.getElem?_cons_zero, List.getElem?_cons_succ] at q0 q1 q2 q3 q4
    have d7 := HDA.l7
    have g7 := HDA.1.free 7
    clear hbA HLA HDA hs1 hs2
    obtain ⟨i0, hi, hz0, hz1, hz2⟩ := info_parts Tryd.info42
    generalize wc = wA at HBA HDB HS1 HS2 q0 q1 q2 q3 q4 d7 g7 ⊢
    go_wp2_with fail
    have hone : ∀ u ∈ ([.int .u8 1, .int .u32 Sr, .int .i64 F, .slice (some ⟨r1, 0, none⟩) m m, .slice (some ⟨r2, 0, none⟩) m m] : List Value), u.oneCell' = true := by
      intro u hu
      simp at hu
      rcases hu with rfl | rfl | rfl | rfl | rfl <;> rfl
    have hbase : w.heap.size ≤ wA.heap.size := HBA.out.size
    have HNEWS := news_new wA #[.int .u8 1, .int .u32 Sr, .int .i64 F, .slice (some ⟨r1, 0, none⟩) m m, .slice (some ⟨r2, 0, none⟩) m m] 42
    have hdk : Dk (wA.alloc (.cells #[.int .u8 1, .int .u32 Sr, .int .i64 F, .slice (some ⟨r1, 0, none⟩) m m, .slice (some ⟨r2, 0, none⟩) m m] 42)).drew d g t n ag age last heard op (.slice none 0 0) T := Dk.drewN (HDB.out.kept ((Below.refl _ wA).alloc (Nat.le_refl _) _)) 1
    have hdA : ¬ wA.heap.size = d := World.new_ne wA ⟨d, 7, none⟩ d7
    have hdA2 : ¬ d = wA.heap.size := fun h => hdA h.symm
    have hdA3 : d < wA.heap.size := HDB.out.1.lt
    have HDK := Lib.hid hdk
    clear hdk
    go_region_law ((refine step_append_lies _ (by rfl) (.tmp 18) (.tmp 20) 36 (by rfl) w.heap.size 42 i0 (.agg #[.int .u8 0, .int .u32 0, .int .i64 0, .slice none 0 0, .slice none 0 0]) 5 64 Tryd.underlying36 hi hz0 hz1 hz2 (by rfl) (by decide) (.slice none 0 0) 0 [] (by rfl) (World.ownsRow_nil _ _ _ _) ⟨wA.heap.size, 0, none⟩ 1 1 [.int .u8 1, .int .u32 Sr, .int .i64 F, .slice (some ⟨r1, 0, none⟩) m m, .slice (some ⟨r2, 0, none⟩) m m] (by rfl) (by rfl) HNEWS hone (by decide) (by decide) (by decide) (by simp; omega) (wA.heap.size + 1) (by simp) ?_; intro g2 cap w2 hown hgrow hat hlt; have hd2 := HDK.out.grownN hgrow; have e7 := hd2.l7; have x7 := hd2.1.free 7; have HD2 := Lib.hid hd2; have HOWN := Lib.hid hown; have HGR := Lib.hid hgrow; clear hd2 hown hgrow))
    all_goals
      clear HNEWS hone q0 q1 q2 q3 q4 d7 g7 e7 x7 hdA hdA2 hdA3
      go_end0
      refine ⟨⟨_, rfl⟩, g2, cap, (msg_of_own HOWN.out).2.1, HD2.out.set7 _, ?_, (msg_of_own HOWN.out).2.2, ?_⟩
      · refine ⟨_, _, (msg_of_own HOWN.out).1.grown (grown_one _ _ _ _) (by have := (msg_of_own HOWN.out).2.2; have := H.out.1.lt; omega), ⟨r1, rfl, HS1.out.grownO (g := d) ?_ (by have := H.out.1.lt; omega)⟩, ⟨r2, rfl, HS2.out.grownO (g := d) ?_ (by have := H.out.1.lt; omega)⟩⟩ <;> exact grown_trans (grown_trans (grown_alloc (grown_refl _ _) _) (grown_drew (grown_refl _ _))) (grown_trans (grownN_any HGR.out) (grown_one _ _ _ _))
      · exact grown_trans (grown_trans (grown_trans (grown_below HBA.out _) (grown_alloc (grown_refl _ _) _)) (grown_drew (grown_refl _ _))) (grown_trans (grownN_any HGR.out) (grown_one _ _ _ _))
end Go.Proofs.YtdjephmkpebnhaaDoor
