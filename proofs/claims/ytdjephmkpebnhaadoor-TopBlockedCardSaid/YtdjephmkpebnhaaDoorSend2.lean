/- send: a message goes into what is to be taken. -/
import Derived.Test.YtdjephmkpebnhaaDoorSend
import Derived.Deep.RegionLaw
import Derived.Deep.AppendLies
namespace Go.Proofs.YtdjephmkpebnhaaDoor
open Go.RowKit

theorem Dk.far {w : World} {d g t n b : Nat} {ag age last heard : Int} {op out : Value} {T : Nat → Bool} (h : Dk w d g t n ag age last heard op out T) (hd : d ≠ b) (ht : t ≠ b) (j : Nat) (v : Value) : Dk (w.setCell ⟨b, j, none⟩ v) d g t n ag age last heard op out T :=
  ⟨h.1.far hd v, h.2.1.far ht v, h.2.2⟩
theorem Dk.grownN {w w' : World} {d g t n : Nat} {ag age last heard : Int} {op out : Value} {T : Nat → Bool} (h : Dk w d g t n ag age last heard op out T) (hb : w.grownBy w' Option.none) : Dk w' d g t n ag age last heard op out T :=
  ⟨h.1.grown hb (by simp), h.2.1.grown hb (by simp), h.2.2⟩
theorem Dk.set7 {w : World} {d g t n : Nat} {ag age last heard : Int} {op out : Value} {T : Nat → Bool} (h : Dk w d g t n ag age last heard op out T) (v : Value) : Dk (w.setCell ⟨d, 7, none⟩ v) d g t n ag age last heard op v T :=
  ⟨h.1.set 7 v, h.2.1.far (by exact fun e => h.2.2 e.symm) v, h.2.2⟩

theorem news_new (w : World) (cs : Array Value) (t : TypeId) : ∀ j u, cs.toList[j]? = some u → ((w.alloc (.cells cs t)).drew).cell? ((⟨w.heap.size, 0, none⟩ : Addr).add j) = some u :=
  World.news_of_block (t := t) (fr := (0, 0)) (by show (w.heap.push _)[w.heap.size]? = _; simp)

theorem Tryd.info42 : (Tryd.prog.info? 42).map (fun i => (i.zero, i.size, i.bytes)) = some (some (.agg #[.int .u8 0, .int .u32 0, .int .i64 0, .slice none 0 0, .slice none 0 0]), 5, 64) := by kernel_rfl

/-- A message in memory. -/
def MsgAt (w : World) (r : Nat) (K Sr F : Int) (mk on : Value) : Prop := r < w.heap.size ∧ w.cell? ⟨r, 0, none⟩ = some (.int .u8 K) ∧ w.cell? ⟨r, 1, none⟩ = some (.int .u32 Sr) ∧ w.cell? ⟨r, 2, none⟩ = some (.int .i64 F) ∧ w.cell? ⟨r, 3, none⟩ = some mk ∧ w.cell? ⟨r, 4, none⟩ = some on

theorem MsgAt.kept {w w' : World} {r : Nat} {K Sr F : Int} {mk on : Value} (h : MsgAt w r K Sr F mk on) (hb : Below w.heap.size w w') : MsgAt w' r K Sr F mk on := by
  obtain ⟨h0, h1, h2, h3, h4, h5⟩ := h
  have := hb.size
  exact ⟨by omega, (hb.cell (p := ⟨r, 0, none⟩) h0).trans h1, (hb.cell (p := ⟨r, 1, none⟩) h0).trans h2, (hb.cell (p := ⟨r, 2, none⟩) h0).trans h3, (hb.cell (p := ⟨r, 3, none⟩) h0).trans h4, (hb.cell (p := ⟨r, 4, none⟩) h0).trans h5⟩
theorem MsgAt.grown {w w' : World} {r g : Nat} {K Sr F : Int} {mk on : Value} (h : MsgAt w r K Sr F mk on) (hb : w.grownBy w' (some g)) (hg : r ≠ g) : MsgAt w' r K Sr F mk on := by
  obtain ⟨h0, h1, h2, h3, h4, h5⟩ := h
  have := hb.size
  have hc : ∀ j v, w.cell? ⟨r, j, none⟩ = some v → w'.cell? ⟨r, j, none⟩ = some v := fun j v hv => (World.grownBy.cell_far hb ⟨r, j, none⟩ h0 (by simpa using hg)).trans hv
  exact ⟨by omega, hc _ _ h1, hc _ _ h2, hc _ _ h3, hc _ _ h4, hc _ _ h5⟩

/-- The one message of a row of the call's own. -/
theorem msg_of_own {w : World} {base r cap : Nat} {K Sr F : Int} {mk on : Value} (h : w.ownsRow base 42 5 (.slice (some ⟨r, 0, none⟩) (0 + 1) cap) (0 + 1) ([] ++ [.int .u8 K, .int .u32 Sr, .int .i64 F, mk, on])) : MsgAt w r K Sr F mk on ∧ 1 ≤ cap ∧ base ≤ r := by
  obtain ⟨_, h0 | ⟨g, cp, cur, hv, hb, hh, hc, hm, hs, ht⟩⟩ := h
  · exact absurd h0.2 (by omega)
  · injection hv with ha _ hcp
    injection ha with ha
    injection ha with ha
    subst ha hcp
    have hlt : r < w.heap.size := by
      rcases Nat.lt_or_ge r w.heap.size with h | h
      · exact h
      · rw [Array.getElem?_eq_none h] at hh; cases hh
    have hget : ∀ j v, j < 5 → ([] ++ [Value.int .u8 K, .int .u32 Sr, .int .i64 F, mk, on])[j]? = some v → w.cell? ⟨r, j, none⟩ = some v := fun j v hj hv => by
      rw [← ht, List.getElem?_take, if_pos (by omega)] at hv
      simp only [World.cell?, hh, Option.isSome]
      rw [← Array.getElem?_toList]
      exact hv
    exact ⟨⟨hlt, hget 0 _ (by omega) rfl, hget 1 _ (by omega) rfl, hget 2 _ (by omega) rfl, hget 3 _ (by omega) rfl, hget 4 _ (by omega) rfl⟩, by omega, hb⟩

/-- What send leaves. -/
def RetSent (w : World) (d g t n : Nat) (ag age last heard : Int) (op : Value) (T : Nat → Bool) (R : Nat → World → Prop) (e : Ending) (w' : World) : Prop :=
  (∃ v, e = .returned v) ∧ ∃ r cap, 1 ≤ cap ∧ Dk w' d g t n ag age last heard op (.slice (some ⟨r, 0, none⟩) 1 cap) T ∧ R r w' ∧ w.heap.size ≤ r ∧ w.grownBy w' (some d)

theorem grownN_any {a b : World} {g : Nat} (h : a.grownBy b Option.none) : a.grownBy b (some g) := ⟨h.os, h.tape, h.output, h.size, fun i hi _ => h.block i hi (by simp)⟩

set_option maxHeartbeats 1000000 in
theorem send_ack (d g t n : Nat) (ag age last heard Sr : Int) (op : Value) (T : Nat → Bool) (w : World) (h : Dk w d g t n ag age last heard op (.slice none 0 0) T) :
    Calls Tryd.prog 27 #[.pointer (some ⟨d, 0, none⟩), .agg #[.int .u8 2, .int .u32 Sr, .int .i64 0, .slice none 0 0, .slice none 0 0]] w (RetSent w d g t n ag age last heard op T (fun r w' => MsgAt w' r 2 Sr 0 (.slice none 0 0) (.slice none 0 0))) := by
  have l0 := Lit0.new w 42 #[.int .u8 2, .int .u32 Sr, .int .i64 0, .slice none 0 0, .slice none 0 0]
  have hb0 := (Below.refl w.heap.size w).alloc (Nat.le_refl _) (.cells #[.int .u8 2, .int .u32 Sr, .int .i64 0, .slice none 0 0, .slice none 0 0] 42)
  have b3 := l0.cell 3
  have b4 := l0.cell 4
  simp only [List.getElem?_toArray, List.getElem?_cons_zero, List.getElem?_cons_succ] at b3 b4
  have f3 := l0.free 3
  have f4 := l0.free 4
  have H := Lib.hid h
  have H1 := Lib.hid (h.kept hb0)
  have HB1 := Lib.hid hb0
  have HC := Lib.hid (fun w => clone_nil w)
  have HK := Lib.hid (fun w => clip_nil w)
  have HL := Lib.hid l0
  clear h l0 hb0
  go_enter Tryd.func27, Tryd.ntmps27
  go_wp2_with fail
  generalize w.alloc (.cells #[.int .u8 2, .int .u32 Sr, .int .i64 0, .slice none 0 0, .slice none 0 0] 42) = w1 at b3 b4 f3 f4 H1 HB1 HL ⊢
  go_region_held3 (fun w' => w'.cell? ⟨w.heap.size, 3, none⟩ = some (.slice none 0 0) ∧ w'.cell? ⟨w.heap.size, 4, none⟩ = some (.slice none 0 0))
    (first | exact ⟨b3, b4⟩ | assumption | exact ⟨(HL.out.set 3 (.slice none 0 0)).cell 3, (HL.out.set 3 (.slice none 0 0)).cell 4⟩ | exact ⟨((HL.out.set 3 (.slice none 0 0)).set 4 (.slice none 0 0)).cell 3, ((HL.out.set 3 (.slice none 0 0)).set 4 (.slice none 0 0)).cell 4⟩)
    (first | (go_at_call 42; (with_reducible refine (HC.out _).mono ?_); rintro e w5 ⟨rfl, rfl⟩) | (go_at_call 41; (with_reducible refine (HK.out _).mono ?_); rintro e w6 ⟨rfl, rfl⟩))
  go_wp2_with fail
  have HLA := (HL.out.set 3 (.slice none 0 0)).set 4 (.slice none 0 0)
  have hd0 : d ≠ w.heap.size := by have := H.out.1.lt; omega
  have ht0 : t ≠ w.heap.size := by have := H.out.2.1.lt; omega
  have HDA := (H1.out.far hd0 ht0 3 (.slice none 0 0)).far hd0 ht0 4 (.slice none 0 0)
  have hbA := (HB1.out.setCell (p := ⟨w.heap.size, 3, none⟩) (Nat.le_refl _) (.slice none 0 0)).setCell (p := ⟨w.heap.size, 4, none⟩) (Nat.le_refl _) (.slice none 0 0)
  generalize (((w1.setCell ⟨w.heap.size, 3, none⟩ (.slice none 0 0)).setCell ⟨w.heap.size, 4, none⟩ (.slice none 0 0))) = wA at HLA HDA hbA ⊢
  have HBA := Lib.hid hbA
  have HDB := Lib.hid HDA
  have q0 := HLA.cell 0
  have q1 := HLA.cell 1
  have q2 := HLA.cell 2
  have q3 := HLA.cell 3
  have q4 := HLA.cell 4
  simp at q0 q1 q2 q3 q4
  have d7 := HDA.l7
  have g7 := HDA.1.free 7
  clear hbA HLA HDA b3 b4 f3 f4 hd0 ht0
  obtain ⟨i0, hi, hz0, hz1, hz2⟩ := info_parts Tryd.info42
  have hone : ∀ u ∈ ([.int .u8 2, .int .u32 Sr, .int .i64 0, .slice none 0 0, .slice none 0 0] : List Value), u.oneCell' = true := by
    intro u hu
    simp at hu
    rcases hu with rfl | rfl | rfl | rfl <;> rfl
  have hbase : w.heap.size ≤ wA.heap.size := HBA.out.size
  have HNEWS := news_new wA #[.int .u8 2, .int .u32 Sr, .int .i64 0, .slice none 0 0, .slice none 0 0] 42
  have hdk : Dk (wA.alloc (.cells #[.int .u8 2, .int .u32 Sr, .int .i64 0, .slice none 0 0, .slice none 0 0] 42)).drew.drew d g t n ag age last heard op (.slice none 0 0) T := Dk.drewN (HDB.out.kept ((Below.refl _ wA).alloc (Nat.le_refl _) _)) 1
  have hdA : ¬ wA.heap.size = d := World.new_ne wA ⟨d, 7, none⟩ d7
  have hdA2 : ¬ d = wA.heap.size := fun h => hdA h.symm
  have hdA3 : d < wA.heap.size := HDB.out.1.lt
  have HDK := Lib.hid hdk
  clear hdk
  go_region_law ((refine step_append_lies _ (by rfl) (.tmp 18) (.tmp 20) 36 (by rfl) w.heap.size 42 i0 (.agg #[.int .u8 0, .int .u32 0, .int .i64 0, .slice none 0 0, .slice none 0 0]) 5 64 Tryd.underlying36 hi hz0 hz1 hz2 (by rfl) (by decide) (.slice none 0 0) 0 [] (by rfl) (World.ownsRow_nil _ _ _ _) ⟨wA.heap.size, 0, none⟩ 1 1 [.int .u8 2, .int .u32 Sr, .int .i64 0, .slice none 0 0, .slice none 0 0] (by rfl) (by rfl) HNEWS hone (by decide) (by decide) (by decide) (by simp; omega) (wA.heap.size + 1) (by simp) ?_; intro g2 cap w2 hown hgrow hat hlt; have hd2 := HDK.out.grownN hgrow; have e7 := hd2.l7; have x7 := hd2.1.free 7; have HD2 := Lib.hid hd2; have HOWN := Lib.hid hown; have HGR := Lib.hid hgrow; clear hd2 hown hgrow))
  all_goals
    clear HNEWS hone q0 q1 q2 q3 q4 d7 g7 e7 x7 hdA hdA2 hdA3
    go_end0
    refine ⟨⟨_, rfl⟩, g2, cap, (msg_of_own HOWN.out).2.1, HD2.out.set7 _, ?_, (msg_of_own HOWN.out).2.2, ?_⟩
    · exact (msg_of_own HOWN.out).1.grown (grown_one _ _ _ _) (by have := (msg_of_own HOWN.out).2.2; have := H.out.1.lt; omega)
    · exact grown_trans (grown_trans (grown_trans (grown_below HBA.out _) (grown_alloc (grown_refl _ _) _)) (grown_drew (grown_drew (grown_refl _ _)))) (grown_trans (grownN_any HGR.out) (grown_one _ _ _ _))
end Go.Proofs.YtdjephmkpebnhaaDoor
