/- A side: send. -/
import Derived.Test.YtdjephmkpebnhaaDoorRings
import Derived.Test.YtdjephmkpebnhaaDoorSend2
import Derived.Deep.RegionLaw
import Derived.Deep.AppendLies
namespace Go.Proofs.YtdjephmkpebnhaaDoor
open Go.RowKit

theorem Tryd.info91 : (Tryd.prog.info? 91).map (fun i => (i.zero, i.size, i.bytes)) = some (some (.agg #[.int .u8 0, .int .i64 0, .string ⟨#[]⟩, .string ⟨#[]⟩, .int .u8 0]), 5, 56) := by kernel_rfl

/-- What a side's send leaves. -/
def RetSdSent (w : World) (s g m : Nat) (cnt : Int) (e : Ending) (w' : World) : Prop := (∃ v, e = .returned v) ∧ (∃ out, Sd w' s g m cnt out) ∧ w.grownBy w' (some s)

set_option maxHeartbeats 1000000 in
theorem sdsend_any (s g m : Nat) (cnt b : Int) (w : World) (h : Sd w s g m cnt (.slice none 0 0)) :
    Calls Tryd.prog 35 #[.pointer (some ⟨s, 0, none⟩), .agg #[.int .u8 1, .int .i64 b, .string ⟨#[49]⟩, .string ⟨#[50]⟩, .int .u8 0]] w (RetSdSent w s g m cnt) := by
  have l0 := Lit0.new w 91 #[.int .u8 1, .int .i64 b, .string ⟨#[49]⟩, .string ⟨#[50]⟩, .int .u8 0]
  have hb0 := (Below.refl w.heap.size w).alloc (Nat.le_refl _) (.cells #[.int .u8 1, .int .i64 b, .string ⟨#[49]⟩, .string ⟨#[50]⟩, .int .u8 0] 91)
  have hsw : s < w.heap.size := Lit0.lt h
  have H1 := Lib.hid (h.kept hb0)
  have HB1 := Lib.hid hb0
  have HL := Lib.hid l0
  clear h l0 hb0
  go_enter Tryd.func35, Tryd.ntmps35
  go_wp2_with fail
  generalize w.alloc (.cells #[.int .u8 1, .int .i64 b, .string ⟨#[49]⟩, .string ⟨#[50]⟩, .int .u8 0] 91) = wA at H1 HB1 HL ⊢
  have q0 := HL.out.cell 0
  have q1 := HL.out.cell 1
  have q2 := HL.out.cell 2
  have q3 := HL.out.cell 3
  have q4 := HL.out.cell 4
  simp only [List.getElem?_toArray, List.getElem?_cons_zero, List.getElem?_cons_succ] at q0 q1 q2 q3 q4
  have d7 := Lit0.cell H1.out 7
  simp only [List.getElem?_toArray, List.getElem?_cons_zero, List.getElem?_cons_succ] at d7
  have g7 := Lit0.free H1.out 7
  obtain ⟨i0, hi, hz0, hz1, hz2⟩ := info_parts Tryd.info91
  have hone : ∀ u ∈ ([.int .u8 1, .int .i64 b, .string ⟨#[49]⟩, .string ⟨#[50]⟩, .int .u8 0] : List Value), u.oneCell' = true := by
    intro u hu
    simp at hu
    rcases hu with rfl | rfl | rfl | rfl | rfl <;> rfl
  have hbase : w.heap.size ≤ wA.heap.size := HB1.out.size
  have HNEWS := news_new wA #[.int .u8 1, .int .i64 b, .string ⟨#[49]⟩, .string ⟨#[50]⟩, .int .u8 0] 91
  have hdA : ¬ wA.heap.size = s := World.new_ne wA ⟨s, 7, none⟩ d7
  have hdA2 : ¬ s = wA.heap.size := fun h => hdA h.symm
  have hdA3 : s < wA.heap.size := Lit0.lt H1.out
  have HDK := Lib.hid (show Lit0 (wA.alloc (.cells #[.int .u8 1, .int .i64 b, .string ⟨#[49]⟩, .string ⟨#[50]⟩, .int .u8 0] 91)).drew s 83 _ from Lit0.drewN (Lit0.kept H1.out ((Below.refl _ wA).alloc (Nat.le_refl _) _)) 1)
  go_region_law ((refine step_append_lies _ (by rfl) (.tmp 8) (.tmp 10) 80 (by rfl) w.heap.size 91 i0 (.agg #[.int .u8 0, .int .i64 0, .string ⟨#[]⟩, .string ⟨#[]⟩, .int .u8 0]) 5 56 Tryd.underlying80 hi hz0 hz1 hz2 (by rfl) (by decide) (.slice none 0 0) 0 [] (by rfl) (World.ownsRow_nil _ _ _ _) ⟨wA.heap.size, 0, none⟩ 1 1 [.int .u8 1, .int .i64 b, .string ⟨#[49]⟩, .string ⟨#[50]⟩, .int .u8 0] (by rfl) (by rfl) HNEWS hone (by decide) (by decide) (by decide) (by simp; omega) (wA.heap.size + 1) (by simp) ?_; intro g2 cap w2 hown hgrow hat hlt; have hd2 := Lit0.grown HDK.out hgrow (by simp [Value.ownBlock]); have e7 := hd2.cell 7; simp only [List.getElem?_toArray, List.getElem?_cons_zero, List.getElem?_cons_succ] at e7; have x7 := hd2.free 7; have HD2 := Lib.hid hd2; have HGR := Lib.hid hgrow; clear hd2 hown hgrow))
  all_goals
    clear HNEWS hone q0 q1 q2 q3 q4 d7 g7 hdA hdA2 hdA3
    go_end0
    exact ⟨⟨_, rfl⟩, ⟨_, HD2.out.set 7 _⟩, grown_trans (grown_trans (grown_trans (grown_below HB1.out _) (grown_alloc (grown_refl _ _) _)) (grown_drew (grown_refl _ _))) (grown_trans (grownN_any HGR.out) (grown_one _ _ _ _))⟩
end Go.Proofs.YtdjephmkpebnhaaDoor
