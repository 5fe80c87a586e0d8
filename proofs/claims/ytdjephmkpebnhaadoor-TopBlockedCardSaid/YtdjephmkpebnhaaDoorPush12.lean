/- next: region 12: both rows grow by one. -/
import Derived.Test.YtdjephmkpebnhaaDoorNextA
import Derived.Test.YtdjephmkpebnhaaDoorRegs
import Derived.Deep.RegionLaw
import Derived.Deep.AppendLies
namespace Go.Proofs.YtdjephmkpebnhaaDoor
open Go.RowKit

noncomputable def reg12 : Code := (Tryd.f24.body.bind (regionOf 12)).getD .skip

set_option maxRecDepth 100000 in
set_option maxHeartbeats 40000000 in
theorem push12 (u0 u1 u2 u4 u5 u6 u7 u8 u9 u10 u11 u12 u13 u14 u15 u16 u17 u18 u19 u20 u21 u22 u23 u24 u25 u26 u27 u28 u29 u30 u31 u32 u33 u34 u35 u36 u37 u38 u39 u40 u41 u42 u43 u44 u45 u46 u47 u48 u49 u50 u51 u52 u53 u54 u55 u56 u57 u58 u59 u60 u61 u62 u63 u64 u65 u66 u67 u68 u69 u70 u71 u72 u73 u74 u75 u76 u77 u78 u79 u80 u81 u82 u83 u84 u85 u86 u87 u88 u89 u90 u91 u92 u93 u94 u95 u96 u97 u98 u99 u100 u101 u102 u103 u104 u105 u106 u107 u108 u109 u110 u111 u112 u113 u114 u115 u116 u117 u118 u119 u120 u121 u122 u123 u124 u125 u126 u127 u128 u129 u130 u131 u132 u133 u134 u135 u136 u137 u138 u139 u140 u141 : Value) (K : Act → World → Prop) (wA : World) (B0 mb j cm co : Nat) (Am Ao : Option Addr) (a0 a1 a2 : Value) (F G : Nat → Bool)
    (HDUO : Hid (Duo wA wA B0 mb j #[a0, a1, a2, .slice Am j cm, .slice Ao j co] (.slice Am j cm) (.slice Ao j co) F G)) (HAPW : Hid (Apart (.slice Am j cm) (.slice Ao j co))) (HBA : Hid (B0 ≤ wA.heap.size)) (HMBB : Hid (mb < B0)) (hj : j ≤ 100) (HF : Hid (false = F j ∧ false = G j))
    (HQ : Hid (∀ (v85 v86 v87 v88 v89 v90 v91 v92 v93 v94 v95 v96 v97 v98 v99 v100 v101 v102 : Value) (g2 cap2 g4 cap4 : Nat) (wS : World), Hid (Grew wA wS B0 mb (j + 1) a0 a1 a2 F G (.slice (some ⟨g2, 0, none⟩) (j + 1) cap2) (.slice (some ⟨g4, 0, none⟩) (j + 1) cap4)) → K ⟨#[u0, u1, u2, .pointer (some ⟨mb, 0, none⟩), u4, u5, u6, u7, u8, u9, u10, u11, u12, u13, u14, u15, u16, u17, u18, u19, u20, u21, u22, u23, u24, u25, u26, u27, u28, u29, u30, u31, u32, u33, u34, u35, u36, u37, u38, u39, u40, u41, u42, u43, u44, u45, u46, u47, u48, u49, u50, u51, u52, u53, u54, u55, u56, u57, u58, u59, u60, u61, u62, u63, u64, u65, u66, u67, u68, u69, u70, u71, u72, u73, u74, u75, u76, u77, u78, u79, u80, u81, u82, u83, u84, v85, v86, v87, v88, v89, v90, v91, v92, v93, v94, v95, v96, v97, v98, v99, v100, v101, v102, u103, u104, u105, u106, u107, u108, u109, u110, u111, u112, u113, u114, u115, u116, u117, u118, u119, u120, u121, u122, u123, u124, u125, u126, u127, u128, u129, u130, u131, u132, u133, u134, u135, u136, u137, u138, u139, u140, u141], []⟩ wS)) :
    Code.wp Tryd.prog reg12 (Qn K) ⟨#[u0, u1, u2, .pointer (some ⟨mb, 0, none⟩), u4, u5, u6, u7, u8, u9, u10, u11, u12, u13, u14, u15, u16, u17, u18, u19, u20, u21, u22, u23, u24, u25, u26, u27, u28, u29, u30, u31, u32, u33, u34, u35, u36, u37, u38, u39, u40, u41, u42, u43, u44, u45, u46, u47, u48, u49, u50, u51, u52, u53, u54, u55, u56, u57, u58, u59, u60, u61, u62, u63, u64, u65, u66, u67, u68, u69, u70, u71, u72, u73, u74, u75, u76, u77, u78, u79, u80, u81, u82, u83, u84, u85, u86, u87, u88, u89, u90, u91, u92, u93, u94, u95, u96, u97, u98, u99, u100, u101, u102, u103, u104, u105, u106, u107, u108, u109, u110, u111, u112, u113, u114, u115, u116, u117, u118, u119, u120, u121, u122, u123, u124, u125, u126, u127, u128, u129, u130, u131, u132, u133, u134, u135, u136, u137, u138, u139, u140, u141], []⟩ wA := by
  conv => arg 2; whnf
  have c3 := HDUO.out.box.cell 3
  have c4 := HDUO.out.box.cell 4
  have fc3 := HDUO.out.box.free 3
  have fc4 := HDUO.out.box.free 4
  simp only [List.getElem?_toArray, List.getElem?_cons_zero, List.getElem?_cons_succ] at c3 c4
  have HLEN := Lib.hid (show j + 1 ≤ maxLen by unfold maxLen; omega)
  have HLEN2 := Lib.hid (show (j + 1) * 1 ≤ 140737488355328 by omega)
  obtain ⟨i0, hi, hz0, hz1, hz2⟩ := info_parts Tryd.info4
  have HX0 := Lib.hid (fun o => (HDUO.out.alloc HBA.out o).drew)
  have HX2 := Lib.hid (fun o o' => ((HDUO.out.alloc HBA.out o).alloc HBA.out o').drew)
  have hnM : ∀ v : Value, (∃ x, v = .bool x) → ∀ u ∈ ([v] : List Value), u.oneCell' = true := by
    rintro v ⟨x, rfl⟩ u hu
    simp at hu
    subst hu
    rfl
  have HNM := Lib.hid hnM
  have hnA0 : ¬ wA.heap.size = mb := by have := HDUO.out.box.lt; omega
  have hnA1 : ¬ wA.heap.size + 1 = mb := by have := HDUO.out.box.lt; omega
  have hnA2 : ¬ mb = wA.heap.size := fun h => hnA0 h.symm
  have hnA3 : mb < wA.heap.size := HDUO.out.box.lt
  have hnA4 : ¬ mb = wA.heap.size + 1 := fun h => hnA1 h.symm
  have hN0 : ∀ v : Value, ∀ o, (((wA.alloc (.cells #[v] 4)).alloc o).drew).cell? ⟨wA.heap.size, 0, none⟩ = some v := fun v o => cell_new1 wA v 4 o
  have hN1 : ∀ v : Value, ∀ o, (((wA.alloc o).alloc (.cells #[v] 4)).drew).cell? ⟨wA.heap.size + 1, 0, none⟩ = some v := fun v o => cell_new2 wA v 4 o
  have hN : ∀ v : Value, ((wA.alloc (.cells #[v] 4)).drew).cell? ⟨wA.heap.size, 0, none⟩ = some v := fun v => cell_new wA v 4
  have HN0 := Lib.hid hN0
  have HN1 := Lib.hid hN1
  have HN := Lib.hid hN
  have HY1 := Lib.hid (fun (o : Obj) {w2 : World} h => y_kept1 (w2 := w2) HDUO.out.m (.bool false) o h)
  have HY0 := Lib.hid (fun (o : Obj) {w2 : World} h => y_kept0 (w2 := w2) HDUO.out.m (.bool false) o h)
  clear hnM hN0 hN1 hN
  go_region_law (first
    | (refine step_append_lies _ (by rfl) (.tmp 90) (.tmp 91) 33 (by rfl) B0 4 i0 (.bool false) 1 1 Tryd.underlying33 hi hz0 hz1 hz2 (by rfl) (by decide) (.slice Am j cm) j (boolsOf j F) (by rfl) (by first | (with_reducible exact (HX0.out _).m) | (with_reducible exact (HX2.out _ _).m)) _ 1 1 [.bool false] (by rfl) (by rfl) (by first | (with_reducible exact one_new (HN.out _)) | (with_reducible exact one_new (HN0.out _ _)) | (with_reducible exact one_new (HN1.out _ _))) (HNM.out _ ⟨_, rfl⟩) (by decide) HLEN.out HLEN2.out (by first | (with_reducible exact Nat.le_trans HBA.out (HX0.out _).up.size) | (with_reducible exact Nat.le_trans HBA.out (HX2.out _ _).up.size)) _ (by rfl) ?_; intro g2 cap2 w2 hown2 hgrow2 hat2 hlt2; have HH := Lib.hid (Duo.push (w0 := wA) (by first | (with_reducible exact HX0.out _) | (with_reducible exact HX2.out _ _)) HBA.out HMBB.out HAPW.out hown2 hgrow2 hat2 hlt2); have h2c := HH.out.box.cell 4; have HG2 := Lib.hid hgrow2; simp only [List.getElem?_toArray, List.getElem?_cons_zero, List.getElem?_cons_succ] at h2c; have hs2 := HH.out.box.lt; have hs3 : ¬ w2.heap.size = mb := (by omega); have hs4 : ¬ mb = w2.heap.size := (by omega); clear hown2 hgrow2 hat2 hlt2)
    | (refine step_append_lies _ (by rfl) (.tmp 96) (.tmp 97) 33 (by rfl) B0 4 i0 (.bool false) 1 1 Tryd.underlying33 hi hz0 hz1 hz2 (by rfl) (by decide) (.slice Ao j co) j (boolsOf j G) (by rfl) (by first | (with_reducible exact HH.out.o) | (with_reducible exact (HH.out.alloc HBA.out _).o)) _ 1 1 [.bool false] (by rfl) (by rfl) (by first | (with_reducible exact one_new (cell_new _ _ _)) | (with_reducible exact one_new (HY1.out _ HG2.out)) | (with_reducible exact one_new (HY0.out _ HG2.out))) (HNM.out _ ⟨_, rfl⟩) (by decide) HLEN.out HLEN2.out (by first | (with_reducible exact Nat.le_trans HBA.out HH.out.up.size) | (with_reducible exact Nat.le_trans HBA.out (HH.out.alloc HBA.out _).up.size)) _ (by rfl) ?_; intro g4 cap4 w4 hown4 hgrow4 hat4 hlt4; have HBO := Lib.hid (Half.push (w0 := wA) (by first | (with_reducible exact HH.out) | (with_reducible exact HH.out.alloc HBA.out _)) HBA.out HMBB.out hown4 hgrow4 hat4); have h4c := HBO.out.box.cell 3; have h4d := HBO.out.box.cell 4; simp only [List.getElem?_toArray, List.getElem?_cons_zero, List.getElem?_cons_succ] at h4c h4d; have h4f := HBO.out.box.free 3; have h4g := HBO.out.box.free 4; clear hown4 hgrow4 hat4 hlt4))
  all_goals
    first
      | (have hfin := HBO.out.grew HF.out.1 HF.out.2 HMBB.out
         exact HQ.out _ _ _ _ _ _ _ _ _ _ _ _ _ _ _ _ _ _ g2 cap2 g4 cap4 _ (Lib.hid hfin))
      | (have hfin := HBO.out.grew2 HF.out.1 HF.out.2 HMBB.out
         exact HQ.out _ _ _ _ _ _ _ _ _ _ _ _ _ _ _ _ _ _ g2 cap2 g4 cap4 _ (Lib.hid hfin))
      | trace_state
end Go.Proofs.YtdjephmkpebnhaaDoor
