/- rings answers true. -/
import Derived.Test.YtdjephmkpebnhaaDoorRings3
namespace Go.Proofs.YtdjephmkpebnhaaDoor
open Go.RowKit

set_option maxRecDepth 100000 in
set_option maxHeartbeats 4000000 in
theorem rings_any (w : World) : Calls Tryd.prog 4 #[] w (RetBool w true) := by
  have HB0 := Lib.hid (fun o : Obj => (Below.refl w.heap.size w).alloc (Nat.le_refl _) o)
  have HSZ := Lib.hid (fun o : Obj => World.size_alloc w o)
  go_enter Tryd.func4, Tryd.ntmps4
  go_upto_region 2 with fail
  have HB1 := Lib.hid (HB0.out (.cells #[.int .i64 9, .int .i64 9, .int .i64 9] 49))
  have HL1 := Lib.hid (Lit0.new w 49 #[.int .i64 9, .int .i64 9, .int .i64 9])
  generalize w.alloc (.cells #[.int .i64 9, .int .i64 9, .int .i64 9] 49) = w1 at HB1 HL1 ⊢
  have c0 := HL1.out.cell 0
  have c1 := HL1.out.cell 1
  have c2 := HL1.out.cell 2
  simp only [List.getElem?_toArray, List.getElem?_cons_zero, List.getElem?_cons_succ] at c0 c1 c2
  clear HB0 HSZ
  go_wp2_with fail
  refine (newside_any w1).mono ?_
  rintro e w2 ⟨s, g, c, m, rfl, hsd, hG, ⟨w0, hm0, hbm⟩, hne, hb2⟩
  have hown : w2.ownsMap Tryd.prog 3 ptrR m 0 (.map []) := by
    subst hm0
    have h1 := World.ownsMap_made w0 Tryd.prog 3 ptrR
    refine World.ownsMap.kept (row := none) h1 (grown_below ?_ none) (by simp)
    rw [World.size_alloc]
    exact hbm
  have HS := Lib.hid hsd
  have HG := Lib.hid hG
  have HM := Lib.hid hown
  have HB2 := Lib.hid (HB1.out.trans (hb2.mono HB1.out.size))
  have HNE := Lib.hid hne
  have hs1 := HB1.out.size
  clear hsd hG hm0 hbm hown hb2 c0 c1 c2 HL1
  go_wp2_with fail
  refine (dial_any s g m c w2 HS.out HG.out HM.out (by have := HNE.out; exact ⟨this.1, this.2.1, this.2.2.1, HG.out.2.2⟩)).mono ?_
  rintro e w3 ⟨rfl, q, hd, hG3, hk3⟩
  have HB3 := Lib.hid (Kept.to_below hk3 HB2.out (by
    have := HNE.out
    intro x hx
    simp at hx
    omega))
  obtain ⟨out, hsd3⟩ := hd.1
  have HST := Lib.hid (state_any s g m q w3 hd)
  have HGP := Lib.hid (sdgroup_any s g m 1 out w3 hsd3)
  have HTX := Lib.hid (text_one g c 2 1 _ _ _ w3 hG3 rfl rfl)
  clear hd hG3 hk3 hsd3 HS HG HM HB2 HB1
  go_wp2_with fail
  refine HST.out.mono ?_
  rintro e w4 ⟨rfl, rfl⟩
  go_wp2_with fail
  refine HGP.out.mono ?_
  rintro e w4 ⟨rfl, rfl⟩
  go_wp2_with fail
  refine HTX.out.mono ?_
  rintro e w4 ⟨rfl, hb4⟩
  have HB4 := Lib.hid (HB3.out.trans (hb4.mono HB3.out.size))
  clear hb4
  go_wp2_with fail
  go_ret
  exact ⟨rfl, HB4.out⟩
end Go.Proofs.YtdjephmkpebnhaaDoor
