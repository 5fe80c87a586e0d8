/- 'Next' as a whole. -/
import Derived.Test.YtncklimjbejgoaaNext
namespace Go.Proofs.Ytncklimjbejgoaa
open Go.RowKit

/-- The best status among the first k choices. -/
def bestTo (m : Nat) (S : Nat → Int) : Nat → Int
  | 0 => 2
  | k + 1 => if stat m S k < bestTo m S k then stat m S k else bestTo m S k
theorem bestTo_le (m : Nat) (S : Nat → Int) : ∀ k, bestTo m S k ≤ 2
  | 0 => by simp [bestTo]
  | k + 1 => by have := bestTo_le m S k; unfold bestTo; split <;> omega
theorem bestTo_yes (m : Nat) (S : Nat → Int) (k : Nat) (h : stat m S k < bestTo m S k) : bestTo m S (k + 1) = stat m S k := by simp [bestTo, h]
theorem bestTo_no (m : Nat) (S : Nat → Int) (k : Nat) (h : ¬ stat m S k < bestTo m S k) : bestTo m S (k + 1) = bestTo m S k := by simp only [bestTo, if_neg h]
theorem bestTo_hit (m : Nat) (S : Nat → Int) : ∀ k, bestTo m S k ≠ 2 → ∃ i, i < k ∧ stat m S i = bestTo m S k
  | 0 => fun h => absurd rfl h
  | k + 1 => fun h => by
    unfold bestTo at h ⊢
    split at h
    · rename_i h1; exact ⟨k, by omega, by rw [if_pos h1]⟩
    · rename_i h1
      obtain ⟨i, hi, he⟩ := bestTo_hit m S k h
      exact ⟨i, by omega, by rw [if_neg h1]; exact he⟩
/-- The least rank among the first k of a list's choices, the first one's to begin with. -/
def rankTo (l : List Nat) (g : Nat → Int) : Nat → Int
  | 0 => g (l.getD 0 0)
  | k + 1 => if g (l.getD k 0) < rankTo l g k then g (l.getD k 0) else rankTo l g k

/-- What Next answers. -/
def nextOf (n m : Nat) (g S : Nat → Int) (sel : Nat) : Option Nat :=
  if bestTo m S n = 2 then none
  else
    let us := fun i => stat m S i == bestTo m S n
    let l := pick us n
    let r := rankTo l g l.length
    let group := pick (fun i => g i == r) n
    some (placeOf group.length (fun k => group.getD k 0) us (sel % 16))

theorem rankTo_yes (l : List Nat) (g : Nat → Int) (k : Nat) (h : g (l.getD k 0) < rankTo l g k) : rankTo l g (k + 1) = g (l.getD k 0) := by simp only [rankTo, if_pos h]
theorem rankTo_no (l : List Nat) (g : Nat → Int) (k : Nat) (h : ¬ g (l.getD k 0) < rankTo l g k) : rankTo l g (k + 1) = rankTo l g k := by simp only [rankTo, if_neg h]
/-- The rank is one of the list's. -/
theorem rankTo_hit (l : List Nat) (g : Nat → Int) (hl : 0 < l.length) : ∀ k, k ≤ l.length → ∃ j, j < l.length ∧ g (l.getD j 0) = rankTo l g k
  | 0, _ => ⟨0, hl, rfl⟩
  | k + 1, hk => by
    by_cases h : g (l.getD k 0) < rankTo l g k
    · exact ⟨k, by omega, by rw [rankTo_yes l g k h]⟩
    · obtain ⟨j, hj, he⟩ := rankTo_hit l g hl k (by omega)
      exact ⟨j, hj, by rw [rankTo_no l g k h]; exact he⟩

/-- What the closure 'usable' has captured: the statuses, the closure 'status', the best status. -/
structure Caught (b : Nat) (A2 : Option Addr) (m c2 : Nat) (S : Nat → Int) (best : Int) (w : World) : Prop where
  is : Box w b 23 (.slice A2 m c2)
  st : Box w (b + 1) 50 (.func (.func 16) #[] #[.pointer (some ⟨b, 0, none⟩)])
  best : Box w (b + 2) 49 (.int .u8 best)
  sees : Sees w w.heap.size A2 m (fun k => .int .u8 (S k))

theorem Caught.kept {b : Nat} {A2 : Option Addr} {m c2 : Nat} {S : Nat → Int} {best : Int} {w w' : World} (h : Caught b A2 m c2 S best w) (hb : Below w.heap.size w w') : Caught b A2 m c2 S best w' :=
  ⟨h.is.kept hb, h.st.kept hb, h.best.kept hb, (h.sees.below hb).more hb.size⟩

theorem Caught.usable {b : Nat} {A2 : Option Addr} {m c2 : Nat} {S : Nat → Int} {best : Int} {w : World} (h : Caught b A2 m c2 S best w) (i : Nat) :
    Calls Try.prog 17 (#[.int .i64 (i : Nat)] ++ #[.pointer (some ⟨b + 1, 0, none⟩), .pointer (some ⟨b + 1 + 1, 0, none⟩)]) w (RetBool w (stat m S i == best)) :=
  next_usable A2 m c2 b (b + 1) (b + 2) i S best w h.is.cell h.sees h.st.cell h.best.cell

theorem call18 (args : Array Value) (w : World) : (callFunc 18 args).run Try.prog w = .ok (.enter 18 args) w := by kernel_rfl

set_option maxHeartbeats 2000000 in
theorem next_any (A A2 : Option Addr) (n c m c2 : Nat) (f g : Nat → Int) (S : Nat → Int) (sel : Nat) (w : World) (hn : n ≤ 40) (hsel : sel < 256)
    (hs : Sees2 w w.heap.size A n (fun k => .int .u16 (f k)) (fun k => .int .i64 (g k)))
    (hs2 : Sees w w.heap.size A2 m (fun k => .int .u8 (S k))) :
    Calls Try.prog 9 #[.slice A n c, .slice A2 m c2, .int .u8 sel] w (RetSome w (nextOf n m g S sel)) := by
  have HS := Lib.hid hs
  have HS2 := Lib.hid hs2
  clear hs hs2
  go_enter Try.func9, Try.ntmps9
  go_wp2_with fail
  go_loopw [10, 20] (fun _ i wr => ∃ k : Nat, k ≤ n ∧ i = .int .i64 k ∧ Box wr w.heap.size 23 (.slice A2 m c2) ∧ Box wr (w.heap.size + 1) 50 (.func (.func 16) #[] #[.pointer (some ⟨w.heap.size, 0, none⟩)]) ∧
      Box wr (w.heap.size + 2) 49 (.int .u8 (bestTo m S k)) ∧ Below w.heap.size w wr)
    (fun _ i _ => n - (intOf i).toNat)
  case atStart =>
    refine ⟨0, Nat.zero_le _, rfl, ?_, ?_, ?_, ?_⟩
    · exact ((Box.new _ _ _).alloc _).alloc _
    · have h := (Box.new (w.alloc (.cells #[.slice A2 m c2] 23)) 50 (.func (.func 16) #[] #[.pointer (some ⟨w.heap.size, 0, none⟩)])).alloc (.cells #[.int .u8 2] 49)
      simpa using h
    · have h := Box.new ((w.alloc (.cells #[.slice A2 m c2] 23)).alloc (.cells #[.func (.func 16) #[] #[.pointer (some ⟨w.heap.size, 0, none⟩)]] 50)) 49 (.int .u8 2)
      simp only [World.size_alloc] at h
      exact h
    · exact (((Below.refl _ w).alloc (Nat.le_refl _) _).alloc (by simp) _).alloc (by simp; omega) _
  case round =>
    obtain ⟨k, hk, rfl, hc4, hc8, hc9, hnx⟩ := hrel
    have HC4 := Lib.hid hc4
    have HC8 := Lib.hid hc8
    have HC9 := Lib.hid hc9
    replace hc4 := hc4.cell
    replace hc8 := hc8.cell
    have hf9 := hc9.free
    replace hc9 := hc9.cell
    by_cases hlt : k < n
    · have hcon : ∀ n', Calls Try.prog 16 #[.int .i64 (k : Nat), .pointer (some ⟨w.heap.size, 0, none⟩)] (wr.drewN n') fun e w' => e = .returned (.int .u8 (stat m S k)) ∧ w' = wr.drewN n' :=
        fun n' => (next_status A2 m c2 _ k S (wr.drewN n') hc4 ((HS2.out.below hnx).more hnx.size)).mono fun e w' h => ⟨h.1, h.2.symm⟩
      have HCON := Lib.hid hcon
      clear hcon
      by_cases hmin : stat m S k < bestTo m S k
      all_goals
        go_wp2_with fail
        go_still_tail 5, (by kernel_rfl)
        still_call (HCON.out 1)
        repeat still_step
        refine wpStill_nil ?_
        change wpList _ _ _ _ _ wr.drew
        go_wp2_with fail
        go_roundw
        case measure => simp [intOf]; omega
        refine ⟨k + 1, by omega, by go_num, (HC4.out.far (by simp; omega) _).drew, (HC8.out.far (by simp) _).drew, ?_, (hnx.setCell (by simp; omega) _).drew⟩
        first
        | (rw [bestTo_yes m S k hmin]; exact (HC9.out.set _).drew)
        | (rw [bestTo_no m S k (by omega)]; exact (HC9.out.set _).drew)
    · obtain rfl : k = n := by omega
      by_cases hb : bestTo m S k = 2
      · have hb1 : (bestTo m S k == 2) = true := by simp [hb]
        have HR : nextOf k m g S sel = none := by unfold nextOf; rw [if_pos hb]
        have HR := Lib.hid HR
        rw [hb] at hc9
        clear hb hb1
        go_wp2_with fail
        go_ret2
        exact ⟨by rw [HR.out]; rfl, hnx⟩
      · have hb1 : (bestTo m S k == 2) = false := by simp [hb]
        have hble := bestTo_le m S k
        have HCA : Caught w.heap.size A2 m c2 S (bestTo m S k) wr := ⟨HC4.out, HC8.out, HC9.out, (HS2.out.below hnx).more hnx.size⟩
        have hex := bestTo_hit m S k hb
        have HEX := Lib.hid hex
        have HNB := Lib.hid hb
        have h50 : wr.heap.size ≤ wr.heap.size := Nat.le_refl _
        clear hex hb hc4 hc8 hf9 HC4 HC8 HC9
        go_wp2_with fail
        have hbx := Box.new wr 51 (.func (.func 17) #[] #[.pointer (some ⟨w.heap.size + 1, 0, none⟩), .pointer (some ⟨w.heap.size + 1 + 1, 0, none⟩)])
        have hnx1 := (Below.refl wr.heap.size wr).alloc (Nat.le_refl _) (.cells #[.func (.func 17) #[] #[.pointer (some ⟨w.heap.size + 1, 0, none⟩), .pointer (some ⟨w.heap.size + 1 + 1, 0, none⟩)]] 51)
        have HCA1 := HCA.kept hnx1
        have hnx01 := hnx.trans (hnx1.mono hnx.size)
        refine (which_choice 19 #[.pointer (some ⟨wr.heap.size, 0, none⟩)] (fun i => stat m S i == bestTo m S k) A k c f g _ hn call19 ((HS.out.below hnx01).more hnx01.size) ?_).mono ?_
        · intro i hi w' hbw
          exact next_first wr.heap.size i _ _ _ _ w' (hbx.kept hbw).cell (fun w'' hbw' => ((HCA1.kept hbw).kept hbw').usable i)
        rintro e w2 ⟨A', c', rfl, hle, hm, hsee, hb2⟩
        obtain ⟨l, hl⟩ : ∃ l, l = pick (fun i => stat m S i == bestTo m S k) k := ⟨_, rfl⟩
        rw [← hl] at hle hsee ⊢
        have hl0 : 0 < l.length := by
          obtain ⟨j, hj, hpj⟩ := HEX.out
          rw [hl]; exact pick_pos _ _ j hj (by simp [hpj])
        have hlk : l.length ≤ 40 := by rw [hl]; have := pick_le (fun i => stat m S i == bestTo m S k) k; omega
        have hlm : ∀ j, j < l.length → l.getD j 0 < k := fun j hj => by rw [hl]; exact (pick_getD_lt _ _ _ (by rw [← hl]; exact hj)).1
        have HL := Lib.hid hl
        have HLM := Lib.hid hlm
        have HSEE := Lib.hid hsee
        have HCA2 := HCA1.kept hb2
        have hbx2 := hbx.kept hb2
        have hnx02 := hnx01.trans (hb2.mono hnx01.size)
        obtain ⟨b2, off2, rfl, hb2', hc2⟩ := HSEE.out 0 hl0
        obtain ⟨x, hx⟩ : ∃ x, x = l.getD 0 0 := ⟨_, rfl⟩
        have hc2' : w2.cell? ⟨b2, off2, none⟩ = some (.int .i64 (x : Nat)) := by rw [hx]; exact hc2
        have hxk : x < k := by rw [hx]; exact HLM.out 0 hl0
        obtain ⟨b, off, rfl, hbb, hd0, hd1⟩ := HS.out x hxk
        have hd1' := (hnx02.cell (p := ⟨b, off + x * 2 + 1, none⟩) hbb).trans hd1
        have HX := Lib.hid hx
        have HBX2 := Lib.hid hbx2
        have HNX := Lib.hid hnx02
        clear hx hl hlm hsee hc2 hd0 hd1 hbx hbx2 hnx1 hnx01 hb2 hnx02 HCA HCA1 hnx hc9
        go_wp2_with fail
        obtain ⟨wo, rfl⟩ : ∃ wo : World, wo = wr := ⟨_, rfl⟩
        go_loopw [15, 44] (fun _ i ww => ∃ j : Nat, j ≤ l.length ∧ i = .int .i64 j ∧ Box ww w2.heap.size 3 (.int .i64 (rankTo l g j)) ∧ Below w2.heap.size w2 ww)
          (fun _ i _ => l.length - (intOf i).toNat)
        case atStart => exact ⟨0, Nat.zero_le _, rfl, by rw [show rankTo l g 0 = g x from by rw [HX.out]; rfl]; exact Box.new _ _ _, (Below.refl _ _).alloc (Nat.le_refl _) _⟩
        case round =>
          obtain ⟨j, hj, rfl, hr3, hnx3⟩ := hrel
          have HR3 := Lib.hid hr3
          have hcr := hr3.cell
          have hfr := hr3.free
          clear hr3
          by_cases hjl : j < l.length
          · have hc3 : wr.cell? ⟨b2, off2 + j, none⟩ = some (.int .i64 (l.getD j 0 : Nat)) := (hnx3.cell (p := ⟨b2, off2 + j, none⟩) hb2').trans (HSEE.out.cell hjl)
            have hyk := HLM.out j hjl
            obtain ⟨y, hy⟩ : ∃ y, y = l.getD j 0 := ⟨_, rfl⟩
            rw [← hy] at hc3 hyk
            have hd3 : wr.cell? ⟨b, off + y * 2 + 1, none⟩ = some (.int .i64 (g y)) := by
              obtain ⟨b', off', he, hb', _, hd⟩ := HS.out y hyk
              injection he with he
              injection he with he1 he2
              subst he1 he2
              have h1 := HNX.out.size
              exact (hnx3.cell (p := ⟨b, off + y * 2 + 1, none⟩) (by simp; omega)).trans ((HNX.out.cell (p := ⟨b, off + y * 2 + 1, none⟩) hbb).trans hd)
            have HY := Lib.hid hy
            clear hy
            by_cases hmin : g y < rankTo l g j
            all_goals
              go_wp2_with fail
              go_still_tail 7, (by kernel_rfl)
              change wpList _ _ _ _ _ wr.drew
              go_wp2_with fail
              go_roundw
              case measure => simp [intOf]; omega
              refine ⟨j + 1, by omega, by go_num, ?_, (hnx3.setCell (by simp) _).drew⟩
              first
              | (rw [rankTo_yes l g j (by rw [← HY.out]; exact hmin), ← HY.out]; exact (HR3.out.set _).drew)
              | (rw [rankTo_no l g j (by rw [← HY.out]; omega)]; exact (HR3.out.set _).drew)
          · obtain rfl : j = l.length := by omega
            obtain ⟨r, hr⟩ : ∃ r, r = rankTo l g l.length := ⟨_, rfl⟩
            rw [← hr] at HR3
            have hrh := rankTo_hit l g hl0 l.length (Nat.le_refl _)
            rw [← hr] at hrh
            have HRH := Lib.hid hrh
            have HCA3 := HCA2.kept hnx3
            have hnx03 := HNX.out.trans (hnx3.mono HNX.out.size)
            have hbx3 := HBX2.out.kept hnx3
            have hbr := HR3.out
            have HRR := Lib.hid hr
            clear hr hrh hcr hfr
            have HHBR := Lib.hid hbr
            have HHBX3 := Lib.hid hbx3
            have HHN := Lib.hid hnx03
            clear hbr hbx3 hnx03 hnx3 hd1' hc2'
            go_wp2_with fail
            refine (which_choice 20 #[.pointer (some ⟨w2.heap.size, 0, none⟩)] (fun i => g i == r) _ k c f g wr hn call20 ((HS.out.below HHN.out).more HHN.out.size) ?_).mono ?_
            · intro i hi w' hbw
              exact next_same w2.heap.size i _ _ r w' (HHBR.out.kept hbw).cell
            rintro e w4 ⟨A4, c4, rfl, hle4, hm4, hsee4, hb4⟩
            obtain ⟨gr, hgr⟩ : ∃ gr, gr = pick (fun i => g i == r) k := ⟨_, rfl⟩
            rw [← hgr] at hle4 hsee4 ⊢
            have hg1 : ∀ j, j < gr.length → gr.getD j 0 < k := fun j hj => by rw [hgr]; exact (pick_getD_lt _ _ _ (by rw [← hgr]; exact hj)).1
            have hgl : gr.length ≤ 40 := by rw [hgr]; have := pick_le (fun i => g i == r) k; omega
            -- some member of the group is usable
            have hgx : ∃ j, j < gr.length ∧ (fun i => stat m S i == bestTo m S k) (gr.getD j 0) = true := by
              obtain ⟨j, hj, hjr⟩ := HRH.out
              have hmem : l.getD j 0 ∈ gr := by
                rw [hgr]
                unfold pick
                rw [List.mem_filter, List.mem_range]
                exact ⟨HLM.out j hj, beq_iff_eq.2 hjr⟩
              obtain ⟨q, hq, hqe⟩ := List.getElem_of_mem hmem
              refine ⟨q, hq, ?_⟩
              rw [List.getD_eq_getElem?_getD, List.getElem?_eq_getElem hq]
              show (stat m S gr[q] == bestTo m S k) = true
              rw [hqe, HL.out]
              exact (pick_getD_lt _ _ _ (by rw [← HL.out]; exact hj)).2
            have hg0 : 0 < gr.length := by obtain ⟨j, hj, _⟩ := hgx; omega
            have HGX := Lib.hid hgx
            have HG1 := Lib.hid hg1
            have HGR := Lib.hid hgr
            have HSE4 := Lib.hid hsee4
            have HCA4 := HCA3.kept hb4
            have HHN4 := Lib.hid (HHN.out.trans (hb4.mono HHN.out.size))
            have hbx4 := (HHBX3.out.kept hb4).cell
            clear hgx hg1 hgr hsee4 hb4
            go_wp2_with fail
            refine (place_any 17 #[.pointer (some ⟨w.heap.size + 1, 0, none⟩), .pointer (some ⟨w.heap.size + 1 + 1, 0, none⟩)] (fun i => stat m S i == bestTo m S k) A4 gr.length c4 (fun j => gr.getD j 0) (sel % 16) _ (by omega) w4 hgl hg0 (by omega) call17 HSE4.out HGX.out ?_).mono ?_
            · intro j hj w' hbw
              exact (HCA4.kept hbw).usable _
            rintro e w5 ⟨rfl, hb5⟩
            have hfin : nextOf k m g S sel = some (placeOf gr.length (fun j => gr.getD j 0) (fun i => stat m S i == bestTo m S k) (sel % 16)) := by
              unfold nextOf
              rw [if_neg HNB.out]
              simp only
              rw [← HL.out, ← HRR.out, ← HGR.out]
            have HFIN := Lib.hid hfin
            have hend := HHN4.out.trans (hb5.mono HHN4.out.size)
            clear hfin hb5
            go_wp2_with fail
            go_ret2
            exact ⟨by rw [HFIN.out]; rfl, hend⟩
end Go.Proofs.Ytncklimjbejgoaa
