/- The statement's own 'next': it answers as the program's Next. -/
import Derived.Test.YtncklimjbejgoaaLaw
import Derived.Deep.OwnRows
namespace Go.Proofs.Ytncklimjbejgoaa
open Go.RowKit

theorem made_get (z : Value) (n j : Nat) (hj : j < n) : (madeCells #[z] n)[j]? = some z := by
  simp [madeCells, hj, Nat.mod_one]

theorem Try.infoB : (Try.prog.info? 4).map (fun i => (i.zero, i.size, i.bytes)) = some (some (.bool false), 1, 1) := by kernel_rfl

/-- 'first' after some choices: none is usable yet, or the first one of the least rank among the usable ones. -/
def FirstIs (l : List Nat) (g : Nat → Int) (F : Int) : Prop := (F = -1 ∧ l = []) ∨ ∃ j : Nat, F = (j : Int) ∧ j ∈ l ∧ g j = rankTo l g l.length

theorem rankTo_snoc (l : List Nat) (x : Nat) (g : Nat → Int) (hl : 0 < l.length) : ∀ k, k ≤ l.length → rankTo (l ++ [x]) g k = rankTo l g k
  | 0, _ => by
    simp only [rankTo]
    rw [List.getD_eq_getElem?_getD, List.getD_eq_getElem?_getD, List.getElem?_append_left hl]
  | k + 1, hk => by
    have h1 : (l ++ [x]).getD k 0 = l.getD k 0 := by simp [List.getD_eq_getElem?_getD, List.getElem?_append_left (show k < l.length by omega)]
    simp only [rankTo]
    rw [rankTo_snoc l x g hl k (by omega), h1]
theorem rankTo_all (l : List Nat) (x : Nat) (g : Nat → Int) (hl : 0 < l.length) : rankTo (l ++ [x]) g (l ++ [x]).length = if g x < rankTo l g l.length then g x else rankTo l g l.length := by
  have h1 : (l ++ [x]).getD l.length 0 = x := by simp [List.getD_eq_getElem?_getD]
  rw [List.length_append, List.length_singleton]
  simp only [rankTo]
  rw [rankTo_snoc l x g hl _ (Nat.le_refl _), h1]
theorem rankTo_one (x : Nat) (g : Nat → Int) : rankTo [x] g [x].length = g x := by simp [rankTo]

theorem first_new {l : List Nat} {g : Nat → Int} {F : Int} (h : FirstIs l g F) (x : Nat) (hF : F < 0) : FirstIs (l ++ [x]) g (x : Int) := by
  rcases h with ⟨_, rfl⟩ | ⟨j, rfl, _⟩
  · exact .inr ⟨x, rfl, by simp, by rw [List.nil_append, rankTo_one]⟩
  · omega
theorem first_less {l : List Nat} {g : Nat → Int} {j : Nat} (h : FirstIs l g (j : Int)) (x : Nat) (hx : g x < g j) : FirstIs (l ++ [x]) g (x : Int) := by
  rcases h with ⟨h, _⟩ | ⟨j', hj, hm, hg⟩
  · omega
  · have : j = j' := by omega
    subst this
    refine .inr ⟨x, rfl, by simp, ?_⟩
    rw [rankTo_all l x g (List.length_pos_of_mem hm), ← hg, if_pos hx]
theorem first_keep {l : List Nat} {g : Nat → Int} {j : Nat} (h : FirstIs l g (j : Int)) (x : Nat) (hx : ¬ g x < g j) : FirstIs (l ++ [x]) g (j : Int) := by
  rcases h with ⟨h, _⟩ | ⟨j', hj, hm, hg⟩
  · omega
  · have : j = j' := by omega
    subst this
    refine .inr ⟨j, rfl, by simp [hm], ?_⟩
    rw [rankTo_all l x g (List.length_pos_of_mem hm), ← hg, if_neg hx]

set_option maxHeartbeats 2000000 in
theorem law_next (A A2 : Option Addr) (n c m c2 : Nat) (f g : Nat → Int) (S : Nat → Int) (sel : Nat) (w : World) (hn : n ≤ 40) (hsel : sel < 256)
    (hs : Sees2 w w.heap.size A n (fun k => .int .u16 (f k)) (fun k => .int .i64 (g k)))
    (hs2 : Sees w w.heap.size A2 m (fun k => .int .u8 (S k))) :
    Calls Try.prog 10 #[.slice A n c, .slice A2 m c2, .int .u8 sel] w fun e w' => e = .returned (.int .i64 (code (nextOf n m g S sel))) ∧ Below w.heap.size w w' := by
  obtain ⟨i0, hi, hz0, hz1, hz2⟩ := info_parts Try.info3
  have HS := Lib.hid hs
  have HS2 := Lib.hid hs2
  clear hs hs2
  have hmk : ∀ w : World, (Instr.makeSlice 30 (.int .i64 (n : Int)) (.int .i64 (n : Int))).run Try.prog w = .ok (.slice (some ⟨w.heap.size, 0, none⟩) n n) (w.alloc (.cells (madeCells #[.bool false] n) 4)) :=
    fun w => run_make_row' 30 4 (.bool false) 1 Try.underlying30 Try.infoB rfl .i64 .i64 n (by omega) (by omega) w
  have HMK := Lib.hid hmk
  clear hmk
  go_enter Try.func10, Try.ntmps10
  go_wp2_with fail
  go_loopw [7, 8] (fun v i wr => ∃ k : Nat, k ≤ n ∧ i = .int .i64 k ∧ v = .int .u8 (bestTo m S k) ∧ wr = w) (fun _ i _ => n - (intOf i).toNat)
  case atStart => exact ⟨0, Nat.zero_le _, rfl, rfl, rfl⟩
  case round =>
    obtain ⟨k, hk, rfl, rfl, rfl⟩ := hrel
    by_cases hlt : k < n
    · by_cases hmin : stat m S k < bestTo m S k
      all_goals
        go_wp2_with fail
        refine (law_status A2 m c2 k S wr HS2.out).mono ?_
        rintro e w' ⟨rfl, rfl⟩
        go_wp2_with fail
        go_roundw
        case measure => simp [intOf]; omega
        refine ⟨k + 1, by omega, by go_num, ?_, by first | rfl | trivial⟩
        first | (rw [bestTo_yes m S k hmin]; done) | (rw [bestTo_yes m S k hmin]; rfl) | (rw [bestTo_no m S k (by omega)]; done) | (rw [bestTo_no m S k (by omega)]; rfl)
    · obtain rfl : k = n := by omega
      by_cases hb : bestTo m S k = 2
      · have hb1 : (bestTo m S k == 2) = true := by simp [hb]
        have HR : nextOf k m g S sel = none := by unfold nextOf; rw [if_pos hb]
        have HR := Lib.hid HR
        clear hb
        go_wp2_with fail
        go_ret
        exact ⟨by rw [HR.out]; rfl, Below.refl _ _⟩
      · have hb1 : (bestTo m S k == 2) = false := by simp [hb]
        have hex := bestTo_hit m S k hb
        have HEX := Lib.hid hex
        have HNB := Lib.hid hb
        have hmk := HMK.out
        clear hex hb
        go_wp2_with fail
        clear hmk
        have hrow0 : Row (wr.alloc (.cells (madeCells #[.bool false] k) 4)) wr.heap.size 4 k (fun i => .bool (decide (i < 0) && (stat m S i == bestTo m S k))) :=
          Row.new _ (size_madeCells _ _) (fun j hj => by rw [made_get _ _ _ hj]; simp)
        obtain ⟨wo, rfl⟩ : ∃ wo : World, wo = wr := ⟨_, rfl⟩
        go_loopw [10, 11] (fun v i ww => ∃ q : Nat, q ≤ k ∧ i = .int .i64 q ∧ Row ww wo.heap.size 4 k (fun i => .bool (decide (i < q) && (stat m S i == bestTo m S k))) ∧
            (∃ F : Int, v = .int .i64 F ∧ FirstIs (pick (fun i => stat m S i == bestTo m S k) q) g F) ∧ Below wo.heap.size wo ww) (fun _ i _ => k - (intOf i).toNat)
        case atStart => exact ⟨0, Nat.zero_le _, rfl, hrow0, ⟨-1, rfl, .inl ⟨rfl, rfl⟩⟩, (Below.refl _ _).alloc (Nat.le_refl _) _⟩
        case round =>
          clear hrow0
          obtain ⟨q, hq, rfl, hrow, ⟨F, rfl, hF⟩, hnx⟩ := hrel
          have HF := Lib.hid hF
          have HROW := Lib.hid hrow
          clear hF
          by_cases hqk : q < k
          · have hcell := hrow.cell hqk
            have hfree := hrow.free q
            have hsz : wo.heap.size < wr.heap.size := hrow.lt
            clear hrow
            obtain ⟨b, off, rfl, hbb, hd0, hd1⟩ := HS.out q hqk
            have hstat := (law_status A2 m c2 q S wr ((HS2.out.below hnx).more hnx.size))
            have HST := Lib.hid hstat
            have hg1 : ∀ u : Value, (wr.setCell ⟨wo.heap.size, q, none⟩ u).cell? ⟨b, off + q * 2 + 1, none⟩ = some (.int .i64 (g q)) := fun u =>
              ((hnx.setCell (p := ⟨wo.heap.size, q, none⟩) (Nat.le_refl _) u).cell (p := ⟨b, off + q * 2 + 1, none⟩) hbb).trans hd1
            have hbel : ∀ u : Value, Below wo.heap.size wo (wr.setCell ⟨wo.heap.size, q, none⟩ u) := fun u => hnx.setCell (Nat.le_refl _) u
            have HBEL := Lib.hid hbel
            have HG1 := Lib.hid hg1
            have hrel : ∀ u : Bool, u = (stat m S q == bestTo m S k) → Row (wr.setCell ⟨wo.heap.size, q, none⟩ (.bool u)) wo.heap.size 4 k (fun i => .bool (decide (i < q + 1) && (stat m S i == bestTo m S k))) := by
              intro u hu
              refine (HROW.out.set hqk (.bool u)).congr fun j hj => ?_
              by_cases e : j = q
              · subst e; simp [hu]
              · rw [if_neg e]; congr 2; simp only [decide_eq_decide]; omega
            have HREL := Lib.hid hrel
            clear hstat hd0 hd1 hbel hg1 hrel hnx
            cases hu : (stat m S q == bestTo m S k) with
            | false =>
              have hps : pick (fun i => stat m S i == bestTo m S k) (q + 1) = pick (fun i => stat m S i == bestTo m S k) q := by rw [pick_succ, if_neg (by simp [hu])]
              have HPS := Lib.hid hps
              have HU := Lib.hid hu
              clear hps
              go_wp2_with fail
              refine HST.out.mono ?_
              rintro e w' ⟨rfl, rfl⟩
              go_wp2_with fail
              go_quiet (fail)
              go_wp2_with fail
              go_roundw
              case measure => simp [intOf]; omega
              case rel => exact ⟨q + 1, by omega, by go_num, HREL.out false HU.out.symm, ⟨F, rfl, by rw [HPS.out]; exact HF.out⟩, Below.drewN' (HBEL.out _) _⟩
            | true =>
              have hps : pick (fun i => stat m S i == bestTo m S k) (q + 1) = pick (fun i => stat m S i == bestTo m S k) q ++ [q] := by rw [pick_succ, if_pos hu]
              have HPS := Lib.hid hps
              have HU := Lib.hid hu
              clear hps
              by_cases hF0 : F < 0
              · have hF1 : decide (F < 0) = true := by simpa using hF0
                go_wp2_with fail
                refine HST.out.mono ?_
                rintro e w' ⟨rfl, rfl⟩
                go_wp2_with fail
                go_quiet (fail)
                go_wp2_with fail
                go_roundw
                case measure => simp [intOf]; omega
                case rel => exact ⟨q + 1, by omega, by go_num, HREL.out true HU.out.symm, ⟨q, rfl, by rw [HPS.out]; exact first_new HF.out q hF0⟩, Below.drewN' (HBEL.out _) _⟩
              · have hF1 : decide (F < 0) = false := by simpa using hF0
                have hj : ∃ j : Nat, F = (j : Int) ∧ j < k := by
                  rcases HF.out with ⟨h, _⟩ | ⟨j, h, hm, _⟩
                  · omega
                  · unfold pick at hm
                    rw [List.mem_filter, List.mem_range] at hm
                    exact ⟨j, h, by omega⟩
                obtain ⟨j, rfl, hjk⟩ := hj
                have hg2 : ∀ u : Value, (wr.setCell ⟨wo.heap.size, q, none⟩ u).cell? ⟨b, off + j * 2 + 1, none⟩ = some (.int .i64 (g j)) := fun u => by
                  obtain ⟨b', off', he, hb', _, hd⟩ := HS.out j hjk
                  injection he with he
                  injection he with he1 he2
                  subst he1 he2
                  exact ((HBEL.out u).cell (p := ⟨b, off + j * 2 + 1, none⟩) hbb).trans hd
                have hg2' := hg2 (.bool true)
                have hg1' := HG1.out (.bool true)
                clear hg2
                by_cases hless : g q < g j
                · have hl1 : decide (g q < g j) = true := by simpa using hless
                  have HLE := Lib.hid hless
                  go_wp2_with fail
                  refine HST.out.mono ?_
                  rintro e w' ⟨rfl, rfl⟩
                  go_wp2_with fail
                  go_quiet (fail)
                  go_wp2_with fail
                  go_roundw
                  case measure => simp [intOf]; omega
                  case rel => exact ⟨q + 1, by omega, by go_num, HREL.out true HU.out.symm, ⟨q, rfl, by rw [HPS.out]; exact first_less HF.out q HLE.out⟩, Below.drewN' (HBEL.out _) _⟩
                · have hl1 : decide (g q < g j) = false := by simpa using hless
                  have HLE := Lib.hid hless
                  go_wp2_with fail
                  refine HST.out.mono ?_
                  rintro e w' ⟨rfl, rfl⟩
                  go_wp2_with fail
                  go_quiet (fail)
                  go_wp2_with fail
                  go_roundw
                  case measure => simp [intOf]; omega
                  case rel => exact ⟨q + 1, by omega, by go_num, HREL.out true HU.out.symm, ⟨j, rfl, by rw [HPS.out]; exact first_keep HF.out q (by have := HLE.out; omega)⟩, Below.drewN' (HBEL.out _) _⟩
          · obtain rfl : q = k := by omega
            have hFj : ∃ j : Nat, F = (j : Int) ∧ j < q ∧ g j = rankTo (pick (fun i => stat m S i == bestTo m S q) q) g (pick (fun i => stat m S i == bestTo m S q) q).length ∧ (stat m S j == bestTo m S q) = true := by
              rcases HF.out with ⟨_, h⟩ | ⟨j, h, hm, hg⟩
              · obtain ⟨j, hj, hjb⟩ := HEX.out
                have := pick_pos (fun i => stat m S i == bestTo m S q) q j hj (by simp [hjb])
                rw [h] at this
                simp at this
              · unfold pick at hm
                rw [List.mem_filter, List.mem_range] at hm
                exact ⟨j, h, hm.1, hg, hm.2⟩
            obtain ⟨j, rfl, hjq, hgj, huj⟩ := hFj
            have HGJ := Lib.hid hgj
            have HUJ := Lib.hid huj
            obtain ⟨b, off, rfl, hbb, _, hd1⟩ := HS.out j hjq
            have hdj := (hnx.cell (p := ⟨b, off + j * 2 + 1, none⟩) hbb).trans hd1
            have hrowE := hrow.congr (f' := fun i => .bool (stat m S i == bestTo m S q)) (fun i hi => by simp [hi])
            have HROWE := Lib.hid hrowE
            clear hgj huj hd1 hrow hrowE HROW
            go_wp2_with fail
            obtain ⟨wt, rfl⟩ : ∃ wt : World, wt = wr := ⟨_, rfl⟩
            go_loopw [12, 13] (fun v i ww => ∃ p : Nat, p ≤ q ∧ i = .int .i64 p ∧ ww.ownsRow wt.heap.size 3 1 v (pick (fun i => g i == g j) p).length (enc (pick (fun i => g i == g j) p)) ∧ Below wt.heap.size wt ww)
              (fun _ i _ => q - (intOf i).toNat)
            case atStart => exact ⟨0, Nat.zero_le _, rfl, World.ownsRow_nil _ _ _ _, Below.refl _ _⟩
            case round =>
              obtain ⟨p, hp, rfl, hown, hnx2⟩ := hrel
              have hpl := pick_le (fun i => g i == g j) p
              by_cases hpq : p < q
              · have hdp : wr.cell? ⟨b, off + p * 2 + 1, none⟩ = some (.int .i64 (g p)) := by
                  obtain ⟨b', off', he, hb', _, hd⟩ := HS.out p hpq
                  injection he with he
                  injection he with he1 he2
                  subst he1 he2
                  have h1 := hnx.size
                  exact (hnx2.cell (p := ⟨b, off + p * 2 + 1, none⟩) (by simp; omega)).trans ((hnx.cell (p := ⟨b, off + p * 2 + 1, none⟩) hbb).trans hd)
                have hdj' : wr.cell? ⟨b, off + j * 2 + 1, none⟩ = some (.int .i64 (g j)) := by
                  have h1 := hnx.size
                  exact (hnx2.cell (p := ⟨b, off + j * 2 + 1, none⟩) (by simp; omega)).trans hdj
                have HNX := Lib.hid hnx
                have HDJ := Lib.hid hdj
                clear hnx hdj
                cases he : (g p == g j) with
                | true =>
                  have hps : pick (fun i => g i == g j) (p + 1) = pick (fun i => g i == g j) p ++ [p] := by rw [pick_succ, if_pos he]
                  have HPS := Lib.hid hps
                  clear hps
                  go_wp2_with fail
                  go_quiet (fail)
                  have hownD : (wr.drewN nq).ownsRow wt.heap.size 3 1 u12 (pick (fun i => g i == g j) p).length (enc (pick (fun i => g i == g j) p)) := hown
                  have hnxD := Below.drewN' hnx2 nq
                  clear hown hnx2 hdp hdj'
                  generalize wr.drewN nq = wd at hownD hnxD ⊢
                  go_wp2_with (first
                    | (at_builtin; refine wpList_push _ rfl _ _ 31 rfl wt.heap.size 3 i0 (.int .i64 0) 8 Try.underlying31 hi hz0 hz1 hz2 rfl _ _ _ rfl hownD (.int .i64 (p : Int)) rfl rfl (by omega) (by omega) hnxD.size ?_; intro v' w2 hown2 hbel2))
                  clear hownD
                  go_roundw
                  case measure => simp [intOf]; omega
                  case rel => exact ⟨p + 1, by omega, by go_num, by rw [HPS.out, enc_snoc, List.length_append]; exact hown2, hnxD.trans hbel2⟩
                | false =>
                  have hps : pick (fun i => g i == g j) (p + 1) = pick (fun i => g i == g j) p := by rw [pick_succ, if_neg (by simp [he])]
                  have HPS := Lib.hid hps
                  clear hps
                  go_wp2_with fail
                  go_quiet (fail)
                  go_wp2_with fail
                  go_roundw
                  case measure => simp [intOf]; omega
                  case rel => exact ⟨p + 1, by omega, by go_num, by rw [HPS.out]; exact hown, Below.drewN' hnx2 _⟩
              · obtain rfl : p = q := by omega
                obtain ⟨gr, hgr⟩ : ∃ gr, gr = pick (fun i => g i == g j) p := ⟨_, rfl⟩
                rw [← hgr] at hown
                have hgl : gr.length ≤ 40 := by rw [hgr]; omega
                obtain ⟨A', c', rfl, hle, hm', hsee⟩ := sees_of_own hown
                have hsee' := hsee.congr (fun k hk => enc_getD gr k hk (.bool false))
                have hmem : ∀ i, i < gr.length → gr.getD i 0 < p := fun i hi => by rw [hgr]; exact (pick_getD_lt _ _ _ (by rw [← hgr]; exact hi)).1
                have hgx : ∃ i, i < gr.length ∧ (fun i => stat m S i == bestTo m S p) (gr.getD i 0) = true := by
                  have hmem : j ∈ gr := by
                    rw [hgr]
                    unfold pick
                    rw [List.mem_filter, List.mem_range]
                    exact ⟨hjq, by simp⟩
                  obtain ⟨i, hi, hie⟩ := List.getElem_of_mem hmem
                  refine ⟨i, hi, ?_⟩
                  rw [List.getD_eq_getElem?_getD, List.getElem?_eq_getElem hi]
                  show (stat m S gr[i] == bestTo m S p) = true
                  rw [hie]
                  exact HUJ.out
                have hg0 : 0 < gr.length := by obtain ⟨i, hi, _⟩ := hgx; omega
                have hfin : nextOf p m g S sel = some (placeOf gr.length (fun i => gr.getD i 0) (fun i => stat m S i == bestTo m S p) (sel % 16)) := by
                  unfold nextOf
                  rw [if_neg HNB.out]
                  simp only
                  rw [← HGJ.out, ← hgr]
                have hp2 := lawPlace_eq gr.length (fun i => gr.getD i 0) (fun i => stat m S i == bestTo m S p) (sel % 16) hg0 hgx
                have HFIN := Lib.hid (hfin.trans hp2.symm)
                have HMEM := Lib.hid hmem
                have HSEE := Lib.hid hsee'
                have HROWW := Lib.hid (HROWE.out.kept hnx2)
                have HNX := Lib.hid (hnx.trans (hnx2.mono hnx.size))
                clear hgx hfin hp2 hmem hsee hsee' hown hpl hgr hdj hnx hnx2
                go_wp2_with fail
                refine (law_place A' (some ⟨wo.heap.size, 0, none⟩) gr.length c' p p (fun i => gr.getD i 0) (fun i => stat m S i == bestTo m S p) (sel % 16) _ (by omega) wr hgl (by omega) HMEM.out HSEE.out HROWW.out.sees).mono ?_
                rintro e w5 ⟨rfl, hb5⟩
                have hend := HNX.out.trans (hb5.mono HNX.out.size)
                clear hb5
                go_wp2_with fail
                go_ret
                exact ⟨by rw [HFIN.out]; rfl, hend⟩
end Go.Proofs.Ytncklimjbejgoaa
