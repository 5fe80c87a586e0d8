/- The statement SharesMove, walked. -/
import Derived.Test.YtncklimjbejgoaaSharesEvenWalk
namespace Go.Proofs.Ytncklimjbejgoaa
open Go.RowKit

/-- Which links are up at first; with link k down. -/
def upAt (k m : Nat) (S : Nat → Bool) (j : Nat) : Bool := decide (j = k) || (decide (j < m) && S j)
def downAt (k : Nat) (U : Nat → Bool) (j : Nat) : Bool := if j = k then false else U j

theorem down_not (n k : Nat) (U : Nat → Bool) (s : Nat) : (code (linkOf n n (downAt k U) s) == (k : Int)) = false := by
  rw [beq_eq_false_iff_ne]
  intro h
  cases hl : linkOf n n (downAt k U) s with
  | none => rw [hl] at h; simp [code] at h
  | some j =>
    rw [hl] at h
    simp [code] at h
    have := (link_usable_of n n _ s j hl).2
    have hjk : j = k := by omega
    subst hjk
    simp [upOf, downAt] at this

theorem down_home (n k : Nat) (U : Nat → Bool) (s : Nat) (hn : 0 < n) (hk : rot s % n ≠ k) (hu : U (rot s % n) = true) : linkOf n n (downAt k U) s = some (rot s % n) :=
  link_home n n _ s hn (by simp [upOf, downAt, hk, hu]; exact Nat.mod_lt _ hn)

def codeCell (i j : Nat) : Value := if j % 3 = 2 then .int .u8 (if j / 3 < i then (j / 3 : Nat) else 0) else .int .u16 0

theorem codes_see {w : World} {g n : Nat} (h : Row w g 43 (n * 3) (codeCell n)) : Sees3 w w.heap.size (some ⟨g, 0, none⟩) n (fun _ => .int .u16 0) (fun _ => .int .u16 0) (fun k => .int .u8 (k : Nat)) :=
  h.sees3 (fun k _ => by unfold codeCell; rw [if_neg (by omega)]) (fun k _ => by unfold codeCell; rw [if_neg (by omega)]) (fun k hk => by
    unfold codeCell
    rw [if_pos (by omega)]
    have : (k * 3 + 2) / 3 = k := by omega
    rw [this, if_pos hk])

set_option maxRecDepth 100000 in
set_option maxHeartbeats 2000000 in
theorem sharesMove_any (A : Option Addr) (n0 m c w0 : Nat) (S : Nat → Bool) (w : World) (h0 : n0 < 256) (hw0 : w0 < 256) (hs : Sees w w.heap.size A m (fun k => .bool (S k))) :
    Calls Try.prog 6 #[.int .u8 n0, .slice A m c, .int .u8 w0] w (RetBool w true) := by
  have HS := Lib.hid hs
  clear hs
  obtain ⟨n, hn⟩ : ∃ n : Nat, n = n0 % 16 + 1 := ⟨_, rfl⟩
  obtain ⟨K, hK⟩ : ∃ K : Nat, K = w0 % n := ⟨_, rfl⟩
  have hni : 1 + (n0 : Int) % 16 = (n : Int) := by omega
  have hn16 : n ≤ 16 := by omega
  have hn1 : 1 ≤ n := by omega
  have hKn : K < n := by rw [hK]; exact Nat.mod_lt _ (by omega)
  have hKi : (w0 : Int) % (n : Int) = (K : Int) := by rw [hK]; rfl
  have mkL : ∀ w : World, (Instr.makeSlice 29 (.int .i64 (n : Int)) (.int .i64 (n : Int))).run Try.prog w = .ok (.slice (some ⟨w.heap.size, 0, none⟩) n n) (w.alloc (.cells (madeCells #[.int .u16 0, .int .u16 0, .int .u8 0] (n * 3)) 43)) :=
    fun w => make_n 29 43 _ _ 3 6 Try.underlying29 Try.infoL rfl n (by omega) (by omega) w
  have mkB : ∀ w : World, (Instr.makeSlice 30 (.int .i64 (n : Int)) (.int .i64 (n : Int))).run Try.prog w = .ok (.slice (some ⟨w.heap.size, 0, none⟩) n n) (w.alloc (.cells (madeCells #[.bool false] n) 4)) :=
    fun w => run_make_row' 30 4 (.bool false) 1 Try.underlying30 Try.infoB rfl .i64 .i64 n (by omega) (by omega) w
  clear hn hK
  go_enter Try.func6, Try.ntmps6
  go_wp2_with fail
  simp only [hKi]
  clear mkL mkB hni hKi
  have hl0 : Row (w.alloc (.cells (madeCells #[.int .u16 0, .int .u16 0, .int .u8 0] (n * 3)) 43)) w.heap.size 43 (n * 3) (codeCell 0) := Row.new _ (size_madeCells _ _) (fun j hj => by rw [made_links n j hj]; simp [linkCell, codeCell])
  have hu0 := Row.new (w := (w.alloc (.cells (madeCells #[.int .u16 0, .int .u16 0, .int .u8 0] (n * 3)) 43))) (t := 4) (f := fun i => .bool (decide (i < 0) && upAt K m S i)) (madeCells #[.bool false] n) (size_madeCells _ _) (fun j hj => by rw [made_get _ _ _ hj]; simp)
  have ha0 := Row.new (w := ((w.alloc (.cells (madeCells #[.int .u16 0, .int .u16 0, .int .u8 0] (n * 3)) 43)).alloc (.cells (madeCells #[.bool false] n) 4))) (t := 4) (f := fun i => .bool (decide (i < 0))) (madeCells #[.bool false] n) (size_madeCells _ _) (fun j hj => by rw [made_get _ _ _ hj]; simp)
  have hl1 := (hl0.alloc (.cells (madeCells #[.bool false] n) 4)).alloc (.cells (madeCells #[.bool false] n) 4)
  have hu1 := hu0.alloc (.cells (madeCells #[.bool false] n) 4)
  have hbb := (((Below.refl _ w).alloc (Nat.le_refl _) (.cells (madeCells #[.int .u16 0, .int .u16 0, .int .u8 0] (n * 3)) 43)).alloc (by simp) (.cells (madeCells #[.bool false] n) 4)).alloc (by simp; omega) (.cells (madeCells #[.bool false] n) 4)
  simp only [World.size_alloc] at hu0 hu1 ha0
  clear hl0 hu0
  generalize (((w.alloc (.cells (madeCells #[.int .u16 0, .int .u16 0, .int .u8 0] (n * 3)) 43)).alloc (.cells (madeCells #[.bool false] n) 4)).alloc (.cells (madeCells #[.bool false] n) 4)) = wa at hl1 hu1 ha0 hbb ⊢
  have HL1 := Lib.hid hl1
  have HU1 := Lib.hid hu1
  have HA1 := Lib.hid ha0
  have HBB := Lib.hid hbb
  clear hl1 hu1 ha0 hbb
  go_loopw [11] (fun i wr => ∃ k : Nat, k ≤ n ∧ i = .int .i64 k ∧ Row wr w.heap.size 43 (n * 3) (codeCell k) ∧ Row wr (w.heap.size + 1) 4 n (fun i => .bool (decide (i < k) && upAt K m S i)) ∧ Row wr (w.heap.size + 1 + 1) 4 n (fun i => .bool (decide (i < k))) ∧ Below w.heap.size w wr)
    (fun i _ => n - (intOf i).toNat)
  case atStart => exact ⟨0, Nat.zero_le _, rfl, HL1.out, HU1.out, HA1.out, HBB.out⟩
  case round =>
    clear HL1 HU1 HA1 HBB
    obtain ⟨k, hk, rfl, hl, hu, ha, hnx⟩ := hrel
    have HL := Lib.hid hl
    have HU := Lib.hid hu
    have HA := Lib.hid ha
    have HNX := Lib.hid hnx
    by_cases hlt : k < n
    · have cl := hl.cell (j := k * 3 + 2) (by omega)
      have fl := hl.free (k * 3 + 2)
      -- behind the store into the link
      have hu2 := hu.far (p := ⟨w.heap.size, k * 3 + 2, none⟩) (by simp) (.int .u8 (k : Nat))
      have cu := hu2.cell hlt
      have fu := hu2.free k
      have ha2 : ∀ u : Bool, Row ((wr.setCell ⟨w.heap.size, k * 3 + 2, none⟩ (.int .u8 (k : Nat))).setCell ⟨w.heap.size + 1, k, none⟩ (.bool u)) (w.heap.size + 1 + 1) 4 n (fun i => .bool (decide (i < k))) :=
        fun u => (ha.far (p := ⟨w.heap.size, k * 3 + 2, none⟩) (by simp; omega) (.int .u8 (k : Nat))).far (p := ⟨w.heap.size + 1, k, none⟩) (by simp) (.bool u)
      have fin : ∀ u : Bool, u = upAt K m S k → Row (((wr.setCell ⟨w.heap.size, k * 3 + 2, none⟩ (.int .u8 (k : Nat))).setCell ⟨w.heap.size + 1, k, none⟩ (.bool u)).setCell ⟨w.heap.size + 1 + 1, k, none⟩ (.bool true)) w.heap.size 43 (n * 3) (codeCell (k + 1)) ∧
          Row (((wr.setCell ⟨w.heap.size, k * 3 + 2, none⟩ (.int .u8 (k : Nat))).setCell ⟨w.heap.size + 1, k, none⟩ (.bool u)).setCell ⟨w.heap.size + 1 + 1, k, none⟩ (.bool true)) (w.heap.size + 1) 4 n (fun i => .bool (decide (i < k + 1) && upAt K m S i)) ∧
          Row (((wr.setCell ⟨w.heap.size, k * 3 + 2, none⟩ (.int .u8 (k : Nat))).setCell ⟨w.heap.size + 1, k, none⟩ (.bool u)).setCell ⟨w.heap.size + 1 + 1, k, none⟩ (.bool true)) (w.heap.size + 1 + 1) 4 n (fun i => .bool (decide (i < k + 1))) ∧
          Below w.heap.size w (((wr.setCell ⟨w.heap.size, k * 3 + 2, none⟩ (.int .u8 (k : Nat))).setCell ⟨w.heap.size + 1, k, none⟩ (.bool u)).setCell ⟨w.heap.size + 1 + 1, k, none⟩ (.bool true)) := by
        intro u hu'
        refine ⟨?_, ?_, ?_, ((hnx.setCell (Nat.le_refl _) _).setCell (by simp) _).setCell (by simp; omega) _⟩
        · refine (((hl.set (j := k * 3 + 2) (by omega) (.int .u8 (k : Nat))).far (p := ⟨w.heap.size + 1, k, none⟩) (by simp) _).far (p := ⟨w.heap.size + 1 + 1, k, none⟩) (by simp; omega) _).congr fun j hj => ?_
          unfold codeCell
          by_cases e : j = k * 3 + 2
          · subst e
            rw [if_pos rfl, if_pos (by omega)]
            have : (k * 3 + 2) / 3 = k := by omega
            rw [this, if_pos (by omega)]
          · rw [if_neg e]
            by_cases e3 : j % 3 = 2
            · rw [if_pos e3, if_pos e3]
              congr 2
              simp only [eq_iff_iff]
              omega
            · rw [if_neg e3, if_neg e3]
        · refine ((hu2.set hlt (.bool u)).far (p := ⟨w.heap.size + 1 + 1, k, none⟩) (by simp) _).congr fun j hj => ?_
          by_cases e : j = k
          · subst e; simp [hu']
          · rw [if_neg e]; congr 2; simp only [decide_eq_decide]; omega
        · refine ((ha2 u).set hlt (.bool true)).congr fun j hj => ?_
          by_cases e : j = k
          · subst e; simp
          · rw [if_neg e]; congr 1; simp only [decide_eq_decide]; omega
      have FIN := Lib.hid fin
      have HA2 := Lib.hid ha2
      clear fin ha2 hl hu ha hu2
      by_cases hkK : k = K
      · have e1 : ((k : Int) == (K : Int)) = true := by rw [beq_iff_eq]; omega
        have ca := (HA2.out true).cell hlt
        have fa := (HA2.out true).free k
        have hup : true = upAt K m S k := by simp [upAt, hkK]
        have HUP := Lib.hid hup
        clear hup hnx hkK
        go_wp2_with fail
        go_roundw
        case measure => simp [intOf]; omega
        case rel => exact ⟨k + 1, by omega, by go_num, FIN.out true HUP.out⟩
      · have e1 : ((k : Int) == (K : Int)) = false := by rw [beq_eq_false_iff_ne]; omega
        by_cases hkm : k < m
        · obtain ⟨b, off, rfl, hb, hc0⟩ := HS.out k hkm
          have d1 : decide (k < m) = true := by simpa using hkm
          have hc1 : (wr.setCell ⟨w.heap.size, k * 3 + 2, none⟩ (.int .u8 (k : Nat))).cell? ⟨b, off + k, none⟩ = some (.bool (S k)) :=
            ((hnx.setCell (p := ⟨w.heap.size, k * 3 + 2, none⟩) (Nat.le_refl _) (.int .u8 (k : Nat))).cell (p := ⟨b, off + k, none⟩) hb).trans hc0
          have ca := (HA2.out (S k)).cell hlt
          have fa := (HA2.out (S k)).free k
          have hup : S k = upAt K m S k := by simp [upAt, hkK, hkm]
          have HUP := Lib.hid hup
          clear hup hnx hkK hc0
          go_wp2_with fail
          go_roundw
          case measure => simp [intOf]; omega
          case rel => exact ⟨k + 1, by omega, by go_num, FIN.out (S k) HUP.out⟩
        · have d1 : decide (k < m) = false := by simpa using hkm
          have ca := (HA2.out false).cell hlt
          have fa := (HA2.out false).free k
          have hup : false = upAt K m S k := by simp [upAt, hkK, hkm]
          have HUP := Lib.hid hup
          clear hup hnx hkK
          go_wp2_with fail
          go_roundw
          case measure => simp [intOf]; omega
          case rel => exact ⟨k + 1, by omega, by go_num, FIN.out false HUP.out⟩
    · obtain rfl : k = n := by omega
      have huE := hu.congr (f' := fun i => .bool (upAt K m S i)) (fun i hi => by simp [hi])
      have haE := ha.congr (f' := fun _ => .bool true) (fun i hi => by simp [hi])
      have HUE := Lib.hid huE
      have HAE := Lib.hid haE
      clear hl hu ha huE haE HU HA
      go_wp2_with fail
      refine (lines_any (some ⟨w.heap.size, 0, none⟩) (some ⟨w.heap.size + 1, 0, none⟩) k k k k (fun _ => 0) (fun _ => 0) (fun k => (k : Nat)) (upAt K m S) wr (by omega) (codes_see HL.out) HUE.out.sees).mono ?_
      rintro e w1 ⟨g1, rfl, hg1, hr1, hb1⟩
      have hge1 : w.heap.size + 1 + 1 < g1 := by have := HAE.out.lt; omega
      have HL1 := Lib.hid (HL.out.kept hb1)
      have HU1 := Lib.hid (HUE.out.kept hb1)
      have HA1 := Lib.hid (HAE.out.kept hb1)
      have HR1 := Lib.hid hr1
      have HN1 := Lib.hid (hnx.trans (hb1.mono hnx.size))
      clear hb1 hr1 hnx HL HUE HAE HNX
      go_wp2_with fail
      refine (lines_any (some ⟨w.heap.size, 0, none⟩) (some ⟨w.heap.size + 1 + 1, 0, none⟩) k k k k (fun _ => 0) (fun _ => 0) (fun k => (k : Nat)) (fun _ => true) w1 (by omega) (codes_see HL1.out) HA1.out.sees).mono ?_
      rintro e w2 ⟨g2, rfl, hg2, hr2, hb2⟩
      have hl2 := HL1.out.kept hb2
      have hu2 := HU1.out.kept hb2
      have ha2 := HA1.out.kept hb2
      have hr12 := HR1.out.kept hb2
      have hn2 := HN1.out.trans (hb2.mono HN1.out.size)
      have hlt1 := HR1.out.lt
      have hge : w.heap.size + 1 + 1 < w1.heap.size := HA1.out.lt
      have cu := hu2.cell hKn
      have fu := hu2.free K
      have ca : (w2.setCell ⟨w.heap.size + 1, K, none⟩ (.bool false)).cell? ⟨w.heap.size + 1 + 1, K, none⟩ = some (.bool true) := (ha2.far (p := ⟨w.heap.size + 1, K, none⟩) (by simp) (.bool false)).cell hKn
      have fa : (w2.setCell ⟨w.heap.size + 1, K, none⟩ (.bool false)).frozen? ⟨w.heap.size + 1 + 1, K, none⟩ = false := (ha2.far (p := ⟨w.heap.size + 1, K, none⟩) (by simp) (.bool false)).free K
      have HU2 := Lib.hid hu2
      have HA2 := Lib.hid ha2
      have HL2 := Lib.hid hl2
      have HR2 := Lib.hid hr2
      have HR12 := Lib.hid hr12
      have HN2 := Lib.hid hn2
      clear hu2 ha2 hl2 hr2 hr12 hb2 hn2 HL1 HU1 HA1 HN1
      go_wp2_with fail
      have hge2 : w.heap.size + 1 + 1 < g2 := by omega
      have hl3 := (HL2.out.far (p := ⟨w.heap.size + 1, K, none⟩) (by simp) (.bool false)).far (p := ⟨w.heap.size + 1 + 1, K, none⟩) (by simp; omega) (.bool false)
      have hu3 := ((HU2.out.set hKn (.bool false)).far (p := ⟨w.heap.size + 1 + 1, K, none⟩) (by simp) (.bool false)).congr (f' := fun i => .bool (downAt K (upAt K m S) i)) (fun i hi => by unfold downAt; by_cases e : i = K <;> simp [e])
      have ha3 := ((HA2.out.far (p := ⟨w.heap.size + 1, K, none⟩) (by simp) (.bool false)).set hKn (.bool false)).congr (f' := fun i => .bool (downAt K (fun _ => true) i)) (fun i hi => by unfold downAt; by_cases e : i = K <;> simp [e])
      have hr13 := (HR12.out.far (p := ⟨w.heap.size + 1, K, none⟩) (by simp; omega) (.bool false)).far (p := ⟨w.heap.size + 1 + 1, K, none⟩) (by simp; omega) (.bool false)
      have hr23 := (HR2.out.far (p := ⟨w.heap.size + 1, K, none⟩) (by simp; omega) (.bool false)).far (p := ⟨w.heap.size + 1 + 1, K, none⟩) (by simp; omega) (.bool false)
      have hn3 := (HN2.out.setCell (p := ⟨w.heap.size + 1, K, none⟩) (by simp) (.bool false)).setCell (p := ⟨w.heap.size + 1 + 1, K, none⟩) (by simp; omega) (.bool false)
      clear cu fu ca fa HU2 HA2 HL2 HR2 HR12 HN2
      generalize ((w2.setCell ⟨w.heap.size + 1, K, none⟩ (.bool false)).setCell ⟨w.heap.size + 1 + 1, K, none⟩ (.bool false)) = wb at hl3 hu3 ha3 hr13 hr23 hn3 ⊢
      refine (lines_any (some ⟨w.heap.size, 0, none⟩) (some ⟨w.heap.size + 1, 0, none⟩) k k k k (fun _ => 0) (fun _ => 0) (fun k => (k : Nat)) (downAt K (upAt K m S)) wb (by omega) (codes_see hl3) hu3.sees).mono ?_
      rintro e w3 ⟨g3, rfl, hg3, hr3, hb3⟩
      have HL3 := Lib.hid (hl3.kept hb3)
      have HU3 := Lib.hid (hu3.kept hb3)
      have HA3 := Lib.hid (ha3.kept hb3)
      have HR13 := Lib.hid (hr13.kept hb3)
      have HR23 := Lib.hid (hr23.kept hb3)
      have HR3 := Lib.hid hr3
      have hge3 : w.heap.size + 1 + 1 < g3 := by have := ha3.lt; omega
      have HN3 := Lib.hid (hn3.trans (hb3.mono hn3.size))
      clear hl3 hu3 ha3 hr13 hr23 hr3 hn3 hb3 hg3
      go_wp2_with fail
      refine (lines_any (some ⟨w.heap.size, 0, none⟩) (some ⟨w.heap.size + 1 + 1, 0, none⟩) k k k k (fun _ => 0) (fun _ => 0) (fun k => (k : Nat)) (downAt K (fun _ => true)) w3 (by omega) (codes_see HL3.out) HA3.out.sees).mono ?_
      rintro e w4 ⟨g4, rfl, hg4, hr4, hb4⟩
      have hge4 : w.heap.size + 1 + 1 < g4 := by have := HA3.out.lt; omega
      have hu4 := HU3.out.kept hb4
      have cu := hu4.cell hKn
      have fu := hu4.free K
      have HL4 := Lib.hid (HL3.out.kept hb4)
      have HU4 := Lib.hid hu4
      have HR14 := Lib.hid (HR13.out.kept hb4)
      have HR24 := Lib.hid (HR23.out.kept hb4)
      have HR34 := Lib.hid (HR3.out.kept hb4)
      have HR4 := Lib.hid hr4
      have HN4 := Lib.hid (HN3.out.trans (hb4.mono HN3.out.size))
      clear hu4 hr4 hb4 hg4 HL3 HU3 HA3 HR13 HR23 HR3 HN3
      go_wp2_with fail
      have hl5 := HL4.out.far (p := ⟨w.heap.size + 1, K, none⟩) (by simp) (.bool true)
      have hu5 := (HU4.out.set hKn (.bool true)).congr (f' := fun i => .bool (upAt K m S i)) (fun i hi => by unfold downAt upAt; by_cases e : i = K <;> simp [e])
      have hr15 := HR14.out.far (p := ⟨w.heap.size + 1, K, none⟩) (by simp; omega) (.bool true)
      have hr25 := HR24.out.far (p := ⟨w.heap.size + 1, K, none⟩) (by simp; omega) (.bool true)
      have hr35 := HR34.out.far (p := ⟨w.heap.size + 1, K, none⟩) (by simp; omega) (.bool true)
      have hr45 := HR4.out.far (p := ⟨w.heap.size + 1, K, none⟩) (by simp; omega) (.bool true)
      have hn5 := HN4.out.setCell (p := ⟨w.heap.size + 1, K, none⟩) (by simp) (.bool true)
      clear cu fu HL4 HU4 HR14 HR24 HR34 HR4 HN4
      generalize (w4.setCell ⟨w.heap.size + 1, K, none⟩ (.bool true)) = wd at hl5 hu5 hr15 hr25 hr35 hr45 hn5 ⊢
      refine (lines_any (some ⟨w.heap.size, 0, none⟩) (some ⟨w.heap.size + 1, 0, none⟩) k k k k (fun _ => 0) (fun _ => 0) (fun k => (k : Nat)) (upAt K m S) wd (by omega) (codes_see hl5) hu5.sees).mono ?_
      rintro e w5 ⟨g5, rfl, hg5, hr5, hb5⟩
      have HU5 := Lib.hid (hu5.kept hb5)
      have HR15 := Lib.hid (hr15.kept hb5)
      have HR25 := Lib.hid (hr25.kept hb5)
      have HR35 := Lib.hid (hr35.kept hb5)
      have HR45 := Lib.hid (hr45.kept hb5)
      have HR5 := Lib.hid hr5
      have HN5 := Lib.hid (hn5.trans (hb5.mono hn5.size))
      clear hl5 hu5 hr15 hr25 hr35 hr45 hn5 hr5 hb5 hg5
      go_wp2_with fail
      refine (ints_any (some ⟨g5, 0, none⟩) (some ⟨g1, 0, none⟩) 16 16 16 16 (fun s => code (linkOf k k (upAt K m S) s)) (fun s => code (linkOf k k (upAt K m S) s)) w5 (by omega) (by omega) (by omega) HR5.out.sees HR15.out.sees).mono ?_
      have hi : intsB 16 16 16 (fun s => code (linkOf k k (upAt K m S) s)) (fun s => code (linkOf k k (upAt K m S) s)) = true := by unfold intsB; simp
      rw [hi]
      rintro e w6 ⟨rfl, hb6⟩
      have HU6 := Lib.hid (HU5.out.kept hb6)
      have HR16 := Lib.hid (HR15.out.kept hb6)
      have HR26 := Lib.hid ((HR25.out.kept hb6).congr (f' := fun s => .int .i64 (rot s % k : Nat)) (fun s hs => by
        rw [link_home k k _ s (by omega) (by simp [upOf]; exact Nat.mod_lt _ (by omega))]; rfl))
      have HR36 := Lib.hid (HR35.out.kept hb6)
      have HR46 := Lib.hid (HR45.out.kept hb6)
      have HN6 := Lib.hid (HN5.out.trans (hb6.mono HN5.out.size))
      clear hi hb6 HU5 HR15 HR25 HR35 HR45 HR5 HN5
      go_wp2_with fail
      go_loopw [6, 17, 18] (fun _ i _ wr => ∃ s : Nat, s ≤ 16 ∧ i = .int .i64 s ∧ Below w6.heap.size w6 wr) (fun _ i _ _ => 16 - (intOf i).toNat)
      case atStart => exact ⟨0, Nat.zero_le _, rfl, Below.refl _ _⟩
      case round =>
        obtain ⟨s, hs, rfl, hnw⟩ := hrel
        have HNW := Lib.hid hnw
        by_cases hlt : s < 16
        · obtain ⟨p, hp⟩ : ∃ p, p = rot s % k := ⟨_, rfl⟩
          have hpk : p < k := by rw [hp]; exact Nat.mod_lt _ (by omega)
          have cb := (HR26.out.kept hnw).cell hlt
          rw [← hp] at cb
          have cc := (HR36.out.kept hnw).cell hlt
          have cd := (HR46.out.kept hnw).cell hlt
          have cA := (HR16.out.kept hnw).cell hlt
          have cup := (HU6.out.kept hnw).cell hpk
          clear hnw
          have nc := down_not k K (upAt K m S) s
          have nd := down_not k K (fun _ => true) s
          have g1' : decide ((p : Int) < 0) = false := by simp
          have g2' : decide (k ≤ p) = false := by simp; omega
          by_cases hpK : p = K
          · have e1 : ((p : Int) != (K : Int)) = false := by simp [hpK]
            have cup2 : wr.cell? ⟨w.heap.size + 1, p, none⟩ = some (.bool true) := by rw [cup]; simp [upAt, hpK]
            clear cup cA hp hpK
            obtain ⟨C, hC⟩ : ∃ C, C = code (linkOf k k (downAt K (upAt K m S)) s) := ⟨_, rfl⟩
            obtain ⟨D, hD⟩ : ∃ D, D = code (linkOf k k (downAt K (fun _ => true)) s) := ⟨_, rfl⟩
            rw [← hC] at cc nc
            rw [← hD] at cd nd
            clear hC hD
            go_wp2_with fail
            simp only [List.append_eq, List.cons_append, List.nil_append]
            go_quiet (fail)
            go_wp2_with fail
            go_roundw
            case measure => simp [intOf]; omega
            case rel => exact ⟨s + 1, by omega, by go_num, Below.drewN' HNW.out _⟩
          · have e1 : ((p : Int) != (K : Int)) = true := by rw [bne_iff_ne]; omega
            have hd := down_home k K (fun _ => true) s (by omega) (by rw [← hp]; exact hpK) rfl
            rw [hd, ← hp] at cd nd
            simp only [code] at cd nd
            cases hup : upAt K m S p with
            | false =>
              rw [hup] at cup
              obtain ⟨C, hC⟩ : ∃ C, C = code (linkOf k k (downAt K (upAt K m S)) s) := ⟨_, rfl⟩
              rw [← hC] at cc nc
              clear hC hd hp hup cA
              go_wp2_with fail
              simp only [List.append_eq, List.cons_append, List.nil_append]
              go_quiet (fail)
              go_wp2_with fail
              go_roundw
              case measure => simp [intOf]; omega
              case rel => exact ⟨s + 1, by omega, by go_num, Below.drewN' HNW.out _⟩
            | true =>
              rw [hup] at cup
              have h1 := down_home k K (upAt K m S) s (by omega) (by rw [← hp]; exact hpK) (by rw [← hp]; exact hup)
              have h2 := link_home k k (upAt K m S) s (by omega) (by rw [← hp]; simp [upOf, hup, hpk])
              rw [h1, ← hp] at cc nc
              rw [h2, ← hp] at cA
              simp only [code] at cc nc cA
              clear hd hp hup h1 h2
              go_wp2_with fail
              simp only [List.append_eq, List.cons_append, List.nil_append]
              go_quiet (fail)
              go_wp2_with fail
              go_roundw
              case measure => simp [intOf]; omega
              case rel => exact ⟨s + 1, by omega, by go_num, Below.drewN' HNW.out _⟩
        · obtain rfl : s = 16 := by omega
          go_wp2_with fail
          refine (lives_any wr).mono ?_
          rintro e w7 ⟨rfl, hb7⟩
          have h67 := HN6.out.trans (hnw.mono HN6.out.size)
          have HE := Lib.hid (h67.trans (hb7.mono h67.size))
          clear hb7 h67
          go_wp2_with fail
          go_ret
          exact ⟨rfl, HE.out⟩
end Go.Proofs.Ytncklimjbejgoaa
