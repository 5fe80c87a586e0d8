/- Control.Hear. -/
import Derived.Test.YtljogcdopeflnaaCtl
namespace Go.Proofs.Ytljogcdopeflnaa
open Go.RowKit
open Go.Maps (Keyed)

/-- How many destinations below n fulfil q. -/
def tot (q : Int → Int × Int → Bool) (f : Int → Option (Int × Int)) : Nat → Nat
  | 0 => 0
  | n + 1 => tot q f n + match f n with | some p => (if q n p then 1 else 0) | none => 0

theorem tot_le (q : Int → Int × Int → Bool) (f : Int → Option (Int × Int)) : ∀ n, tot q f n ≤ n
  | 0 => Nat.le_refl _
  | n + 1 => by
    have := tot_le q f n
    unfold tot
    split
    · split <;> omega
    · omega

theorem tot_congr {q : Int → Int × Int → Bool} {f f' : Int → Option (Int × Int)} : ∀ n : Nat, (∀ k : Int, 0 ≤ k → k < n → f k = f' k) → tot q f n = tot q f' n
  | 0, _ => rfl
  | n + 1, h => by
    unfold tot
    rw [tot_congr n (fun k h0 h1 => h k h0 (by omega)), h n (by omega) (by omega)]

/-- One destination more is counted. -/
theorem tot_more {q : Int → Int × Int → Bool} {f f' : Int → Option (Int × Int)} (k : Nat) (p : Int × Int) (h0 : f k = none) (h1 : f' k = some p) (h : ∀ i : Int, i ≠ k → f i = f' i) : ∀ n : Nat, k < n → tot q f' n = tot q f n + if q k p then 1 else 0
  | 0, hn => absurd hn (by omega)
  | n + 1, hn => by
    unfold tot
    by_cases e : k = n
    · subst e
      rw [h0, h1, tot_congr (f := f) (f' := f') k (fun i _ hi => h i (by omega))]
      simp
    · rw [tot_more k p h0 h1 h n (by omega), h n (by omega)]
      omega

/-- Is a destination another one that is congested? -/
def other (base now kt : Int) (k : Int) (p : Int × Int) : Bool := k != kt && decide (0 < lowv base now p.1 p.2)

def others (base now kt : Int) (f : Int → Option (Int × Int)) : Nat := tot (other base now kt) f 65536

/-- What has come out of the map so far. -/
def came (left : Lit → Bool) (f : Int → Option (Int × Int)) : Int → Option (Int × Int) := fun k => if left (.int .u16 k) then none else f k

theorem came_start {D : DataW Unit} {f : Int → Option (Int × Int)} (h : Says D f) (q : Int → Int × Int → Bool) : tot q (came (Maps.has D) f) 65536 = 0 := by
  have h0 : ∀ n, tot q (fun _ => none) n = 0 := by
    intro n
    induction n with
    | zero => rfl
    | succ n ih => simp [tot, ih]
  rw [tot_congr (f' := fun _ => none) 65536 ?_, h0]
  intro k hk0 hk1
  unfold came
  cases hh : Maps.has D (.int .u16 k) with
  | true => rfl
  | false =>
    have := Maps.atKey_of_not_has hh .nil
    rw [h.2 k hk0 (by omega)] at this
    cases hf : f k with
    | none => rfl
    | some p => rw [hf] at this; cases this

theorem came_end {left : Lit → Bool} (h : ∀ kl, left kl = false) (f : Int → Option (Int × Int)) : came left f = f := by
  funext k
  simp [came, h]

theorem says_at {D : DataW Unit} {f : Int → Option (Int × Int)} (h : Says D f) {k : Int} (hk : 0 ≤ k ∧ k ≤ 65535) {p : Int × Int} (hat : ∀ zd, D.atKey (.int .u16 k) zd = recD p) : f k = some p := by
  cases hf : f k with
  | none =>
    have := h.2 k hk.1 hk.2 .nil
    rw [hat, hf] at this
    cases this
  | some q =>
    have := h.2 k hk.1 hk.2 .nil
    rw [hat, hf] at this
    rw [recD_inj this]

theorem came_step {left : Lit → Bool} {f : Int → Option (Int × Int)} {k : Int} (hk : 0 ≤ k ∧ k ≤ 65535) (hl : left (.int .u16 k) = true) {p : Int × Int} (hf : f k = some p) (q : Int → Int × Int → Bool) :
    tot q (came (fun z => left z && !z.sameKey (.int .u16 k)) f) 65536 = tot q (came left f) 65536 + if q k p then 1 else 0 := by
  obtain ⟨n, rfl⟩ : ∃ n : Nat, k = n := ⟨k.toNat, by omega⟩
  refine tot_more n p ?_ ?_ ?_ 65536 (by omega)
  · simp [came, hl]
  · have : (Lit.int .u16 (n : Int)).sameKey (.int .u16 n) = true := WideAt.sameKey_self (keyed49.key (key49 hk))
    simp [came, this, hf]
  · intro i hi
    have : (Lit.int .u16 i).sameKey (.int .u16 n) = false := Maps.sameKey_ne (by simpa using hi)
    simp [came, this]

theorem hear_nil (now k lv : Int) (w : World) : Calls Try.prog 16 #[.pointer none, .int .i64 now, .int .u16 k, .int .i64 lv] w fun e w' => e = .returned (.int .i64 2) ∧ w = w' := by
  go_enter Try.func16, Try.ntmps16
  go_wp2_with fail
  go_ret
  exact ⟨rfl, rfl⟩

theorem hear_zero (g : Nat) (now k lv : Int) (m : Value) (w : World) (h : Lit0 w g 60 #[.int .i64 0, m]) : Calls Try.prog 16 #[.pointer (some ⟨g, 0, none⟩), .int .i64 now, .int .u16 k, .int .i64 lv] w fun e w' => e = .returned (.int .i64 2) ∧ w = w' := by
  have c0 := h.cell 0
  simp only [List.getElem?_toArray, List.getElem?_cons_zero] at c0
  clear h
  go_enter Try.func16, Try.ntmps16
  go_wp2_with fail
  go_ret
  exact ⟨rfl, rfl⟩

theorem hear_bad (g b : Nat) (base now k lv : Int) (w : World) (h : Lit0 w g 60 #[.int .i64 base, .map (some b)]) (hba : 1 ≤ base) (hbad : lv < 0 ∨ 3 < lv ∨ 16383 < k) :
    Calls Try.prog 16 #[.pointer (some ⟨g, 0, none⟩), .int .i64 now, .int .u16 k, .int .i64 lv] w fun e w' => e = .returned (.int .i64 1) ∧ w = w' := by
  have c0 := h.cell 0
  simp only [List.getElem?_toArray, List.getElem?_cons_zero] at c0
  have e0 : (base == 0) = false := by rw [beq_eq_false_iff_ne]; omega
  clear h
  by_cases h1 : lv < 0
  · have d1 : decide (lv < 0) = true := by simpa using h1
    go_enter Try.func16, Try.ntmps16
    go_wp2_with fail
    go_ret
    exact ⟨rfl, rfl⟩
  have d1 : decide (lv < 0) = false := by simpa using h1
  by_cases h2 : 3 < lv
  · have d2 : decide (3 < lv) = true := by simpa using h2
    go_enter Try.func16, Try.ntmps16
    go_wp2_with fail
    go_ret
    exact ⟨rfl, rfl⟩
  have d2 : decide (3 < lv) = false := by simpa using h2
  have d3 : decide (16383 < k) = true := by rw [decide_eq_true_eq]; omega
  go_enter Try.func16, Try.ntmps16
  go_wp2_with fail
  go_ret
  exact ⟨rfl, rfl⟩

/-- The range's step over records. -/
theorem wpList_next_rec {P : Program} (hP : P = Try.prog) (w : World) {ops : Array Oper} {rest : List Oper} {o : Oper} {a : Act} {Q : Exit → Act → World → Prop} (hgd : o.guard = none) (it : Operand) (hop : o.op = Op.next it false)
    (b r n : Nat) (D : DataW Unit) (left : Lit → Bool) (cnt : Nat) (f : Int → Option (Int × Int)) (hs : Hid (Says D f)) (hit : a.eval it = .pointer (some ⟨r, 0, none⟩)) (h : w.ranges P 49 recR b r n D left cnt)
    (hDone : (∀ kl, left kl = false) → wpList P ops Q rest (a.put o.dst (.tuple #[.bool false])) w)
    (hMore : ∀ (x u v : Int) (w' : World) (cnt' : Nat), 0 ≤ x ∧ x ≤ 65535 → left (.int .u16 x) = true → f x = some (u, v) → w'.ranges P 49 recR b r n D (fun z => left z && !z.sameKey (.int .u16 x)) cnt' → cnt' < cnt →
      w.grownBy w' (some r) → w'.heap.size = w.heap.size → (Instr.entry (.pointer (some ⟨r, 0, none⟩))).run P w' = .ok (.tuple #[.int .u16 x, .agg #[.int .i64 u, .int .i64 v]]) w' → wpList P ops Q rest (a.put o.dst (.tuple #[.bool true, .int .u16 x, .agg #[.int .i64 u, .int .i64 v]])) w') :
    wpList P ops Q (o :: rest) a w := by
  subst hP
  refine wpList_next_ranges w hgd it hop 49 keyed49 recR (Value.int .u16) recV (fun key kl hkey => by obtain ⟨x, rfl, _⟩ := Maps.keyOf_int_inv under49 hkey; exact ⟨x, rfl⟩)
    (fun v y hv => by obtain ⟨p, rfl, _⟩ := recR_inv hv; exact ⟨p, rfl⟩) b r n D left cnt hit h (fun _ h0 => hDone h0) ?_
  intro x c kl y w' cnt' hkey hl hv hat hr hlt hg hsz hen
  obtain ⟨x', e, rfl, hw⟩ := Maps.keyOf_int_inv under49 hkey
  injection e with _ e
  subst e
  have hx : 0 ≤ x ∧ x ≤ 65535 := by simpa [Lit.wf, IntKind.min, IntKind.max, IntKind.signed, IntKind.bits] using hw
  rw [recR_of] at hv
  injection hv with hv
  subst hv
  exact hMore x c.1 c.2 w' cnt' hx hl (says_at hs.out hx hat) hr hlt hg hsz hen

/-- What Hear leaves. -/
def RetHear (w : World) (g b n : Nat) (base now k lv : Int) (f : Int → Option (Int × Int)) (e : Ending) (w' : World) : Prop :=
  (64 ≤ others base now k f ∧ e = .returned (.int .i64 9) ∧ Below w.heap.size w w') ∨
  (others base now k f < 64 ∧ e = .returned (.int .i64 0) ∧ Ctl w' g b base (n + 1) (upd f k (now, lv)) ∧ w.grownBy w' (some b))

theorem hear_any (g b n : Nat) (base now k lv : Int) (f : Int → Option (Int × Int)) (w : World) (h : Ctl w g b base n f) (hba : 1 ≤ base ∧ base ≤ 9223372036854775807) (hnow : I64 now) (hk : 0 ≤ k ∧ k ≤ 16383) (hlv : 0 ≤ lv ∧ lv ≤ 3) (hn : n < 1000)
    (hf : ∀ k p, f k = some p → I64 p.1 ∧ 0 ≤ p.2 ∧ p.2 ≤ 3) :
    Calls Try.prog 16 #[.pointer (some ⟨g, 0, none⟩), .int .i64 now, .int .u16 k, .int .i64 lv] w (RetHear w g b n base now k lv f) := by
  obtain ⟨hc, hgb, D, hown, hs⟩ := h
  have c0 := hc.cell 0
  have c1 := hc.cell 1
  simp only [List.getElem?_toArray, List.getElem?_cons_zero, List.getElem?_cons_succ] at c0 c1
  have e0 : (base == 0) = false := by rw [beq_eq_false_iff_ne]; omega
  have d1 : decide (lv < 0) = false := by simp; omega
  have d2 : decide (3 < lv) = false := by simp; omega
  have d3 : decide (16383 < k) = false := by simp; omega
  have HF := Lib.hid hf
  have HS := Lib.hid hs
  have HC := Lib.hid hc
  have HBA := Lib.hid hba
  have HNOW := Lib.hid hnow
  clear hf hs hc
  go_enter Try.func16, Try.ntmps16
  go_wp2_with (first | (at_range; refine wpList_range_own _ rfl _ 58 rfl 49 66 keyed49 under58 recR b n D rfl hown ?_; intro w0 hrg0 hg0 hs0) | go_in)
  go_frame
  have hb0 : Below w.heap.size w w0 := ⟨hg0.os, hg0.tape, hg0.output, hg0.size, fun i hi => hg0.block i hi (by simp)⟩
  have HB0 := Lib.hid hb0
  have HL := Lib.hid hg0
  clear hg0 hown hb0 c0 c1
  have hlt : Hid (g < w.heap.size) := Lib.hid HC.out.lt
  have hbl : Hid (b < w.heap.size) := Lib.hid (by have := hrg0.ne; have := hrg0.owns.lt; omega)
  go_loopw [9] (fun v wr => ∃ left cnt, wr.ranges Try.prog 49 recR b w.heap.size n D left cnt ∧ v = .int .i64 (tot (other base now k) (came left f) 65536 : Nat) ∧ Hid (Below w.heap.size w wr)) (fun _ wr => wr.rangeLeft b w.heap.size)
  case atStart =>
    refine ⟨_, _, hrg0, ?_, HB0⟩
    rw [came_start HS.out]
    rfl
  case round =>
    obtain ⟨left, cnt, hrg, rfl, HB⟩ := hrel
    have c0 := (HC.out.kept HB.out).cell 0
    have c1 := (HC.out.kept HB.out).cell 1
    simp only [List.getElem?_toArray, List.getElem?_cons_zero, List.getElem?_cons_succ] at c0 c1
    have ht := tot_le (other base now k) (came left f) 65536
    obtain ⟨T, hT⟩ : ∃ T, T = tot (other base now k) (came left f) 65536 := ⟨_, rfl⟩
    rw [← hT] at ht ⊢
    have HT := Lib.hid hT
    clear hT
    go_wp2_with (first | (at_next; refine wpList_next_rec rfl _ rfl _ rfl b w.heap.size n D _ _ f HS rfl hrg ?_ ?_) | go_in)
    · intro hl0
      have hT : T = others base now k f := by rw [HT.out, came_end hl0]; rfl
      have HO := Lib.hid hT
      clear hT
      by_cases h64 : 64 ≤ T
      · have d64 : decide ((64 : Int) ≤ (T : Int)) = true := by simp; omega
        go_wp2_with fail
        go_ret
        exact .inl ⟨by rw [← HO.out]; exact h64, rfl, HB.out⟩
      · have d64 : decide ((64 : Int) ≤ (T : Int)) = false := by simp; omega
        have hown1 := hrg.owns
        clear hrg
        go_wp2_with (first | (at_mapUpdate; refine wpList_mapUpdate_own _ rfl _ _ _ 58 rfl 49 66 keyed49 under58 recR b n D rfl hown1 (by unfold maxLen; omega) _ _ _ rfl rfl (key49 (k := k) (by omega)) _ [] (recR_of (now, lv)) ?_; intro w2 hown2 hgrow2) | go_in)
        go_ret
        have hgr : w.grownBy w2 (some b) := grown_trans (grown_below HB.out _) hgrow2
        exact .inr ⟨by rw [← HO.out]; omega, rfl, ⟨HC.out.grown hgr (by simpa using hgb), hgb, _, hown2, says_put HS.out k (by omega) _⟩, hgr⟩
    · intro x u v w1 cnt1 hx0 hx1 hl hfx hrg1 hlt1 hg1 hs1 hen
      have hb1 : Below w.heap.size w w1 := below_grown (grown_trans (grown_below HB.out _) hg1) (Nat.le_refl _) (Nat.le_refl _)
      have HB1 := Lib.hid hb1
      have c0' := (HC.out.kept hb1).cell 0
      simp only [List.getElem?_toArray, List.getElem?_cons_zero] at c0'
      have hstep := came_step (q := other base now k) ⟨hx0, hx1⟩ hl hfx
      rw [← HT.out] at hstep
      have hp := HF.out x (u, v) hfx
      have hm0 := hrg.left_eq
      have hcall := lowered_any g b base now u v (w1.alloc (.cells #[.int .i64 u, .int .i64 v] 66)) ((HC.out.kept hb1).alloc _) HBA.out HNOW.out hp.1 hp.2
      obtain ⟨L, hL⟩ : ∃ L, L = lowv base now u v := ⟨_, rfl⟩
      rw [← hL] at hcall
      have HLL := Lib.hid hL
      clear hL
      have HCALL := Lib.hid hcall
      have HR1 := Lib.hid hrg1
      have hb2 := HB1.out.alloc hb1.size (.cells #[.int .i64 u, .int .i64 v] 66)
      have HB2 := Lib.hid hb2
      have hr2 := Lib.hid (hrg1.alloc (.cells #[.int .i64 u, .int .i64 v] 66))
      clear hb1 hp hcall hrg1 hb2 hrg
      by_cases hxk : x = k
      · subst hxk
        have dx : (x != x) = false := by simp
        have hq : other base now x x (u, v) = false := by simp [other]
        rw [hq] at hstep
        have HSTEP := Lib.hid hstep
        clear hstep hq
        go_wp2_with fail
        go_roundw
        case rel =>
          refine ⟨_, _, hr2.out, ?_, HB2⟩
          rw [HSTEP.out]
          simp
        case measure =>
          rw [hr2.out.left_eq, hm0]
          exact hlt1
      · have dx : (x != k) = true := by simpa using hxk
        by_cases hlow : 0 < L
        · have dl : decide (0 < L) = true := by simpa using hlow
          have hq : other base now k x (u, v) = true := by unfold other; rw [← HLL.out]; simp [hxk, hlow]
          rw [hq] at hstep
          have HSTEP := Lib.hid hstep
          clear hstep hq
          go_wp2_with fail
          refine HCALL.out.mono ?_
          rintro e w3 ⟨rfl, hb3'⟩
          have hb3 := Lib.hid hb3'
          clear hb3' c0 c1 c0' hen
          go_wp2_with fail
          go_roundw
          case rel =>
            refine ⟨_, _, hr2.out.kept (grown_below hb3.out none) (by simp) (by simp), ?_, Lib.hid (HB2.out.trans (hb3.out.mono HB2.out.size))⟩
            rw [HSTEP.out]
            simp
          case measure =>
            rw [(hr2.out.kept (grown_below hb3.out none) (by simp) (by simp)).left_eq, hm0]
            exact hlt1
        · have dl : decide (0 < L) = false := by simpa using hlow
          have hq : other base now k x (u, v) = false := by unfold other; rw [← HLL.out]; simp [hlow]
          rw [hq] at hstep
          have HSTEP := Lib.hid hstep
          clear hstep hq
          go_wp2_with fail
          refine HCALL.out.mono ?_
          rintro e w3 ⟨rfl, hb3'⟩
          have hb3 := Lib.hid hb3'
          clear hb3' c0 c1 c0' hen
          go_wp2_with fail
          go_roundw
          case rel =>
            refine ⟨_, _, hr2.out.kept (grown_below hb3.out none) (by simp) (by simp), ?_, Lib.hid (HB2.out.trans (hb3.out.mono HB2.out.size))⟩
            rw [HSTEP.out]
            simp
          case measure =>
            rw [(hr2.out.kept (grown_below hb3.out none) (by simp) (by simp)).left_eq, hm0]
            exact hlt1
end Go.Proofs.Ytljogcdopeflnaa
