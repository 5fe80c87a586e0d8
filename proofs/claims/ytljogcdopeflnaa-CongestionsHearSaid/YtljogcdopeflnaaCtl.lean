/- A control in memory: its base, and its map as a function of the destination. -/
import Derived.Test.YtljogcdopeflnaaLowered
import Derived.Maps.RangeWalk
import Derived.Maps.Views
namespace Go.Proofs.Ytljogcdopeflnaa
open Go.RowKit
open Go.Maps (Keyed)

/-- A record as a value and as a datum. -/
def recV (p : Int × Int) : Value := .agg #[.int .i64 p.1, .int .i64 p.2]
def recD (p : Int × Int) : DataW Unit := .agg [.lit (.int .i64 p.1), .lit (.int .i64 p.2)]

/-- How an element reads. -/
noncomputable def recR (v : Value) : Option (DataW Unit × List MemPlace) :=
  open Classical in if h : ∃ p : Int × Int, v = recV p then some (recD h.choose, []) else none

theorem recV_inj {p q : Int × Int} (h : recV p = recV q) : p = q := by
  unfold recV at h
  simp at h
  exact Prod.ext h.1 h.2

theorem recD_inj {p q : Int × Int} (h : recD p = recD q) : p = q := by
  unfold recD at h
  simp at h
  exact Prod.ext h.1 h.2

theorem recR_of (p : Int × Int) : recR (recV p) = some (recD p, []) := by
  have h : ∃ q : Int × Int, recV p = recV q := ⟨p, rfl⟩
  unfold recR
  rw [dif_pos h]
  rw [← recV_inj h.choose_spec]

theorem recR_inv {v : Value} {y : DataW Unit × List MemPlace} (h : recR v = some y) : ∃ p, v = recV p ∧ y = (recD p, []) := by
  unfold recR at h
  split at h
  · rename_i hp
    injection h with h
    exact ⟨hp.choose, hp.choose_spec, h.symm⟩
  · cases h

theorem under49 : Try.prog.underlying 49 = some (.int .u16) := by kernel_rfl
theorem under58 : Try.prog.underlying 58 = some (.map 49 66) := by kernel_rfl
theorem keyed49 : Keyed Try.prog 49 := Go.Maps.int_keyed under49
theorem zero66 (w : World) : (zeroValue 66).run Try.prog w = .ok (recV (0, 0)) w := by kernel_rfl

theorem key49 {k : Int} (h : 0 ≤ k ∧ k ≤ 65535) : keyOf Try.prog 49 (.int .u16 k) = some (.int .u16 k) := by
  have hw : (Lit.int .u16 k).wf = true := by
    simp [Lit.wf, IntKind.min, IntKind.max, IntKind.signed, IntKind.bits]; omega
  simp [keyOf, mapKey, hw]

/-- What the map's datum says of each destination. -/
def Says (D : DataW Unit) (f : Int → Option (Int × Int)) : Prop :=
  Maps.IsMap D ∧ ∀ k, 0 ≤ k → k ≤ 65535 → ∀ zd, D.atKey (.int .u16 k) zd = match f k with | some p => recD p | none => zd

theorem says_empty : Says (.map []) (fun _ => none) := ⟨Maps.isMap_empty, fun _ _ _ _ => rfl⟩

def upd (f : Int → Option (Int × Int)) (k : Int) (p : Int × Int) : Int → Option (Int × Int) := fun i => if i = k then some p else f i

theorem says_put {D : DataW Unit} {f : Int → Option (Int × Int)} (h : Says D f) (k : Int) (hk : 0 ≤ k ∧ k ≤ 65535) (p : Int × Int) : Says (D.put (.int .u16 k) (recD p)) (upd f k p) := by
  refine ⟨h.1.put _ _, fun i h0 h1 zd => ?_⟩
  by_cases e : i = k
  · subst e
    rw [Maps.atKey_put_same h.1 (keyed49.key (key49 hk))]
    simp [upd]
  · rw [Maps.atKey_put_other (by simpa using e), h.2 i h0 h1 zd]
    simp [upd, e]

/-- A control. -/
def Ctl (w : World) (g b : Nat) (base : Int) (n : Nat) (f : Int → Option (Int × Int)) : Prop :=
  Lit0 w g 60 #[.int .i64 base, .map (some b)] ∧ g ≠ b ∧ ∃ D, w.ownsMap Try.prog 49 recR b n D ∧ Says D f

theorem ctl_lookup {w : World} {g b n : Nat} {base : Int} {f : Int → Option (Int × Int)} (h : Ctl w g b base n f) (k : Int) (hk : 0 ≤ k ∧ k ≤ 65535) :
    (Instr.lookup 58 (.map (some b)) (.int .u16 k) false).run Try.prog w = .ok (recV ((f k).getD (0, 0))) w := by
  obtain ⟨_, _, D, hown, hs⟩ := h
  obtain ⟨v, ps, hrun, hv⟩ := hown.lookup keyed49 under58 (zero66 w) (recR_of (0, 0)) (key49 hk)
  obtain ⟨p, rfl, hp⟩ := recR_inv hv
  rw [hrun, hs.2 k hk.1 hk.2 (recD (0, 0))] at *
  simp only [Prod.mk.injEq] at hp
  cases hf : f k with
  | none => rw [hf] at hp; rw [recD_inj hp.1]; rfl
  | some q => rw [hf] at hp; rw [recD_inj hp.1]; rfl

theorem Ctl.kept {w w' : World} {g b n : Nat} {base : Int} {f : Int → Option (Int × Int)} (h : Ctl w g b base n f) (hb : Below w.heap.size w w') : Ctl w' g b base n f := by
  obtain ⟨h1, h2, D, hown, hs⟩ := h
  exact ⟨h1.kept hb, h2, D, hown.kept (row := none) (grown_below hb none) (by simp), hs⟩

theorem Ctl.grown {w w' : World} {g b n : Nat} {base : Int} {f : Int → Option (Int × Int)} {row : Option Nat} (h : Ctl w g b base n f) (hb : w.grownBy w' row) (hg : some g ≠ row) (hb' : some b ≠ row) : Ctl w' g b base n f := by
  obtain ⟨h1, h2, D, hown, hs⟩ := h
  exact ⟨h1.grown hb hg, h2, D, hown.kept hb hb', hs⟩

theorem run_makeMap58 (w : World) : (Instr.makeMap 58 none).run Try.prog w = .ok (.map (some w.heap.size)) (w.alloc (.map #[] 0)) := by kernel_rfl

/-- What NewControl leaves. -/
def RetControl (w : World) (base : Int) (e : Ending) (w' : World) : Prop :=
  (base < 1 ∧ e = .returned (.tuple #[.pointer none, .int .i64 1]) ∧ w = w') ∨
  (¬ base < 1 ∧ ∃ g b, e = .returned (.tuple #[.pointer (some ⟨g, 0, none⟩), .int .i64 0]) ∧ w.heap.size ≤ g ∧ w.heap.size ≤ b ∧ Ctl w' g b base 0 (fun _ => none) ∧ Below w.heap.size w w')

theorem newControl_any (base : Int) (w : World) : Calls Try.prog 15 #[.int .i64 base] w (RetControl w base) := by
  by_cases h1 : base < 1
  · have d1 : decide (base < 1) = true := by simpa using h1
    have H1 := Lib.hid h1
    clear h1
    go_enter Try.func15, Try.ntmps15
    go_wp2_with fail
    go_ret2
    exact .inl ⟨by simpa using d1, rfl, rfl⟩
  have d1 : decide (base < 1) = false := by simpa using h1
  have hmm := run_makeMap58
  go_enter Try.func15, Try.ntmps15
  go_wp2_with fail
  go_ret2
  have hb0 := (Below.refl _ w).alloc (Nat.le_refl _) (.map #[] 0)
  have hown := World.ownsMap_made w Try.prog 49 recR
  have hm := Lit0.new (w.alloc (.map #[] 0)) 60 #[.int .i64 base, .map (some w.heap.size)]
  simp only [World.size_alloc] at hm
  exact .inr ⟨by simpa using d1, w.heap.size + 1, w.heap.size, rfl, by omega, by omega, ⟨hm, by omega, _, hown.alloc _, says_empty⟩, hb0.alloc (by simp) _⟩

theorem clevel_nil (now k : Int) (w : World) : Calls Try.prog 17 #[.pointer none, .int .i64 now, .int .u16 k] w fun e w' => e = .returned (.int .i64 0) ∧ w = w' := by
  go_enter Try.func17, Try.ntmps17
  go_wp2_with fail
  go_ret
  exact ⟨rfl, rfl⟩

theorem clevel_zero (g : Nat) (now k : Int) (m : Value) (w : World) (h : Lit0 w g 60 #[.int .i64 0, m]) : Calls Try.prog 17 #[.pointer (some ⟨g, 0, none⟩), .int .i64 now, .int .u16 k] w fun e w' => e = .returned (.int .i64 0) ∧ w = w' := by
  have c0 := h.cell 0
  simp only [List.getElem?_toArray, List.getElem?_cons_zero] at c0
  clear h
  go_enter Try.func17, Try.ntmps17
  go_wp2_with fail
  go_ret
  exact ⟨rfl, rfl⟩

/-- What a record's destination has at a tick. -/
def levelOf (base now : Int) (o : Option (Int × Int)) : Int := lowv base now (o.getD (0, 0)).1 (o.getD (0, 0)).2

def I64 (n : Int) : Prop := -9223372036854775808 ≤ n ∧ n ≤ 9223372036854775807

theorem clevel_any (g b n : Nat) (base now k : Int) (f : Int → Option (Int × Int)) (w : World) (h : Ctl w g b base n f) (hba : 1 ≤ base ∧ base ≤ 9223372036854775807) (hnow : I64 now) (hk : 0 ≤ k ∧ k ≤ 65535)
    (hf : ∀ p, f k = some p → I64 p.1 ∧ 0 ≤ p.2 ∧ p.2 ≤ 3) :
    Calls Try.prog 17 #[.pointer (some ⟨g, 0, none⟩), .int .i64 now, .int .u16 k] w fun e w' => e = .returned (.int .i64 (levelOf base now (f k))) ∧ Below w.heap.size w w' := by
  have hl := ctl_lookup h k hk
  unfold levelOf
  have hr : I64 ((f k).getD (0, 0)).1 ∧ 0 ≤ ((f k).getD (0, 0)).2 ∧ ((f k).getD (0, 0)).2 ≤ 3 := by
    cases hfk : f k with
    | none => simp [I64]
    | some p => exact hf p hfk
  generalize (f k).getD (0, 0) = p at hl hr ⊢
  have hcall := lowered_any g b base now p.1 p.2 w h.1 hba hnow hr.1 hr.2
  have c0 := h.1.cell 0
  have c1 := h.1.cell 1
  simp only [List.getElem?_toArray, List.getElem?_cons_zero, List.getElem?_cons_succ] at c0 c1
  have e0 : (base == 0) = false := by rw [beq_eq_false_iff_ne]; omega
  unfold recV at hl
  have HC := Lib.hid hcall
  clear hcall hr hf h hk hnow hba
  go_enter Try.func17, Try.ntmps17
  go_wp2_with fail
  refine HC.out.mono ?_
  rintro e w1 ⟨rfl, hb1⟩
  go_wp2_with fail
  go_ret
  exact ⟨rfl, hb1⟩
end Go.Proofs.Ytljogcdopeflnaa
