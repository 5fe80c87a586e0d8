/- The exchange's states, and what each step makes of them. -/
import Derived.Test.YtdjephmkpebnhaaDoorLaw
import Derived.Test.YtdjephmkpebnhaaDoorAck
namespace Go.Proofs.YtdjephmkpebnhaaDoor
open Go.RowKit

/-- Where all lies: desks, groups, told rows, circuits. -/
structure Pts where
  da : Nat
  ga : Nat
  ta : Nat
  ca : Nat
  db : Nat
  gb : Nat
  tb : Nat
  cb : Nat

def Pts.all (p : Pts) : List Nat := [p.da, p.ga, p.ta, p.ca, p.db, p.gb, p.tb, p.cb]
def Pts.ok (p : Pts) (lo : Nat) : Prop := p.all.Nodup ∧ ∀ x ∈ p.all, x < lo

/-- Both ends. -/
structure Ends (w : World) (p : Pts) (lo n : Nat) (age last hb : Int) (opA outA outB : Value) (L T R : Nat → Bool) (S C S2 C2 : Nat → Int) : Prop where
  da : Dk w p.da p.ga p.ta n 5 age last 0 opA outA T
  ga : Grp w p.ga p.ca 1 2 n S (fun i => locI (L i)) C
  db : Dk w p.db p.gb p.tb n 5 0 0 hb (.pointer none) outB (fun _ => false)
  gb : Grp w p.gb p.cb 2 1 n S2 (fun i => remI (R i)) C2
  lo : lo ≤ w.heap.size

/-- A message of a is open; it lies in a's box. -/
structure Opened (w : World) (p : Pts) (lo n : Nat) (last : Int) (L T T0 : Nat → Bool) (f k ml mb r : Nat) (mk on : Value) : Prop where
  done : Done (Dd L T0) n k f ml
  told : T = toldTo L T0 k
  msg : MsgAt w r 1 last f mk on
  mask : Bools w ml (MkF L T0 f) mk
  ons : Bools w ml (OnF L T0 f) on
  box : ∃ mv ov, Lit0 w mb 42 #[.int .u8 1, .int .u32 last, .int .i64 f, mv, ov]
  mbge : lo ≤ mb
  rge : lo ≤ r

theorem bools_ne {w : World} {m b : Nat} {F : Nat → Bool} {A : Nat} {v : Value} (h : Sees w w.heap.size (some ⟨A, 0, none⟩) m (fun k => .bool (F k))) (hm : 1 ≤ m) (hb : w.cell? ⟨b, 0, none⟩ = some v) (hv : ∀ x, v ≠ .bool x) : A ≠ b := by
  intro e
  subst e
  have hc := h.cell (k := 0) (by omega)
  rw [Nat.zero_add, hb] at hc
  injection hc with hc
  exact hv _ hc
end Go.Proofs.YtdjephmkpebnhaaDoor
