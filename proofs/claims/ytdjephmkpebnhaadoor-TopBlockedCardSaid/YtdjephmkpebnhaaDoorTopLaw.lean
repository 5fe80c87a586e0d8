/- TopBlocked: what holds between its loops. -/
import Derived.Test.YtdjephmkpebnhaaDoorExch3
import Derived.Test.YtdjephmkpebnhaaDoorStep
namespace Go.Proofs.YtdjephmkpebnhaaDoor
open Go.RowKit

/-- A slice of whole numbers, whatever turns below lo. -/
def Codes (w : World) (lo : Nat) (A : Option Addr) (l : Nat) (Y : Nat → Nat) : Prop :=
  ∀ w' bs, Kept w w' bs → (∀ x ∈ bs, x < lo) → Sees w' w'.heap.size A l (fun i => .int .i64 (Y i : Nat))

def codesOf (Y : Nat → Nat) (l : Nat) : List Value := (List.range l).map (fun i => .int .i64 (Y i : Nat))
theorem codesOf_succ (Y : Nat → Nat) (l : Nat) : codesOf Y (l + 1) = codesOf Y l ++ [.int .i64 (Y l : Nat)] := by
  unfold codesOf
  rw [List.range_succ, List.map_append, List.map_singleton]

theorem codes_of_own {w : World} {lo l : Nat} {v : Value} {Y : Nat → Nat} (h : w.ownsRow lo 3 1 v l (codesOf Y l)) : ∃ A cp, v = .slice A l cp ∧ Codes w lo A l Y := by
  obtain ⟨A, cp, rfl, _, _, hs⟩ := sees_of_own h
  refine ⟨A, cp, rfl, fun w' bs hk hb k hkl => ?_⟩
  obtain ⟨b, off, rfl, hlt, hc⟩ := hs k hkl
  have hge : lo ≤ b := by
    have := own_base h b
    simp [Value.ownBlock] at this
    exact this
  refine ⟨b, off, rfl, Nat.lt_of_lt_of_le hlt hk.size, ?_⟩
  rw [hk.cell hc (fun hx => by have := hb b hx; omega)]
  unfold codesOf
  simp [List.getD_eq_getElem?_getD, hkl]

theorem Kept.join {a b c : World} {bs cs : List Nat} (h : Kept a b bs) (k : Kept b c cs) : Kept a c (bs ++ cs) :=
  (h.more (fun _ hx => List.mem_append_left _ hx)).trans (k.more (fun _ hx => List.mem_append_right _ hx))

theorem Codes.kept {w wx : World} {lo l : Nat} {A : Option Addr} {Y : Nat → Nat} {bs : List Nat} (h : Codes w lo A l Y) (hk : Kept w wx bs) (hb : ∀ x ∈ bs, x < lo) : Codes wx lo A l Y :=
  fun w' cs hk2 hc => h w' (bs ++ cs) (hk.join hk2) (fun x hx => by
    rcases List.mem_append.1 hx with hx | hx
    · exact hb x hx
    · exact hc x hx)

theorem Codes.weaken {w : World} {lo lo' l : Nat} {A : Option Addr} {Y : Nat → Nat} (h : Codes w lo A l Y) (hl : lo' ≤ lo) : Codes w lo' A l Y :=
  fun w' bs hk hb => h w' bs hk (fun x hx => Nat.lt_of_lt_of_le (hb x hx) hl)

theorem own_set {w : World} {base : Nat} {e : TypeId} {s n : Nat} {v : Value} {xs : List Value} (h : w.ownsRow base e s v n xs) {p : Addr} (hp : p.block < base) (u : Value) : (w.setCell p u).ownsRow base e s v n xs := by
  obtain ⟨hl, hr⟩ := h
  rcases hr with h0 | ⟨g, cap, cur, hv, hg, hh, hc, hm, hs, ht⟩
  · exact ⟨hl, .inl h0⟩
  · exact ⟨hl, .inr ⟨g, cap, cur, hv, hg, (Below.heap_setCell w p u g (by omega)).trans hh, hc, hm, hs, ht⟩⟩

/-- What no step of the exchange turns. -/
structure All (w wx : World) (p : Pts) (lo n bk : Nat) (A : Option Addr) (l : Nat) (Y : Nat → Nat) (Bk : Nat → Bool) : Prop where
  row : Row wx bk 4 n (fun i => .bool (Bk i))
  codes : Codes wx lo A l Y
  below : Below w.heap.size w wx
  ok : p.ok lo
  bkge : lo ≤ bk
  new : ∀ x ∈ p.all, w.heap.size ≤ x
  lt : ∀ i, i < l → Y i < n
  marks : ∀ i, Bk i = decide (∃ j, j < l ∧ Y j = i)
  num : (1 ≤ n ∧ n ≤ 40) ∧ l ≤ 40

theorem All.kept {w wx wy : World} {p : Pts} {lo n bk : Nat} {A : Option Addr} {l : Nat} {Y : Nat → Nat} {Bk : Nat → Bool} {bs : List Nat} (h : All w wx p lo n bk A l Y Bk) (hk : Kept wx wy bs) (hb : ∀ x ∈ bs, x ∈ p.all) : All w wy p lo n bk A l Y Bk :=
  ⟨hk.row h.row (fun hx => by have := h.ok.2 _ (hb _ hx); have := h.bkge; omega), h.codes.kept hk (fun x hx => h.ok.2 _ (hb x hx)), hk.to_below h.below (fun x hx => h.new x (hb x hx)), h.ok, h.bkge, h.new, h.lt, h.marks, h.num⟩

/-- Whether circuit i is to be blocked at the head of round o. -/
def Want (o : Nat) (Bk : Nat → Bool) (i : Nat) : Bool := decide (o = 1) && Bk i

/-- Both desks at rest, all circuits free of calls. -/
def Rested (w wx : World) (p : Pts) (lo n bk : Nat) (A : Option Addr) (l : Nat) (Y : Nat → Nat) (Bk : Nat → Bool) (o : Nat) : Prop :=
  ∃ (age last : Int) (L T : Nat → Bool) (S C S2 C2 : Nat → Int), Ends wx p lo n age last last (.pointer none) (.slice none 0 0) (.slice none 0 0) L T T S C S2 C2 ∧ (∀ i, i < n → L i = T i) ∧ (∀ i, i < n → S i = 0) ∧ (∀ i, i < n → S2 i = 0) ∧
    (0 ≤ last ∧ last ≤ 101 * (o : Int)) ∧ (∀ i, i < n → L i = Want o Bk i) ∧ All w wx p lo n bk A l Y Bk

/-- b has heard a's open message; its Ack waits. -/
def Answered (w wx : World) (p : Pts) (lo n bk : Nat) (A : Option Addr) (l : Nat) (Y : Nat → Nat) (Bk : Nat → Bool) (mb f : Nat) (age ls : Int) (L T : Nat → Bool) (S C S2 C2 : Nat → Int) : Prop :=
  ∃ (r cap : Nat) (mv ov : Value), 1 ≤ cap ∧ Ends wx p lo n age ls ls (.pointer (some ⟨mb, 0, none⟩)) (.slice none 0 0) (.slice (some ⟨r, 0, none⟩) 1 cap) L T T S C S2 C2 ∧ MsgAt wx r 2 ls 0 (.slice none 0 0) (.slice none 0 0) ∧ lo ≤ r ∧
    Lit0 wx mb 42 #[.int .u8 1, .int .u32 ls, .int .i64 f, mv, ov] ∧ All w wx p lo n bk A l Y Bk

theorem want_next {o : Nat} {Bk L : Nat → Bool} {Y : Nat → Nat} {l n : Nat} (ho : o < 2) (hm : ∀ i, Bk i = decide (∃ j, j < l ∧ Y j = i)) (hL : ∀ i, i < n → L i = Want o Bk i) : ∀ i, i < n → allTo L Y (decide (o = 0)) l i = Want (o + 1) Bk i := by
  intro i hi
  have h := hL i hi
  unfold Want at h ⊢
  rcases Nat.lt_or_ge o 1 with h0 | h0
  · obtain rfl : o = 0 := by omega
    simp only [decide_true, Nat.zero_add, Bool.true_and]
    rw [allTo_on, h, ← hm i]
    simp
  · obtain rfl : o = 1 := by omega
    have e : decide ((1 : Nat) = 0) = false := by decide
    rw [e, allTo_off, h, ← hm i]
    cases Bk i <;> simp

theorem hunted_start {w : World} {g c n : Nat} {own far : Int} {S B C : Nat → Int} {W : Nat → Bool} (h : Grp w g c own far n S B C) (hS : ∀ i, i < n → S i = 0) (hB : ∀ i, i < n → decide (B i = 0) = !W i) : Hunted w g c own far n B (cnt (fun i => !W i) n) 1 :=
  ⟨S, C, h, fun i hi hx => absurd (hS i hi) hx, by
    rw [cnt_congr (Q := fun i => !W i) (fun i hi => by
      unfold freeC
      rw [hS i hi, hB i hi]
      simp)]
    omega⟩

/-- A group at rest can be hunted; when it is free again, all is at rest. -/
theorem rested_hunt {w wx : World} {p : Pts} {lo n bk : Nat} {A : Option Addr} {l : Nat} {Y : Nat → Nat} {Bk : Nat → Bool} {o s : Nat} (h : Rested w wx p lo n bk A l Y Bk o) (hs : s < 2) :
    ∃ (gx cx : Nat) (own far : Int) (B : Nat → Int), gx = (if s = 0 then p.ga else p.gb) ∧ cx ∈ p.all ∧ Hunted wx gx cx own far n B (cnt (fun i => !Want o Bk i) n) 1 ∧ (∀ i, i < n → B i = 0 → Want o Bk i = false) ∧
      (∀ wy, Kept wx wy [cx] → Freed wy gx cx own far n B n → Rested w wy p lo n bk A l Y Bk o) := by
  obtain ⟨age, last, L, T, S, C, S2, C2, hE, hLT, hS, hS2, hlast, hL, hall⟩ := h
  obtain ⟨⟨_, _, dc, _, _, _, dC⟩, ⟨_, gc, _, _, _, gC⟩, ⟨tc, _, _, _, tC⟩, ⟨cD, cG, cT, cC⟩, ⟨_, _, DC⟩, ⟨_, GC⟩, TC⟩ := hall.ok.ne
  rcases Nat.lt_or_ge s 1 with h0 | h0
  · refine ⟨p.ga, p.ca, 1, 2, fun i => locI (L i), by rw [if_pos (by omega)], by simp [Pts.all], hunted_start hE.ga hS (fun i hi => ?_), fun i hi hb => ?_, fun wy hk hf => ?_⟩
    · rw [hL i hi]
      cases Want o Bk i <;> simp [locI]
    · rw [← hL i hi]
      cases hx : L i
      · rfl
      · simp [hx, locI] at hb
    · obtain ⟨S', C', hg, hz⟩ := hf
      exact ⟨age, last, L, T, S', C', S2, C2, ⟨hk.dk hE.da (by simpa using dc) (by simpa using tc), hg, hk.dk hE.db (by simpa using cD.symm) (by simpa using cT.symm), hk.grp hE.gb (by simpa using cG.symm) (by simpa using cC.symm), Nat.le_trans hE.lo hk.size⟩,
        hLT, hz, hS2, hlast, hL, hall.kept hk (by simp [Pts.all])⟩
  · refine ⟨p.gb, p.cb, 2, 1, fun i => remI (T i), by rw [if_neg (by omega)], by simp [Pts.all], hunted_start hE.gb hS2 (fun i hi => ?_), fun i hi hb => ?_, fun wy hk hf => ?_⟩
    · rw [← hL i hi, hLT i hi]
      cases T i <;> simp [remI]
    · rw [← hL i hi, hLT i hi]
      cases hx : T i
      · rfl
      · simp [hx, remI] at hb
    · obtain ⟨S', C', hg, hz⟩ := hf
      exact ⟨age, last, L, T, S, C, S', C', ⟨hk.dk hE.da (by simpa using dC) (by simpa using tC), hk.grp hE.ga (by simpa using gC) (by simpa using cC), hk.dk hE.db (by simpa using DC) (by simpa using TC), hg, Nat.le_trans hE.lo hk.size⟩,
        hLT, hS, hz, hlast, hL, hall.kept hk (by simp [Pts.all])⟩

theorem Rested.kept {w wx wy : World} {p : Pts} {lo n bk : Nat} {A : Option Addr} {l : Nat} {Y : Nat → Nat} {Bk : Nat → Bool} {o : Nat} (h : Rested w wx p lo n bk A l Y Bk o) (hb : Below wx.heap.size wx wy) : Rested w wy p lo n bk A l Y Bk o := by
  obtain ⟨age, last, L, T, S, C, S2, C2, hE, hLT, hS, hS2, hlast, hL, hall⟩ := h
  exact ⟨age, last, L, T, S, C, S2, C2, ⟨hE.da.kept hb, hE.ga.kept hb, hE.db.kept hb, hE.gb.kept hb, Nat.le_trans hE.lo hb.size⟩, hLT, hS, hS2, hlast, hL, hall.kept (bs := []) (Kept.below hb) (by simp)⟩

/-- Behind the last hunt the circuits are there to be freed. -/
theorem Hunted.freed {w : World} {g c n F call : Nat} {own far : Int} {B : Nat → Int} (h : Hunted w g c own far n B F call) : Freed w g c own far n B 0 := by
  obtain ⟨S, C, hg, _⟩ := h.grp
  exact ⟨S, C, hg, fun i hi => absurd hi (by omega)⟩
end Go.Proofs.YtdjephmkpebnhaaDoor
