/- 'lives': the chapter's examples hold. -/
import Derived.Test.YtncklimjbejgoaaLives
namespace Go.Proofs.Ytncklimjbejgoaa
open Go.RowKit

def exG (k : Nat) : Int := ([1, 1, 2] : List Int).getD k 0
def exA (k : Nat) : Int := ([0, 0, 0] : List Int).getD k 0
def exB (k : Nat) : Int := ([2, 0, 0] : List Int).getD k 0
def exC (k : Nat) : Int := ([2, 2, 0] : List Int).getD k 0
def exD (k : Nat) : Bool := ([true, true] : List Bool).getD k false
def exE (k : Nat) : Bool := ([true, false, true] : List Bool).getD k false
def exF (k : Nat) : Int := ([1, 2, 3] : List Int).getD k 0
def ex1 (_ : Nat) : Int := 1
def ex2 (_ : Nat) : Int := 2
def ex3 (k : Nat) : Int := ([0, 1, 2] : List Int).getD k 0
def wantA (k : Nat) : Int := ([0, 1, 0, 1, 0, 1, 0, 1, 0, 1, 0, 1, 0, 1, 0, 1] : List Int).getD k 0
def wantD (k : Nat) : Int := ([0, 0, 0, 0, 1, 1, 1, 1, 0, 0, 0, 0, 1, 1, 1, 1] : List Int).getD k 0
def wantE (k : Nat) : Int := ([0, 2, 2, 0, 0, 2, 0, 0, 2, 0, 2, 2, 0, 0, 2, 0] : List Int).getD k 0

theorem isB : ∀ k : Fin 16, code (nextOf 3 3 exG exB k) = 1 := by decide +kernel
theorem isC : ∀ k : Fin 16, code (nextOf 3 3 exG exC k) = 2 := by decide +kernel
theorem isA : intsB 16 16 16 (fun s => code (nextOf 3 3 exG exA s)) wantA = true := by decide +kernel
theorem isD : intsB 16 16 16 (fun s => code (linkOf 2 2 exD s)) wantD = true := by decide +kernel
theorem isE : intsB 16 16 16 (fun s => code (linkOf 3 3 exE s)) wantE = true := by decide +kernel

/-- A block whose cells are known. -/
def Lit0 (w : World) (g : Nat) (t : TypeId) (cs : Array Value) : Prop := w.heap[g]? = some (.cells cs t (0, 0))
theorem Lit0.lt {w : World} {g : Nat} {t : TypeId} {cs : Array Value} (h : Lit0 w g t cs) : g < w.heap.size := by
  rcases Nat.lt_or_ge g w.heap.size with h' | h'
  · exact h'
  · unfold Lit0 at h; rw [Array.getElem?_eq_none h'] at h; cases h
theorem Lit0.new (w : World) (t : TypeId) (cs : Array Value) : Lit0 (w.alloc (.cells cs t)) w.heap.size t cs := by
  show (w.heap.push _)[w.heap.size]? = _
  simp
theorem Lit0.kept {w w' : World} {g : Nat} {t : TypeId} {cs : Array Value} (h : Lit0 w g t cs) (hb : Below w.heap.size w w') : Lit0 w' g t cs := (hb.block g h.lt).trans h
theorem Lit0.alloc {w : World} {g : Nat} {t : TypeId} {cs : Array Value} (h : Lit0 w g t cs) (o : Obj) : Lit0 (w.alloc o) g t cs := h.kept ((Below.refl _ w).alloc (Nat.le_refl _) o)
theorem Lit0.cell {w : World} {g : Nat} {t : TypeId} {cs : Array Value} (h : Lit0 w g t cs) (j : Nat) : w.cell? ⟨g, j, none⟩ = cs[j]? := by
  unfold Lit0 at h
  simp [World.cell?, h]
theorem Lit0.sees {w : World} {g n : Nat} {t : TypeId} {cs : Array Value} {f : Nat → Value} (h : Lit0 w g t cs) (hc : ∀ k, k < n → cs[k]? = some (f k)) : Sees w w.heap.size (some ⟨g, 0, none⟩) n f :=
  fun k hk => ⟨g, 0, rfl, h.lt, by rw [Nat.zero_add, h.cell]; exact hc k hk⟩
theorem Lit0.sees2 {w : World} {g n : Nat} {t : TypeId} {cs : Array Value} {f f' : Nat → Value} (h : Lit0 w g t cs) (hc : ∀ k, k < n → cs[k * 2]? = some (f k) ∧ cs[k * 2 + 1]? = some (f' k)) : Sees2 w w.heap.size (some ⟨g, 0, none⟩) n f f' :=
  fun k hk => ⟨g, 0, rfl, h.lt, by rw [Nat.zero_add, h.cell]; exact (hc k hk).1, by rw [Nat.zero_add, h.cell]; exact (hc k hk).2⟩
theorem Lit0.sees3 {w : World} {g n : Nat} {t : TypeId} {cs : Array Value} {f f' f'' : Nat → Value} (h : Lit0 w g t cs) (hc : ∀ k, k < n → cs[k * 3]? = some (f k) ∧ cs[k * 3 + 1]? = some (f' k) ∧ cs[k * 3 + 2]? = some (f'' k)) : Sees3 w w.heap.size (some ⟨g, 0, none⟩) n f f' f'' :=
  fun k hk => ⟨g, 0, rfl, h.lt, by rw [Nat.zero_add, h.cell]; exact (hc k hk).1, by rw [Nat.zero_add, h.cell]; exact (hc k hk).2.1, by rw [Nat.zero_add, h.cell]; exact (hc k hk).2.2⟩

def arrChoice : Array Value := #[.int .u16 1, .int .i64 1, .int .u16 2, .int .i64 1, .int .u16 3, .int .i64 2]
def arrLink : Array Value := #[.int .u16 1, .int .u16 2, .int .u8 0, .int .u16 1, .int .u16 2, .int .u8 1, .int .u16 1, .int .u16 2, .int .u8 2]
theorem see_choice {w : World} {g : Nat} (h : Lit0 w g 48 arrChoice) : Sees2 w w.heap.size (some ⟨g, 0, none⟩) 3 (fun k => .int .u16 (exF k)) (fun k => .int .i64 (exG k)) :=
  h.sees2 fun k hk => by
    have : k = 0 ∨ k = 1 ∨ k = 2 := by omega
    rcases this with rfl | rfl | rfl <;> exact ⟨rfl, rfl⟩
theorem see_link {w : World} {g : Nat} (h : Lit0 w g 43 arrLink) (n : Nat) (hn : n ≤ 3) : Sees3 w w.heap.size (some ⟨g, 0, none⟩) n (fun k => .int .u16 (ex1 k)) (fun k => .int .u16 (ex2 k)) (fun k => .int .u8 (ex3 k)) :=
  h.sees3 fun k hk => by
    have : k = 0 ∨ k = 1 ∨ k = 2 := by omega
    rcases this with rfl | rfl | rfl <;> exact ⟨rfl, rfl, rfl⟩
theorem see_status {w : World} {g : Nat} {a b c : Int} {S : Nat → Int} (h : Lit0 w g 49 #[.int .u8 a, .int .u8 b, .int .u8 c]) (h0 : S 0 = a) (h1 : S 1 = b) (h2 : S 2 = c) : Sees w w.heap.size (some ⟨g, 0, none⟩) 3 (fun k => .int .u8 (S k)) :=
  h.sees fun k hk => by
    have : k = 0 ∨ k = 1 ∨ k = 2 := by omega
    rcases this with rfl | rfl | rfl <;> simp [h0, h1, h2]

def arrA : Array Value := #[.int .i64 0, .int .i64 1, .int .i64 0, .int .i64 1, .int .i64 0, .int .i64 1, .int .i64 0, .int .i64 1, .int .i64 0, .int .i64 1, .int .i64 0, .int .i64 1, .int .i64 0, .int .i64 1, .int .i64 0, .int .i64 1]
theorem see_wantA {w : World} {g : Nat} (h : Lit0 w g 3 arrA) : Sees w w.heap.size (some ⟨g, 0, none⟩) 16 (fun k => .int .i64 (wantA k)) :=
  h.sees fun k hk => by
    have hk' : k = 0 ∨ k = 1 ∨ k = 2 ∨ k = 3 ∨ k = 4 ∨ k = 5 ∨ k = 6 ∨ k = 7 ∨ k = 8 ∨ k = 9 ∨ k = 10 ∨ k = 11 ∨ k = 12 ∨ k = 13 ∨ k = 14 ∨ k = 15 := by omega
    rcases hk' with rfl | rfl | rfl | rfl | rfl | rfl | rfl | rfl | rfl | rfl | rfl | rfl | rfl | rfl | rfl | rfl <;> rfl
def arrD : Array Value := #[.int .i64 0, .int .i64 0, .int .i64 0, .int .i64 0, .int .i64 1, .int .i64 1, .int .i64 1, .int .i64 1, .int .i64 0, .int .i64 0, .int .i64 0, .int .i64 0, .int .i64 1, .int .i64 1, .int .i64 1, .int .i64 1]
theorem see_wantD {w : World} {g : Nat} (h : Lit0 w g 3 arrD) : Sees w w.heap.size (some ⟨g, 0, none⟩) 16 (fun k => .int .i64 (wantD k)) :=
  h.sees fun k hk => by
    have hk' : k = 0 ∨ k = 1 ∨ k = 2 ∨ k = 3 ∨ k = 4 ∨ k = 5 ∨ k = 6 ∨ k = 7 ∨ k = 8 ∨ k = 9 ∨ k = 10 ∨ k = 11 ∨ k = 12 ∨ k = 13 ∨ k = 14 ∨ k = 15 := by omega
    rcases hk' with rfl | rfl | rfl | rfl | rfl | rfl | rfl | rfl | rfl | rfl | rfl | rfl | rfl | rfl | rfl | rfl <;> rfl
def arrE : Array Value := #[.int .i64 0, .int .i64 2, .int .i64 2, .int .i64 0, .int .i64 0, .int .i64 2, .int .i64 0, .int .i64 0, .int .i64 2, .int .i64 0, .int .i64 2, .int .i64 2, .int .i64 0, .int .i64 0, .int .i64 2, .int .i64 0]
theorem see_wantE {w : World} {g : Nat} (h : Lit0 w g 3 arrE) : Sees w w.heap.size (some ⟨g, 0, none⟩) 16 (fun k => .int .i64 (wantE k)) :=
  h.sees fun k hk => by
    have hk' : k = 0 ∨ k = 1 ∨ k = 2 ∨ k = 3 ∨ k = 4 ∨ k = 5 ∨ k = 6 ∨ k = 7 ∨ k = 8 ∨ k = 9 ∨ k = 10 ∨ k = 11 ∨ k = 12 ∨ k = 13 ∨ k = 14 ∨ k = 15 := by omega
    rcases hk' with rfl | rfl | rfl | rfl | rfl | rfl | rfl | rfl | rfl | rfl | rfl | rfl | rfl | rfl | rfl | rfl <;> rfl
theorem see_up2 {w : World} {g : Nat} (h : Lit0 w g 4 #[.bool true, .bool true]) : Sees w w.heap.size (some ⟨g, 0, none⟩) 2 (fun k => .bool (exD k)) :=
  h.sees fun k hk => by
    have : k = 0 ∨ k = 1 := by omega
    rcases this with rfl | rfl <;> rfl
theorem see_up3 {w : World} {g : Nat} (h : Lit0 w g 4 #[.bool true, .bool false, .bool true]) : Sees w w.heap.size (some ⟨g, 0, none⟩) 3 (fun k => .bool (exE k)) :=
  h.sees fun k hk => by
    have : k = 0 ∨ k = 1 ∨ k = 2 := by omega
    rcases this with rfl | rfl | rfl <;> rfl

set_option maxHeartbeats 1000000 in
theorem lives_any (w : World) : Calls Try.prog 8 #[] w (RetBool w true) := by
  have hc0 : Lit0 (w.alloc (.cells #[.int .u16 1, .int .i64 1, .int .u16 2, .int .i64 1, .int .u16 3, .int .i64 2] 48)) w.heap.size 48 arrChoice := Lit0.new _ _ _
  have hl0 : Lit0 ((w.alloc (.cells #[.int .u16 1, .int .i64 1, .int .u16 2, .int .i64 1, .int .u16 3, .int .i64 2] 48)).alloc (.cells #[.int .u16 1, .int .u16 2, .int .u8 0, .int .u16 1, .int .u16 2, .int .u8 1, .int .u16 1, .int .u16 2, .int .u8 2] 43)) (w.heap.size + 1) 43 arrLink := by
    have h := Lit0.new (w.alloc (.cells #[.int .u16 1, .int .i64 1, .int .u16 2, .int .i64 1, .int .u16 3, .int .i64 2] 48)) 43 arrLink
    simp only [World.size_alloc] at h
    exact h
  obtain ⟨wa, hwa⟩ : ∃ wa, wa = (w.alloc (.cells #[.int .u16 1, .int .i64 1, .int .u16 2, .int .i64 1, .int .u16 3, .int .i64 2] 48)).alloc (.cells #[.int .u16 1, .int .u16 2, .int .u8 0, .int .u16 1, .int .u16 2, .int .u8 1, .int .u16 1, .int .u16 2, .int .u8 2] 43) := ⟨_, rfl⟩
  have hba : Below w.heap.size w wa := by rw [hwa]; exact ((Below.refl _ w).alloc (Nat.le_refl _) _).alloc (by simp) _
  have hca : Lit0 wa w.heap.size 48 arrChoice := by rw [hwa]; exact hc0.alloc _
  have hla : Lit0 wa (w.heap.size + 1) 43 arrLink := by rw [hwa]; exact hl0
  have hsz : wa.heap.size = w.heap.size + 1 + 1 := by rw [hwa]; simp
  have HW := Lib.hid hwa
  have HCA := Lib.hid hca
  have HLA := Lib.hid hla
  have HSZ := Lib.hid hsz
  clear hc0 hl0 hwa hca hla hsz
  go_enter Try.func8, Try.ntmps8
  go_wp2_with fail
  rw [← HW.out, ← HSZ.out]
  have hn1 := Lit0.new wa 49 #[.int .u8 0, .int .u8 0, .int .u8 0]
  have hk1 := (Below.refl _ wa).alloc (Nat.le_refl _) (.cells #[.int .u8 0, .int .u8 0, .int .u8 0] 49)
  refine (places_any _ _ 3 3 3 3 exF exG exA _ (by omega) (see_choice (HCA.out.kept hk1)) (see_status hn1 rfl rfl rfl)).mono ?_
  rintro e w1 ⟨g1, rfl, hg1, hr1, hb1⟩
  have hs1 := hk1.trans (hb1.mono (by simp))
  replace HCA := Lib.hid (HCA.out.kept hs1)
  replace HLA := Lib.hid (HLA.out.kept hs1)
  have HR1 := Lib.hid hr1
  replace hba := hba.trans (hs1.mono hba.size)
  clear hn1 hk1 hr1 hb1 hg1 hs1
  go_wp2_with fail
  have hn2 := Lit0.new w1 49 #[.int .u8 2, .int .u8 0, .int .u8 0]
  have hk2 := (Below.refl _ w1).alloc (Nat.le_refl _) (.cells #[.int .u8 2, .int .u8 0, .int .u8 0] 49)
  refine (places_any _ _ 3 3 3 3 exF exG exB _ (by omega) (see_choice (HCA.out.kept hk2)) (see_status hn2 rfl rfl rfl)).mono ?_
  rintro e w2 ⟨g2, rfl, hg2, hr2, hb2⟩
  have hs2 := hk2.trans (hb2.mono (by simp))
  replace HCA := Lib.hid (HCA.out.kept hs2)
  replace HLA := Lib.hid (HLA.out.kept hs2)
  replace HR1 := Lib.hid (HR1.out.kept hs2)
  have HR2 := Lib.hid hr2
  replace hba := hba.trans (hs2.mono hba.size)
  clear hn2 hk2 hr2 hb2 hg2 hs2
  go_wp2_with fail
  have hn3 := Lit0.new w2 49 #[.int .u8 2, .int .u8 2, .int .u8 0]
  have hk3 := (Below.refl _ w2).alloc (Nat.le_refl _) (.cells #[.int .u8 2, .int .u8 2, .int .u8 0] 49)
  refine (places_any _ _ 3 3 3 3 exF exG exC _ (by omega) (see_choice (HCA.out.kept hk3)) (see_status hn3 rfl rfl rfl)).mono ?_
  rintro e w3 ⟨g3, rfl, hg3, hr3, hb3⟩
  have hs3 := hk3.trans (hb3.mono (by simp))
  replace HCA := Lib.hid (HCA.out.kept hs3)
  replace HLA := Lib.hid (HLA.out.kept hs3)
  replace HR1 := Lib.hid (HR1.out.kept hs3)
  replace HR2 := Lib.hid (HR2.out.kept hs3)
  have HR3 := Lib.hid hr3
  replace hba := hba.trans (hs3.mono hba.size)
  clear hn3 hk3 hr3 hb3 hg3 hs3
  go_wp2_with fail
  have hn4 := Lit0.new w3 4 #[.bool true, .bool true]
  have hk4 := (Below.refl _ w3).alloc (Nat.le_refl _) (.cells #[.bool true, .bool true] 4)
  refine (lines_any _ _ 2 3 2 2 ex1 ex2 ex3 exD _ (by omega) (see_link (HLA.out.kept hk4) 2 (by omega)) (see_up2 hn4)).mono ?_
  rintro e w4 ⟨g4, rfl, hg4, hr4, hb4⟩
  have hs4 := hk4.trans (hb4.mono (by simp))
  replace HCA := Lib.hid (HCA.out.kept hs4)
  replace HLA := Lib.hid (HLA.out.kept hs4)
  replace HR1 := Lib.hid (HR1.out.kept hs4)
  replace HR2 := Lib.hid (HR2.out.kept hs4)
  replace HR3 := Lib.hid (HR3.out.kept hs4)
  have HR4 := Lib.hid hr4
  replace hba := hba.trans (hs4.mono hba.size)
  clear hn4 hk4 hr4 hb4 hg4 hs4
  go_wp2_with fail
  have hn5 := Lit0.new w4 4 #[.bool true, .bool false, .bool true]
  have hk5 := (Below.refl _ w4).alloc (Nat.le_refl _) (.cells #[.bool true, .bool false, .bool true] 4)
  refine (lines_any _ _ 3 3 3 3 ex1 ex2 ex3 exE _ (by omega) (see_link (HLA.out.kept hk5) 3 (by omega)) (see_up3 hn5)).mono ?_
  rintro e w5 ⟨g5, rfl, hg5, hr5, hb5⟩
  have hs5 := hk5.trans (hb5.mono (by simp))
  replace HCA := Lib.hid (HCA.out.kept hs5)
  replace HLA := Lib.hid (HLA.out.kept hs5)
  replace HR1 := Lib.hid (HR1.out.kept hs5)
  replace HR2 := Lib.hid (HR2.out.kept hs5)
  replace HR3 := Lib.hid (HR3.out.kept hs5)
  replace HR4 := Lib.hid (HR4.out.kept hs5)
  have HR5 := Lib.hid hr5
  replace hba := hba.trans (hs5.mono hba.size)
  clear hn5 hk5 hr5 hb5 hg5 hs5
  go_wp2_with fail
  go_loopw [8] (fun i wr => ∃ k : Nat, k ≤ 16 ∧ i = .int .i64 k ∧ wr = w5) (fun i _ => 16 - (intOf i).toNat)
  case atStart => exact ⟨0, Nat.zero_le _, rfl, rfl⟩
  case round =>
    obtain ⟨k, hk, rfl, rfl⟩ := hrel
    by_cases hlt : k < 16
    · have hx2 : wr.cell? ⟨g2, k, none⟩ = some (.int .i64 1) := by rw [HR2.out.cell hlt]; exact congrArg (fun x => some (Value.int .i64 x)) (isB ⟨k, hlt⟩)
      have hx3 : wr.cell? ⟨g3, k, none⟩ = some (.int .i64 2) := by rw [HR3.out.cell hlt]; exact congrArg (fun x => some (Value.int .i64 x)) (isC ⟨k, hlt⟩)
      go_wp2_with fail
      go_roundw
      case measure => simp [intOf]; omega
      case rel => exact ⟨k + 1, by omega, by go_num, trivial⟩
    · obtain rfl : k = 16 := by omega
      go_wp2_with fail
      have hi1 := Lit0.new wr 3 arrA
      have hj1 := (Below.refl _ wr).alloc (Nat.le_refl _) (.cells arrA 3)
      refine (((ints_any _ _ 16 16 16 16 (fun s => code (nextOf 3 3 exG exA s)) wantA _ (by omega) (by omega) (by omega) ((HR1.out.kept hj1).sees) (see_wantA hi1)).mono ?_ : Calls _ _ _ _ _))
      rw [isA]
      rintro e v1 ⟨rfl, hb1⟩
      have hs1 := hj1.trans (hb1.mono (by simp))
      replace HR4 := Lib.hid (HR4.out.kept hs1)
      replace HR5 := Lib.hid (HR5.out.kept hs1)
      replace hba := hba.trans (hs1.mono hba.size)
      clear hi1 hj1 hb1 hs1
      go_wp2_with fail
      have hi2 := Lit0.new v1 3 arrD
      have hj2 := (Below.refl _ v1).alloc (Nat.le_refl _) (.cells arrD 3)
      refine (((ints_any _ _ 16 16 16 16 (fun s => code (linkOf 2 2 exD s)) wantD _ (by omega) (by omega) (by omega) ((HR4.out.kept hj2).sees) (see_wantD hi2)).mono ?_ : Calls _ _ _ _ _))
      rw [isD]
      rintro e v2 ⟨rfl, hb2⟩
      have hs2 := hj2.trans (hb2.mono (by simp))
      replace HR4 := Lib.hid (HR4.out.kept hs2)
      replace HR5 := Lib.hid (HR5.out.kept hs2)
      replace hba := hba.trans (hs2.mono hba.size)
      clear hi2 hj2 hb2 hs2
      go_wp2_with fail
      have hi3 := Lit0.new v2 3 arrE
      have hj3 := (Below.refl _ v2).alloc (Nat.le_refl _) (.cells arrE 3)
      refine (((ints_any _ _ 16 16 16 16 (fun s => code (linkOf 3 3 exE s)) wantE _ (by omega) (by omega) (by omega) ((HR5.out.kept hj3).sees) (see_wantE hi3)).mono ?_ : Calls _ _ _ _ _))
      rw [isE]
      rintro e v3 ⟨rfl, hb3⟩
      have hs3 := hj3.trans (hb3.mono (by simp))
      replace HR4 := Lib.hid (HR4.out.kept hs3)
      replace HR5 := Lib.hid (HR5.out.kept hs3)
      replace hba := hba.trans (hs3.mono hba.size)
      clear hi3 hj3 hb3 hs3
      go_wp2_with fail
      go_ret
      exact ⟨rfl, hba⟩
end Go.Proofs.Ytncklimjbejgoaa
