/- send. -/
import Derived.Test.YtdjephmkpebnhaaDoorLocal
namespace Go.Proofs.YtdjephmkpebnhaaDoor
open Go.RowKit

theorem clip_bools (b n cp : Nat) (w : World) (hn : n ≤ cp) : Calls Tryd.prog 41 #[.slice (some ⟨b, 0, none⟩) n cp] w fun e w' => e = .returned (.slice (some ⟨b, 0, none⟩) n n) ∧ w = w' := by
  go_enter Tryd.func41, Tryd.ntmps41
  go_wp2_with fail
  go_ret
  exact ⟨rfl, rfl⟩

theorem clip_nil (w : World) : Calls Tryd.prog 41 #[.slice none 0 0] w fun e w' => e = .returned (.slice none 0 0) ∧ w = w' := by
  go_enter Tryd.func41, Tryd.ntmps41
  go_wp2_with fail
  go_ret
  exact ⟨rfl, rfl⟩

theorem eq_nil_no (b : Nat) (n cp : Nat) (w : World) : (binOp BinOp.eql 33 (.slice (some ⟨b, 0, none⟩) n cp) (.slice none 0 0)).run Tryd.prog w = .ok (.bool false) w := by kernel_rfl
theorem eq_nil_yes (w : World) : (binOp BinOp.eql 33 (.slice none 0 0) (.slice none 0 0)).run Tryd.prog w = .ok (.bool true) w := by kernel_rfl
theorem Tryd.info4 : (Tryd.prog.info? 4).map (fun i => (i.zero, i.size, i.bytes)) = some (some (.bool false), 1, 1) := by kernel_rfl

set_option maxRecDepth 100000 in
theorem clone_nil (w : World) : Calls Tryd.prog 42 #[.slice none 0 0] w fun e w' => e = .returned (.slice none 0 0) ∧ w = w' := by
  have hq := eq_nil_yes
  go_enter Tryd.func42, Tryd.ntmps42
  go_wp2_with fail
  go_ret
  exact ⟨rfl, rfl⟩

/-- What a copy of a row of bools answers with. -/
def RetCopy (w : World) (n : Nat) (F : Nat → Bool) (e : Ending) (w' : World) : Prop := ∃ r cp, e = .returned (.slice (some ⟨r, 0, none⟩) n cp) ∧ n ≤ cp ∧ Sees w' w'.heap.size (some ⟨r, 0, none⟩) n (fun k => .bool (F k)) ∧ w.heap.size ≤ r ∧ Below w.heap.size w w'

def boolsOf (n : Nat) (F : Nat → Bool) : List Value := (List.range n).map (fun k => .bool (F k))
theorem boolsOf_length (n : Nat) (F : Nat → Bool) : (boolsOf n F).length = n := by simp [boolsOf]
theorem boolsOf_get {n : Nat} {F : Nat → Bool} {j : Nat} {u : Value} (h : (boolsOf n F)[j]? = some u) : j < n ∧ u = .bool (F j) := by
  unfold boolsOf at h
  rw [List.getElem?_map] at h
  obtain ⟨k, hk, rfl⟩ := Option.map_eq_some_iff.1 h
  rw [List.getElem?_eq_some_iff] at hk
  obtain ⟨hl, he⟩ := hk
  simp at hl he
  subst he
  exact ⟨hl, rfl⟩
theorem boolsOf_getD (n : Nat) (F : Nat → Bool) (k : Nat) (hk : k < n) (d : Value) : (boolsOf n F).getD k d = .bool (F k) := by
  unfold boolsOf
  rw [List.getD_eq_getElem?_getD, List.getElem?_map, List.getElem?_range hk]
  rfl

theorem own_empty (w : World) (e : TypeId) (base : Nat) (hb : base ≤ w.heap.size) : (w.alloc (.cells #[] e)).ownsRow base e 1 (.slice (some ⟨w.heap.size, 0, none⟩) 0 0) 0 [] :=
  ⟨rfl, .inr ⟨w.heap.size, 0, #[], rfl, hb, by show (w.heap.push _)[w.heap.size]? = _; simp, Nat.le_refl _, by simp [maxLen], rfl, rfl⟩⟩

set_option maxRecDepth 100000 in
theorem clone_any (b n cp : Nat) (F : Nat → Bool) (w : World) (hn : 1 ≤ n ∧ n ≤ cp ∧ n ≤ 1000) (hs : Sees w w.heap.size (some ⟨b, 0, none⟩) n (fun k => .bool (F k))) : Calls Tryd.prog 42 #[.slice (some ⟨b, 0, none⟩) n cp] w (RetCopy w n F) := by
  obtain ⟨i0, hi, hz0, hz1, hz2⟩ := info_parts Tryd.info4
  have hq := eq_nil_no
  have hown := own_empty w 4 w.heap.size (Nat.le_refl _)
  have hb1 := (Below.refl w.heap.size w).alloc (Nat.le_refl _) (.cells #[] 4)
  have hnews : ∀ j u, (boolsOf n F)[j]? = some u → (w.alloc (.cells #[] 4)).cell? ((⟨b, 0, none⟩ : Addr).add j) = some u := fun j u h => by
    obtain ⟨hj, rfl⟩ := boolsOf_get h
    have := (hs.below hb1).cell hj
    rw [show (⟨b, 0, none⟩ : Addr).add j = ⟨b, 0 + j, none⟩ from by cases j <;> simp [Addr.add]]
    exact this
  have HOWN := Lib.hid hown
  have HB1 := Lib.hid hb1
  have HNEWS := Lib.hid hnews
  clear hown hb1 hnews hs
  go_enter Tryd.func42, Tryd.ntmps42
  go_wp2_with (first
    | (at_builtin; refine wpList_append_own _ rfl (.tmp 5) (.tmp 6) 33 rfl w.heap.size 4 i0 (.bool false) 1 1 Tryd.underlying33 hi hz0 hz1 hz2 rfl (by decide) _ 0 [] rfl HOWN.out ⟨b, 0, none⟩ n cp (boolsOf n F) rfl (by rw [boolsOf_length]; omega) HNEWS.out (fun u hu => by obtain ⟨j, hj⟩ := List.getElem?_of_mem hu; obtain ⟨_, rfl⟩ := boolsOf_get hj; rfl) (by unfold maxLen; omega) (by omega) (by simp) ?_; intro v' w' hown' hg _))
  have hbel := HB1.out.grown hg (by simp) (own_base HOWN.out)
  obtain ⟨hl, h0 | ⟨r, cap, cur, rfl, hr, hh, hc, hm, hsz, ht⟩⟩ := hown'
  · exact absurd h0.2 (by omega)
  · have HBEL := Lib.hid hbel
    have hsee : Sees w' w'.heap.size (some ⟨r, 0, none⟩) (0 + n) (fun k => .bool (F k)) := fun k hk => by
      refine ⟨r, 0, rfl, ?_, ?_⟩
      · rcases Nat.lt_or_ge r w'.heap.size with h | h
        · exact h
        · rw [Array.getElem?_eq_none h] at hh; cases hh
      · have hk' : k < cur.size := by omega
        have hx : ([] ++ boolsOf n F)[k]? = cur.toList[k]? := by rw [← ht, List.getElem?_take]; simp; omega
        simp only [World.cell?, hh, Option.isSome, Nat.zero_add]
        rw [← Array.getElem?_toList, ← hx, List.nil_append]
        have := boolsOf_getD n F k (by omega) (.bool false)
        rw [List.getD_eq_getElem?_getD, List.getElem?_eq_getElem (by rw [boolsOf_length]; omega)] at this
        rw [List.getElem?_eq_getElem (by rw [boolsOf_length]; omega)]
        exact congrArg some this
    rw [Nat.zero_add] at hsee hc
    have HSEE := Lib.hid hsee
    simp only [Nat.zero_add]
    clear hl hh hsz ht hsee hbel hg
    go_ret
    exact ⟨r, cap, rfl, hc, HSEE.out, hr, HBEL.out⟩

/-- What the copy of a message's row leaves: none, or a new row as long as it is. -/
def Copied (w w' : World) (n : Nat) (F : Nat → Bool) (v : Value) : Prop := (n = 0 ∧ v = .slice none 0 0) ∨ (0 < n ∧ ∃ r, v = .slice (some ⟨r, 0, none⟩) n n ∧ w.heap.size ≤ r ∧ Sees w' w'.heap.size (some ⟨r, 0, none⟩) n (fun k => .bool (F k)))
end Go.Proofs.YtdjephmkpebnhaaDoor
