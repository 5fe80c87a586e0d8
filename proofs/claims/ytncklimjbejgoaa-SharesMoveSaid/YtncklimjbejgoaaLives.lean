/- 'ints' and 'lives': the chapter's examples hold. -/
import Derived.Test.YtncklimjbejgoaaEach
namespace Go.Proofs.Ytncklimjbejgoaa
open Go.RowKit

/-- Do two slices hold the same numbers, the first one without spare places? -/
def intsB (n m c : Nat) (F G : Nat → Int) : Bool := decide (n = m) && decide (c = n) && (List.range n).all (fun i => F i == G i)

theorem ints_any (A A2 : Option Addr) (n c m c2 : Nat) (F G : Nat → Int) (w : World) (hn : n ≤ 1000) (hm : m ≤ 1000) (hc : c ≤ 1000)
    (hs : Sees w w.heap.size A n (fun k => .int .i64 (F k))) (hs2 : Sees w w.heap.size A2 m (fun k => .int .i64 (G k))) :
    Calls Try.prog 15 #[.slice A n c, .slice A2 m c2] w (RetBool w (intsB n m c F G)) := by
  have HS := Lib.hid hs
  have HS2 := Lib.hid hs2
  clear hs hs2
  by_cases h1 : n = m
  · subst h1
    by_cases h2 : c = n
    · subst h2
      go_enter Try.func15, Try.ntmps15
      go_wp2
      go_loopw [5] (fun i wr => ∃ k : Nat, k ≤ c ∧ i = .int .i64 k ∧ (∀ j, j < k → F j = G j) ∧ Below w.heap.size w wr) (fun i _ => c - (intOf i).toNat)
      case atStart => exact ⟨0, Nat.zero_le _, rfl, fun j hj => absurd hj (by omega), Below.refl _ _⟩
      case round =>
        obtain ⟨k, hk, rfl, hall, hnx⟩ := hrel
        have HALL := Lib.hid hall
        clear hall
        by_cases hlt : k < c
        · obtain ⟨b, off, rfl, hb, hc0⟩ := HS.out k hlt
          obtain ⟨b2, off2, rfl, hb2, hd0⟩ := HS2.out k hlt
          have hc1 := (hnx.cell (p := ⟨b, off + k, none⟩) hb).trans hc0
          have hd1 := (hnx.cell (p := ⟨b2, off2 + k, none⟩) hb2).trans hd0
          clear hc0 hd0
          by_cases he : F k = G k
          · have he1 : (F k == G k) = true := by simp [he]
            have he2 : (F k != G k) = false := by simp [he]
            have HE := Lib.hid he
            clear he
            go_wp2
            go_quiet (fail)
            go_wp2
            go_roundw
            case measure => simp [intOf]; omega
            case rel =>
              exact ⟨k + 1, by omega, by go_num, fun j hj => by
                rcases Nat.lt_or_ge j k with h | h
                · exact HALL.out j h
                · rw [show j = k from by omega]; exact HE.out, Below.drewN' hnx _⟩
          · have he1 : (F k == G k) = false := by simp [he]
            have he2 : (F k != G k) = true := by simp [he]
            have hres : intsB c c c F G = false := by
              unfold intsB
              simp only [Bool.and_eq_false_iff]
              right
              rw [List.all_eq_false]
              exact ⟨k, by simpa using hlt, by simp [he]⟩
            have HR := Lib.hid hres
            clear he hres
            go_wp2
            go_quiet (fail)
            go_wp2
            go_ret
            exact ⟨by rw [HR.out]; rfl, Below.drewN' hnx _⟩
        · obtain rfl : k = c := by omega
          have hres : intsB k k k F G = true := by
            unfold intsB
            simp only [Bool.and_eq_true, decide_eq_true_eq, List.all_eq_true, List.mem_range, beq_iff_eq]
            exact ⟨⟨trivial, trivial⟩, HALL.out⟩
          have HR := Lib.hid hres
          clear hres
          go_wp2
          go_ret
          exact ⟨by rw [HR.out]; rfl, hnx⟩
    · have hres : intsB n n c F G = false := by unfold intsB; simp [h2]
      have HR := Lib.hid hres
      have h3 : (c != n) = true := by simp [h2]
      clear hres
      go_enter Try.func15, Try.ntmps15
      go_wp2
      go_ret
      exact ⟨by rw [HR.out]; rfl, Below.refl _ _⟩
  · have hres : intsB n m c F G = false := by unfold intsB; simp [h1]
    have HR := Lib.hid hres
    have h3 : (n != m) = true := by simp [h1]
    clear hres
    go_enter Try.func15, Try.ntmps15
    go_wp2
    go_ret
    exact ⟨by rw [HR.out]; rfl, Below.refl _ _⟩
end Go.Proofs.Ytncklimjbejgoaa
