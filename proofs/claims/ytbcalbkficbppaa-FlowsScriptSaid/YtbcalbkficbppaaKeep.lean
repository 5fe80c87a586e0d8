/- What every method keeps of a flow control. -/
import Derived.Test.YtbcalbkficbppaaFlow4
namespace Go.Proofs.Ytbcalbkficbppaa
open Go.RowKit

theorem Fs.ok.congest {s : Fs} (h : s.ok) (on : Bool) : (s.congest on).ok := by
  unfold Fs.ok at h ⊢
  unfold Fs.congest
  simp only
  split <;> omega
theorem Fs.ok.outage {s : Fs} (h : s.ok) (on : Bool) : (s.outage on).ok := h
theorem Fs.ok.open_ {s : Fs} (h : s.ok) (a b : Bool) : (s.open_ a b).ok := by
  unfold Fs.ok at h ⊢
  unfold Fs.open_
  simp only
  (repeat' split) <;> omega
theorem Fs.ok.hear {s : Fs} (h : s.ok) (st : Int) (is : Bool) : (s.hear st is).ok := by
  unfold Fs.ok at h ⊢
  unfold Fs.hear
  (repeat' split) <;> (try simp only) <;> (repeat' split) <;> omega
theorem down_range {n : Int} (h : 0 ≤ n ∧ n ≤ 1048576) : 0 ≤ down n ∧ down n ≤ 1048576 := by
  unfold down
  split <;> omega
theorem Fs.ok.tick {s : Fs} (h : s.ok) : s.tick.ok := by
  unfold Fs.ok at h ⊢
  unfold Fs.tick
  have h1 := down_range h.2.2.2.2.1
  have h2 := down_range h.2.2.2.2.2
  simp only
  (repeat' split) <;> omega
theorem Fs.ok.perform {s : Fs} (h : s.ok) (a : Int) : (s.perform a).ok := by
  unfold Fs.perform
  (repeat' split) <;> first | exact h.congest _ | exact h.outage _ | exact h.open_ _ _ | exact h.tick | exact h.hear _ _
end Go.Proofs.Ytbcalbkficbppaa
