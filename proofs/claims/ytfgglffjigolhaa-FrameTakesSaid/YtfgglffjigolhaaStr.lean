/- A byte slice as a string. -/
import Derived.Test.YtfgglffjigolhaaBytes
import Derived.Laws.IdiomStrings
namespace Go.Proofs.Ytfgglffjigolhaa
open Go.RowKit

theorem conv_bs {w : World} {v : Value} {L : List UInt8} (h : Bs w v L) : (convert 30 9 v).run Try.prog w = .ok (.string ⟨L.toArray⟩) w := by
  obtain ⟨A, c, rfl, hle, hc⟩ := h
  cases L with
  | nil =>
    rw [run_convert_bytes_string w 30 9 5 A _ c Try.underlying30 Try.underlying5 Try.underlying9]
    cases A <;> simp [Conv.bytesToString, loadCells] <;> rfl
  | cons x xs =>
    obtain ⟨g, off, rfl, _⟩ := hc 0 (by simp)
    refine run_convert_bytes_back w 30 9 5 ⟨g, off, none⟩ c (x :: xs) Try.underlying30 Try.underlying5 Try.underlying9 fun j hj => ?_
    obtain ⟨g', off', he, h2⟩ := hc j hj
    obtain ⟨rfl, rfl⟩ : g = g' ∧ off = off' := by simpa using he
    rw [show (⟨g, off, none⟩ : Addr).add j = ⟨g, off + j, none⟩ from by unfold Addr.add; simp]
    exact h2
end Go.Proofs.Ytfgglffjigolhaa
