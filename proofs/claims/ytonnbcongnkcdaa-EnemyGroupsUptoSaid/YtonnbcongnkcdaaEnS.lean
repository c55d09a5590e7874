/- Plain: the conflicts among ids are those among Distinct(ids), and both their items are among them. -/
import Derived.Test.YtonnbcongnkcdaaEnQ
namespace Go.Proofs.Ytonnbcongnkcdaa
open Go.RowKit

theorem inL_iff {ids : List Int} {x : Int} : inL ids x = true ↔ x ∈ ids := by unfold inL; simp
theorem inL_distR (ids : List Int) (x : Int) : inL (distR ids) x = inL ids x := by
  rw [Bool.eq_iff_iff, inL_iff, inL_iff]; exact (distR_spec ids).2 x
theorem cfl_congr {N : List (Int × Int)} {a b : List Int} (h : ∀ x, inL a x = inL b x) : cfl N a = cfl N b := by unfold cfl; simp only [h]
theorem cfl_distR (N : List (Int × Int)) (ids : List Int) : cfl N (distR ids) = cfl N ids := cfl_congr (inL_distR ids)
theorem cfl_in {N : List (Int × Int)} {ids : List Int} {y z : Int} (h : (y, z) ∈ cfl N ids) : y ∈ ids ∧ z ∈ ids := by
  unfold cfl at h
  have := (List.mem_filter.1 h).2
  simp only [Bool.and_eq_true] at this
  exact ⟨inL_iff.1 this.1, inL_iff.1 this.2⟩

end Go.Proofs.Ytonnbcongnkcdaa
