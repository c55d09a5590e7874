/- The walk of law37.large and of ExposureMonotone. -/
import Derived.Test.YtmljfaplohbjcaaExpA
namespace Go.Proofs.Ytmljfaplohbjcaa
open Go.RowKit

set_option maxHeartbeats 1000000 in
theorem large_any (s : Bool) (a d : Option Addr) (na ca nd cd : Nat) (w : World) : Calls Try.prog 9 #[.agg #[.bool s, .slice a na ca, .slice d nd cd]] w fun e w' => e = .returned (.bool (decide (20 < na) || decide (20 < nd))) ∧ Below w.heap.size w w' := by
  by_cases h1 : 20 < na
  · have hd : (decide (20 < na) || decide (20 < nd)) = true := by simp [h1]
    rw [hd]
    go_enter Try.func9, Try.ntmps9
    go_wp2_with fail
    go_ret
    exact ⟨rfl, bel1 _ _⟩
  · have hd : (decide (20 < na) || decide (20 < nd)) = decide (20 < nd) := by simp [h1]
    rw [hd]
    go_enter Try.func9, Try.ntmps9
    go_wp2_with fail
    go_ret
    have h2 : ¬ ((20 : Int) < (na : Int)) := by omega
    have h3 : ((20 : Int) < (nd : Int)) ↔ 20 < nd := by omega
    exact ⟨by simp [h2, h3], bel1 _ _⟩

theorem lim_id (n : Int) (h0 : 0 ≤ n) (h1 : n ≤ 1000000) : lim n = n := by unfold lim; omega
theorem elig_one (count : Int) (h0 : 0 ≤ count) (h1 : count ≤ 9999) (p : Rat) (hp : ((1 : Int) : Rat) = p) : elig count count p 0 = true := by
  unfold elig
  rw [lim_id count h0 (by omega), lim_id 0 (by omega) (by omega), ← hp]
  apply decide_eq_true
  have : ((1 : Int) : Rat) * ((count + 1 + 0 : Int) : Rat) = ((count + 1 : Int) : Rat) := by rw [← Rat.intCast_mul]; congr 1; omega
  rw [this]; exact Rat.le_refl
theorem elig_two (count : Int) (h0 : 0 ≤ count) (h1 : count ≤ 9999) (p : Rat) (hp : ((1 : Int) : Rat) = p) : elig (count + 1) count p 0 = false := by
  unfold elig
  rw [lim_id count h0 (by omega), lim_id (count + 1) (by omega) (by omega), lim_id 0 (by omega) (by omega), ← hp]
  apply decide_eq_false
  have : ((1 : Int) : Rat) * ((count + 1 + 0 : Int) : Rat) = ((count + 1 : Int) : Rat) := by rw [← Rat.intCast_mul]; congr 1; omega
  rw [this, Rat.intCast_le_intCast]; omega
theorem elig_mono (count served slack less more : Int) (q : Rat) (hq : 0 ≤ q) (c0 : 0 ≤ count) (c1 : 0 ≤ served) (c2 : 0 ≤ slack) (c3 : count ≤ 9999) (c4 : served ≤ 9999) (c5 : slack ≤ 9999) (c6 : 0 ≤ less) (c7 : 0 ≤ more) (c9 : more ≤ 9999) (h : elig count served q slack = true) :
    elig (count - less) served q slack = true ∧ elig count (served + more) q slack = true ∧ elig count served q (slack + more) = true := by
  unfold elig at *
  have h := of_decide_eq_true h
  have up : ∀ x y : Int, x ≤ y → q * ((x : Int) : Rat) ≤ q * ((y : Int) : Rat) := fun x y hxy => Rat.mul_le_mul_of_nonneg_left (Rat.intCast_le_intCast.2 hxy) hq
  refine ⟨decide_eq_true (Rat.le_trans (Rat.intCast_le_intCast.2 ?_) h), decide_eq_true (Rat.le_trans h (up _ _ ?_)), decide_eq_true (Rat.le_trans h (up _ _ ?_))⟩ <;> unfold lim <;> omega

end Go.Proofs.Ytmljfaplohbjcaa
