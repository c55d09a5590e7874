/- Contracts of combin.Choose, exact.moments, exact.Hyper. Contracts of exact.Hyper. Short lists of natural numbers that a literal makes; the numbers of trials. No condition. Contracts of exact.Trials. -/
import Derived.Test.YtjobopafcgnljaaJoB
namespace Go.Proofs.Ytjobopafcgnljaa
open Go.RowKit

def mo1 (m : Nat → Nat) (i : Nat) : Nat := m i * i
def mo2 (m : Nat → Nat) (i : Nat) : Nat := m i * i * i

end Go.Proofs.Ytjobopafcgnljaa

namespace Go.Proofs.Ytjobopafcgnljaa
open Go.RowKit

/-- it returns a new list of rational numbers in normal form, and OK -/
def DistPost (N : Nat) (w : World) (n : Nat) (q : Nat → Rat) (e : Ending) (w' : World) : Prop :=
  ∃ b, e = .returned (.tuple #[.slice (some ⟨b, 0, none⟩) n n, .int .i64 0]) ∧ w.heap.size ≤ b ∧ b < w'.heap.size ∧ Rl N w' b n n q ∧ Below w.heap.size w w'
/-- it returns no list, and an error -/
def ErrPost (w : World) (c : Int) (e : Ending) (w' : World) : Prop :=
  e = .returned (.tuple #[.slice none 0 0, .int .i64 c]) ∧ Below w.heap.size w w'

/-- the numbers up to k -/
def hypS (t m d k i : Nat) : Nat := if i < k then hyp t m d i else 0
theorem hypS_new (t m d k : Nat) : hypS t m d (k + 1) k = chs m k * chs (t - m) (d - k) := by unfold hypS hyp; rw [if_pos (by omega)]
theorem hypS_old (t m d k i : Nat) (h : i ≠ k) : hypS t m d k i = hypS t m d (k + 1) i := by
  unfold hypS
  by_cases h1 : i < k
  · rw [if_pos h1, if_pos (by omega)]
  · rw [if_neg h1, if_neg (by omega)]
theorem hypS_end (t m d k i : Nat) (h : i < k) : hypS t m d k i = hyp t m d i := by unfold hypS; rw [if_pos h]

end Go.Proofs.Ytjobopafcgnljaa

namespace Go.Proofs.Ytjobopafcgnljaa
open Go.RowKit

theorem all_succ {P : Nat → Prop} {k : Nat} (h : ∀ j, j < k → P j) (hk : P k) : ∀ j, j < k + 1 → P j := by
  intro j hj
  rcases Nat.lt_or_ge j k with h1 | h1
  · exact h j h1
  · obtain rfl : j = k := by omega
    exact hk
theorem Nl.mono {N : Nat} {w : World} {b n L L' : Nat} {m : Nat → Nat} (h : Nl N w b n m L) (hL : L ≤ L') : Nl N w b n m L' :=
  ⟨h.1, fun i hi => by obtain ⟨ra, rn, rc, h3, h4, h5⟩ := h.2 i hi; exact ⟨ra, rn, rc, h3, h4, by omega⟩⟩
def twoN (x y i : Nat) : Nat := if i = 0 then x else y
theorem Nl.one {N : Nat} {w : World} {r : Option Addr} {l c x L : Nat} (h : Nt N w r l c x) (hl : l ≤ L) : Nl N (w.alloc (.cells #[.slice r l c] 26)) w.heap.size 1 (fun _ => x) L := by
  refine ⟨Bk.new w #[.slice r l c] 26, fun i hi => ?_⟩
  obtain rfl : i = 0 := by omega
  exact ⟨r, l, c, by go_simp, h.below (bel1 w _), hl⟩
theorem Nl.two {N : Nat} {w : World} {r r2 : Option Addr} {l c x l2 c2 y L : Nat} (h : Nt N w r l c x) (h2 : Nt N w r2 l2 c2 y) (hl : l ≤ L) (hl2 : l2 ≤ L) : Nl N (w.alloc (.cells #[.slice r l c, .slice r2 l2 c2] 26)) w.heap.size 2 (twoN x y) L := by
  refine ⟨Bk.new w #[.slice r l c, .slice r2 l2 c2] 26, fun i hi => ?_⟩
  obtain rfl | rfl : i = 0 ∨ i = 1 := by omega
  · exact ⟨r, l, c, by go_simp, h.below (bel1 w _), hl⟩
  · exact ⟨r2, l2, c2, by go_simp, h2.below (bel1 w _), hl2⟩

/-- the numerators of k trials; s: of a success, f: of a failure -/
def trN (s f : Nat → Nat) : Nat → Nat → Nat
  | 0, _ => 1
  | k + 1, i => cvN (trN s f k) (twoN (f k) (s k)) 2 i (k + 1)
def nuQ (q : Nat → Rat) (i : Nat) : Nat := (q i).num.natAbs
def deQ (q : Nat → Rat) (i : Nat) : Nat := (q i).den
def faQ (q : Nat → Rat) (i : Nat) : Nat := (q i).den - (q i).num.natAbs
/-- the product of the denominators -/
def prN (d : Nat → Nat) : Nat → Nat
  | 0 => 1
  | k + 1 => prN d k * d k
theorem prN_len {d : Nat → Nat} {L : Nat} : ∀ {n : Nat}, (∀ i, i < n → nlen (d i) ≤ L) → nlen (prN d n) ≤ L * n + 1
  | 0, _ => by have := nlen_small (m := 1) (by decide); simp only [prN]; omega
  | n + 1, h => by
    have h1 := prN_len (n := n) (fun i hi => h i (by omega))
    have h2 := h n (by omega)
    have h3 := nlen_mul (prN d n) (d n)
    simp only [prN]; rw [Nat.mul_add]; omega

end Go.Proofs.Ytjobopafcgnljaa

namespace Go.Proofs.Ytjobopafcgnljaa
open Go.RowKit

end Go.Proofs.Ytjobopafcgnljaa
