import Derived.Test.YtjobopafcgnljaaGreatAl
import Derived.Test.YtjobopafcgnljaaGreatJoB
namespace Go.Proofs.YtjobopafcgnljaaGreat
open Go.RowKit
end Go.Proofs.YtjobopafcgnljaaGreat
namespace Go.Proofs.YtjobopafcgnljaaGreat
open Go.RowKit
def DistPost (N : Nat) (w : World) (n : Nat) (q : Nat → Rat) (e : Ending) (w' : World) : Prop :=
 ∃ b, e = .returned (.tuple #[.slice (some ⟨b, 0, none⟩) n n, .int .i64 0]) ∧ w.heap.size ≤ b ∧ b < w'.heap.size ∧ Rl N w' b n n q ∧ Below w.heap.size w w'
def ErrPost (w : World) (c : Int) (e : Ending) (w' : World) : Prop :=
 e = .returned (.tuple #[.slice none 0 0, .int .i64 c]) ∧ Below w.heap.size w w'
end Go.Proofs.YtjobopafcgnljaaGreat
namespace Go.Proofs.YtjobopafcgnljaaGreat
open Go.RowKit
theorem all_succ {P : Nat → Prop} {k : Nat} (h : ∀ j, j < k → P j) (hk : P k) : ∀ j, j < k + 1 → P j := by
 intro j hj
 rcases Nat.lt_or_ge j k with h1 | h1
 ·exact h j h1
 ·obtain rfl : j = k := by omega
  exact hk
theorem Nl.mono {N : Nat} {w : World} {b n L L' : Nat} {m : Nat → Nat} (h : Nl N w b n m L) (hL : L ≤ L') : Nl N w b n m L' :=
 ⟨h.1, fun i hi => by obtain ⟨ra, rn, rc, h3, h4, h5⟩ := h.2 i hi; exact ⟨ra, rn, rc, h3, h4, by omega⟩⟩
theorem Nl.one {N : Nat} {w : World} {r : Option Addr} {l c x L : Nat} (h : Nt N w r l c x) (hl : l ≤ L) : Nl N (w.alloc (.cells #[.slice r l c] 25)) w.heap.size 1 (fun _ => x) L := by
 refine ⟨Bk.new w #[.slice r l c] 25, fun i hi => ?_⟩
 obtain rfl : i = 0 := by omega
 exact ⟨r, l, c, by go_simp, h.below (bel1 w _), hl⟩
def nuQ (q : Nat → Rat) (i : Nat) : Nat := (q i).num.natAbs
def deQ (q : Nat → Rat) (i : Nat) : Nat := (q i).den
def faQ (q : Nat → Rat) (i : Nat) : Nat := (q i).den - (q i).num.natAbs
def prN (d : Nat → Nat) : Nat → Nat
 | 0 => 1
 | k + 1 => prN d k * d k
theorem prN_len {d : Nat → Nat} {L : Nat} : ∀ {n : Nat}, (∀ i, i < n → nlen (d i) ≤ L) → nlen (prN d n) ≤ L * n + 1
 | 0, _ => by have := nlen_small (m := 1) (by decide); simp only [prN]; omega
 | n + 1, h => by
  have h1 := prN_len (n := n) (fun i hi => h i (by omega))
  have h2 := h n (by omega)
  have h3 := nlen_mul (prN d n) (d n)
  simp only [prN]; rw [Nat.mul_add]; omega
end Go.Proofs.YtjobopafcgnljaaGreat
namespace Go.Proofs.YtjobopafcgnljaaGreat
open Go.RowKit
end Go.Proofs.YtjobopafcgnljaaGreat
