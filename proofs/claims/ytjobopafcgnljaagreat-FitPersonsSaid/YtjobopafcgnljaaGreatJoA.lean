import Derived.WalkKit
import Derived.Test.YtjobopafcgnljaaGreatJoN2
import Derived.Test.YtjobopafcgnljaaGreatJoR1
namespace Go.Proofs.YtjobopafcgnljaaGreat
def sQ (f : Nat → Rat) : Nat → Rat
 | 0 => 0
 | n + 1 => sQ f n + f n
theorem sQ_congr {f g : Nat → Rat} : ∀ {n : Nat}, (∀ i, i < n → f i = g i) → sQ f n = sQ g n
 | 0, _ => rfl
 | n + 1, h => by simp only [sQ]; rw [sQ_congr (n := n) (fun i hi => h i (by omega)), h n (by omega)]
theorem sQ_add (f g : Nat → Rat) : ∀ n, sQ (fun i => f i + g i) n = sQ f n + sQ g n
 | 0 => by simp only [sQ]; grind
 | n + 1 => by simp only [sQ]; rw [sQ_add f g n]; grind
theorem sQ_mul (c : Rat) (f : Nat → Rat) : ∀ n, sQ (fun i => c * f i) n = c * sQ f n
 | 0 => by simp only [sQ]; grind
 | n + 1 => by simp only [sQ]; rw [sQ_mul c f n]; grind
theorem sQ_zero : ∀ n, sQ (fun _ => 0) n = 0
 | 0 => rfl
 | n + 1 => by simp only [sQ]; rw [sQ_zero n]; grind
theorem sQ_first (f : Nat → Rat) : ∀ n, sQ f (n + 1) = f 0 + sQ (fun i => f (i + 1)) n
 | 0 => by simp only [sQ]; grind
 | n + 1 => by
  have := sQ_first f n
  simp only [sQ] at this ⊢
  rw [this]; grind
theorem sQ_nonneg {f : Nat → Rat} : ∀ {n : Nat}, (∀ i, i < n → 0 ≤ f i) → 0 ≤ sQ f n
 | 0, _ => by simp only [sQ]; exact Rat.le_refl
 | n + 1, h => by
  have h1 := sQ_nonneg (n := n) (fun i hi => h i (by omega))
  have h2 := h n (by omega)
  simp only [sQ]; grind
theorem sQ_ext (f : Nat → Rat) (n : Nat) : ∀ d, (∀ i, n ≤ i → i < n + d → f i = 0) → sQ f (n + d) = sQ f n
 | 0, _ => rfl
 | d + 1, h => by
  show sQ f (n + d) + f (n + d) = _
  rw [sQ_ext f n d (fun i a b => h i a (by omega)), h (n + d) (by omega) (by omega)]; grind
theorem sQ_ext' {f : Nat → Rat} {n m : Nat} (hm : n ≤ m) (h : ∀ i, n ≤ i → i < m → f i = 0) : sQ f m = sQ f n := by
 obtain ⟨d, rfl⟩ : ∃ d, m = n + d := ⟨m - n, by omega⟩
 exact sQ_ext f n d h
theorem sQ_append (f : Nat → Rat) (n : Nat) : ∀ m, sQ f (n + m) = sQ f n + sQ (fun i => f (n + i)) m
 | 0 => by simp only [sQ]; show sQ f n = _; grind
 | m + 1 => by
  show sQ f (n + m) + f (n + m) = _
  rw [sQ_append f n m]; simp only [sQ]; grind
theorem sQ_swap (f : Nat → Nat → Rat) (n : Nat) : ∀ m, sQ (fun i => sQ (fun j => f i j) m) n = sQ (fun j => sQ (fun i => f i j) n) m
 | 0 => by simp only [sQ]; exact sQ_zero n
 | m + 1 => by simp only [sQ]; rw [sQ_add, sQ_swap f n m]
end Go.Proofs.YtjobopafcgnljaaGreat
namespace Go.Proofs.YtjobopafcgnljaaGreat
def sN (f : Nat → Nat) : Nat → Nat
 | 0 => 0
 | n + 1 => sN f n + f n
theorem natQ_add (a b : Nat) : ((a + b : Nat) : Rat) = (a : Rat) + (b : Rat) := Rat.natCast_add a b
theorem natQ_mul (a b : Nat) : ((a * b : Nat) : Rat) = (a : Rat) * (b : Rat) := Rat.natCast_mul a b
theorem sN_sQ (f : Nat → Nat) : ∀ n : Nat, ((sN f n : Nat) : Rat) = sQ (fun i => (f i : Rat)) n
 | 0 => rfl
 | n + 1 => by simp only [sN, sQ]; rw [natQ_add, sN_sQ f n]
def app (p : Nat → Rat) (n : Nat) (q : Nat → Rat) (i : Nat) : Rat := if i < n then p i else q (i - n)
end Go.Proofs.YtjobopafcgnljaaGreat
namespace Go.Proofs.YtjobopafcgnljaaGreat
open Go.RowKit
end Go.Proofs.YtjobopafcgnljaaGreat
namespace Go.Proofs.YtjobopafcgnljaaGreat
open Go.RowKit
end Go.Proofs.YtjobopafcgnljaaGreat
