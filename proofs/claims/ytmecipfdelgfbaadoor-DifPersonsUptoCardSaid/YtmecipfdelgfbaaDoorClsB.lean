/- Contract of classical.checkRows: for every slice of slices of integers. -/
import Derived.Test.YtmecipfdelgfbaaDoorClsA
namespace Go.Proofs.YtmecipfdelgfbaaDoor
open Go.RowKit

/-- the slice holds n slices of integers -/
def Rw (w : World) (a : Option Addr) (n cap : Nat) (ra : Nat → Option Addr) (rn rc : Nat → Nat) (z : Nat → Nat → Int) : Prop :=
  n ≤ cap ∧ cap ≤ maxLen ∧ (0 < n → ∃ b off, a = some ⟨b, off, none⟩ ∧ ∀ i, i < n → w.cell? ⟨b, off + i, none⟩ = some (.slice (ra i) (rn i) (rc i)) ∧ Is w (ra i) (rn i) (rc i) (z i))
theorem Rw.below {w w' : World} {a : Option Addr} {n cap : Nat} {ra : Nat → Option Addr} {rn rc : Nat → Nat} {z : Nat → Nat → Int} (h : Rw w a n cap ra rn rc z) (hb : Below w.heap.size w w') : Rw w' a n cap ra rn rc z := by
  obtain ⟨h0, h1, h2⟩ := h
  refine ⟨h0, h1, fun hn => ?_⟩
  obtain ⟨b, off, e, hc⟩ := h2 hn
  exact ⟨b, off, e, fun i hi => ⟨cell_mono (hc i hi).1 hb, (hc i hi).2.below hb⟩⟩
theorem Rw.alloc {w : World} {a : Option Addr} {n cap : Nat} {ra : Nat → Option Addr} {rn rc : Nat → Nat} {z : Nat → Nat → Int} (h : Rw w a n cap ra rn rc z) (o : Obj) : Rw (w.alloc o) a n cap ra rn rc z := h.below (bel1 w o)

def allB (f : Nat → Bool) : Nat → Bool
  | 0 => true
  | k + 1 => allB f k && f k
theorem allB_true {f : Nat → Bool} : ∀ {n : Nat}, allB f n = true ↔ ∀ i, i < n → f i = true
  | 0 => by simp [allB]
  | n + 1 => by
    simp only [allB, Bool.and_eq_true, allB_true (n := n)]
    constructor
    · rintro ⟨h1, h2⟩ i hi
      rcases Nat.lt_or_ge i n with h | h
      · exact h1 i h
      · obtain rfl : i = n := by omega
        exact h2
    · intro h; exact ⟨fun i hi => h i (by omega), h n (by omega)⟩
theorem allB_false {f : Nat → Bool} {n k : Nat} (hk : k < n) (h : f k = false) : allB f n = false := by
  rw [← Bool.not_eq_true]; intro e
  rw [allB_true.1 e k hk] at h; cases h
theorem allB_succ {f : Nat → Bool} {k : Nat} (h1 : allB f k = true) (h2 : f k = true) : allB f (k + 1) = true := by simp only [allB]; rw [h1, h2]; rfl
def f60 (rn : Nat → Nat) (i : Nat) : Bool := decide (rn i ≤ 60)
def fin_ (rn : Nat → Nat) (z : Nat → Nat → Int) (i : Nat) : Bool := inrB (z i) (rn i)
def f2 (rn : Nat → Nat) (i : Nat) : Bool := decide (2 ≤ rn i ∧ rn i = rn 0)
/-- the first rule that rows violate, 0 if none -/
def rowsC (n : Nat) (rn : Nat → Nat) (z : Nat → Nat → Int) : Int :=
  if 200 < n then 5 else if allB (f60 rn) n = false then 5 else if allB (fin_ rn z) n = false then 3 else if allB (f2 rn) n = false then 1 else if n = 0 then 20 else 0
theorem rowsC_zero {n : Nat} {rn : Nat → Nat} {z : Nat → Nat → Int} (h : rowsC n rn z = 0) : n ≤ 200 ∧ 0 < n ∧ (∀ i, i < n → rn i = rn 0) ∧ 2 ≤ rn 0 ∧ rn 0 ≤ 60 ∧ ∀ i, i < n → InR (z i) (rn 0) := by
  unfold rowsC at h
  by_cases a1 : 200 < n
  · rw [if_pos a1] at h; cases h
  rw [if_neg a1] at h
  by_cases a2 : allB (f60 rn) n = false
  · rw [if_pos a2] at h; cases h
  rw [if_neg a2] at h
  by_cases a3 : allB (fin_ rn z) n = false
  · rw [if_pos a3] at h; cases h
  rw [if_neg a3] at h
  by_cases a4 : allB (f2 rn) n = false
  · rw [if_pos a4] at h; cases h
  rw [if_neg a4] at h
  by_cases a5 : n = 0
  · rw [if_pos a5] at h; cases h
  rw [Bool.not_eq_false] at a2 a3 a4
  have b2 := allB_true.1 a2
  have b3 := allB_true.1 a3
  have b4 := allB_true.1 a4
  simp only [f60, fin_, f2, decide_eq_true_eq] at b2 b3 b4
  refine ⟨by omega, by omega, fun i hi => (b4 i hi).2, (b4 0 (by omega)).1, b2 0 (by omega), fun i hi => ?_⟩
  have := inrB_true.1 (b3 i hi)
  rwa [(b4 i hi).2] at this

end Go.Proofs.YtmecipfdelgfbaaDoor
