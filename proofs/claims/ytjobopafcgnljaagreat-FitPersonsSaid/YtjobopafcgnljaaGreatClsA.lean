import Derived.Test.YtjobopafcgnljaaGreatJoR1
namespace Go.Proofs.YtjobopafcgnljaaGreat
open Go.RowKit
def RatPostC (N : Nat) (w : World) (q : Rat) (c : Int) (e : Ending) (w' : World) : Prop :=
 ∃ r cr r2 cr2, e = .returned (.tuple #[.agg #[.bool (decide (q.num < 0)), .slice r (nlen q.num.natAbs) cr, .slice r2 (nlen q.den) cr2], .int .i64 c]) ∧ Nt N w' r (nlen q.num.natAbs) cr q.num.natAbs ∧ Nt N w' r2 (nlen q.den) cr2 q.den ∧ Below w.heap.size w w'
def Is (w : World) (a : Option Addr) (n cap : Nat) (z : Nat → Int) : Prop :=
 n ≤ cap ∧ cap ≤ maxLen ∧ (0 < n → ∃ b off, a = some ⟨b, off, none⟩ ∧ ∀ i, i < n → w.cell? ⟨b, off + i, none⟩ = some (.int .i64 (z i)))
theorem Is.below {w w' : World} {a : Option Addr} {n cap : Nat} {z : Nat → Int} (h : Is w a n cap z) (hb : Below w.heap.size w w') : Is w' a n cap z := by
 obtain ⟨h0, h1, h2⟩ := h
 refine ⟨h0, h1, fun hn => ?_⟩
 obtain ⟨b, off, e, hc⟩ := h2 hn
 exact ⟨b, off, e, fun i hi => cell_mono (hc i hi) hb⟩
theorem Is.alloc {w : World} {a : Option Addr} {n cap : Nat} {z : Nat → Int} (h : Is w a n cap z) (o : Obj) : Is (w.alloc o) a n cap z := h.below (bel1 w o)
def InR (z : Nat → Int) (n : Nat) : Prop := ∀ i, i < n → -1000000 ≤ z i ∧ z i ≤ 1000000
def sumZ (z : Nat → Int) : Nat → Int
 | 0 => 0
 | k + 1 => sumZ z k + z k
def InM (z : Nat → Int) (n : Nat) : Prop := ∀ i, i < n → -60000000 ≤ z i ∧ z i ≤ 60000000
theorem InR.big {z : Nat → Int} {n : Nat} (h : InR z n) : InM z n := fun i hi => by have := h i hi; omega
end Go.Proofs.YtjobopafcgnljaaGreat
