import Derived.Test.YtjobopafcgnljaaGreatClsA
namespace Go.Proofs.YtjobopafcgnljaaGreat
open Go.RowKit
def Rw (w : World) (a : Option Addr) (n cap : Nat) (ra : Nat → Option Addr) (rn rc : Nat → Nat) (z : Nat → Nat → Int) : Prop :=
 n ≤ cap ∧ cap ≤ maxLen ∧ (0 < n → ∃ b off, a = some ⟨b, off, none⟩ ∧ ∀ i, i < n → w.cell? ⟨b, off + i, none⟩ = some (.slice (ra i) (rn i) (rc i)) ∧ Is w (ra i) (rn i) (rc i) (z i))
theorem Rw.below {w w' : World} {a : Option Addr} {n cap : Nat} {ra : Nat → Option Addr} {rn rc : Nat → Nat} {z : Nat → Nat → Int} (h : Rw w a n cap ra rn rc z) (hb : Below w.heap.size w w') : Rw w' a n cap ra rn rc z := by
 obtain ⟨h0, h1, h2⟩ := h
 refine ⟨h0, h1, fun hn => ?_⟩
 obtain ⟨b, off, e, hc⟩ := h2 hn
 exact ⟨b, off, e, fun i hi => ⟨cell_mono (hc i hi).1 hb, (hc i hi).2.below hb⟩⟩
theorem Rw.alloc {w : World} {a : Option Addr} {n cap : Nat} {ra : Nat → Option Addr} {rn rc : Nat → Nat} {z : Nat → Nat → Int} (h : Rw w a n cap ra rn rc z) (o : Obj) : Rw (w.alloc o) a n cap ra rn rc z := h.below (bel1 w o)
def f2 (rn : Nat → Nat) (i : Nat) : Bool := decide (2 ≤ rn i ∧ rn i = rn 0)
end Go.Proofs.YtjobopafcgnljaaGreat
