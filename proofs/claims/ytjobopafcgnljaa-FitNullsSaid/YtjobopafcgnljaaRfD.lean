import Derived.Test.YtjobopafcgnljaaRfS
namespace Go.Proofs.Ytjobopafcgnljaa
open Go.RowKit
theorem Rl.next {N : Nat} {w : World} {b n k : Nat} {q q' : Nat → Rat} (h : Rl N w b n k q) (hN : N ≤ b) (hk : k < n) (e : ∀ j, j < k → q j = q' j) (p : Rat) (hp : q' k = p) {r r2 : Option Addr} {c c2 : Nat} (h1 : Nt N w r (nlen p.num.natAbs) c p.num.natAbs) (h2 : Nt N w r2 (nlen p.den) c2 p.den) :
  Rl N (((w.setCell ⟨b, k * 3, none⟩ (.bool (decide (p.num < 0)))).setCell ⟨b, k * 3 + 1, none⟩ (.slice r (nlen p.num.natAbs) c)).setCell ⟨b, k * 3 + 2, none⟩ (.slice r2 (nlen p.den) c2)) b n (k + 1) q' := by
 subst hp
 exact Rl.step (h.congr e) hN hk h1 h2
def CutAt (N : Nat) (W : World) (g o : Nat) (q : Rat) (w : World) : Prop :=
 ∃ w1 r c r2 c2, Since W w1 ∧ Nt N w1 r (nlen q.num.natAbs) c q.num.natAbs ∧ Nt N w1 r2 (nlen q.den) c2 q.den ∧ w = ((w1.setCell ⟨g, o, none⟩ (.bool (decide (q.num < 0)))).setCell ⟨g, o + 1, none⟩ (.slice r (nlen q.num.natAbs) c)).setCell ⟨g, o + 2, none⟩ (.slice r2 (nlen q.den) c2)
end Go.Proofs.Ytjobopafcgnljaa
