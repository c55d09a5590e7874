import Derived.Test.YtjobopafcgnljaaGreatAl
import Derived.Test.YtjobopafcgnljaaGreatRfS
namespace Go.Proofs.YtjobopafcgnljaaGreat
open Go.RowKit
theorem cell_three (w : World) (x y z : Value) (t : TypeId) : ∀ j u, [x, y, z][j]? = some u → (w.alloc (.cells #[x, y, z] t)).cell? ((⟨w.heap.size, 0, none⟩ : Addr).add j) = some u := by
 intro j u hj
 match j, hj with
 | 0, hj => simp at hj; subst hj; simp [Addr.add]
 | 1, hj => simp at hj; subst hj; simp [Addr.add]
 | 2, hj => simp at hj; subst hj; simp [Addr.add]
theorem Er.keep {N : Nat} {w w' : World} {q : Nat → Rat} {L i : Nat} {v0 v1 v2 : Value} (h : Er N w q L i v0 v1 v2) (hb : Kp N w w') : Er N w' q L i v0 v1 v2 := by
 obtain ⟨s, a, na, ca, d, nd, cd, e0, e1, e2, h⟩ := h
 exact ⟨s, a, na, ca, d, nd, cd, e0, e1, e2, h.keep hb⟩
theorem own_kp {N B : Nat} {w w1 : World} {x : Value} {n : Nat} {xs : List Value} (hx : w.ownsRow B 29 3 x n xs) (hN : N ≤ B) (hg : w.grownBy w1 x.ownBlock) : Kp N w w1 := by
 refine ⟨hg.size, fun b hb ho => hg.block b hb fun e => ?_⟩
 have h1 := hx.lt b e.symm
 rcases hx.2 with ⟨rfl, _⟩ | ⟨g, cap, cur, rfl, hbg, hgg, _⟩
 ·simp [Value.ownBlock] at e
 ·simp [Value.ownBlock] at e
  subst e
  rcases ho with ho | ⟨c, z, ho⟩
  ·omega
  ·rw [hgg] at ho; simp at ho
def Ol (N B : Nat) (w : World) (v : Value) (j : Nat) (q : Nat → Rat) : Prop := ∃ xs, w.ownsRow B 29 3 v j xs ∧ Cl j (En N w q) xs
theorem Ol.below {N B : Nat} {w w' : World} {v : Value} {j : Nat} {q : Nat → Rat} (h : Ol N B w v j q) (hb : Below w.heap.size w w') : Ol N B w' v j q := by
 obtain ⟨xs, ho, hc⟩ := h
 refine ⟨xs, ⟨ho.1, ?_⟩, hc.imp fun i v0 v1 v2 _ e => e.below hb⟩
 rcases ho.2 with e | ⟨g, cap, cur, rfl, hbg, hgg, rest⟩
 ·exact Or.inl e
 ·exact Or.inr ⟨g, cap, cur, rfl, hbg, (hb.block g (Array.getElem?_eq_some_iff.1 hgg).1).trans hgg, rest⟩
theorem Ol.start (N B : Nat) (w : World) (q : Nat → Rat) (hB : B ≤ w.heap.size) : Ol N B (w.alloc (.cells #[] 29)) (.slice (some ⟨w.heap.size, 0, none⟩) 0 0) 0 q := ⟨[], World.ownsRow_made w #[] 0 hB (by decide) rfl, Cl.nil _⟩
end Go.Proofs.YtjobopafcgnljaaGreat
