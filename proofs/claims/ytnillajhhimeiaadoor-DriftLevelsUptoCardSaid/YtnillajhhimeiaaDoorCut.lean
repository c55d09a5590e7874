/- A rational number in a value or in a box of its own: what a region that draws its order leaves behind. -/
import Derived.Test.YtnillajhhimeiaaDoorRatF
namespace Go.Proofs.YtnillajhhimeiaaDoor
open Go.RowKit

/-- u is the rational number q in normal form -/
def IsRat (N : Nat) (q : Rat) (u : Value) (w : World) : Prop :=
  ∃ r c r2 c2, u = .agg #[.bool (decide (q.num < 0)), .slice r (nlen q.num.natAbs) c, .slice r2 (nlen q.den) c2] ∧ Nt N w r (nlen q.num.natAbs) c q.num.natAbs ∧ Nt N w r2 (nlen q.den) c2 q.den
theorem IsRat.below {N : Nat} {q : Rat} {u : Value} {w w' : World} (h : IsRat N q u w) (hb : Below w.heap.size w w') : IsRat N q u w' := by
  obtain ⟨r, c, r2, c2, e, h1, h2⟩ := h; exact ⟨r, c, r2, c2, e, h1.below hb, h2.below hb⟩
theorem set3_cells {w : World} {g : Nat} {a0 a1 a2 v0 v1 v2 : Value} (h0 : w.cell? ⟨g, 0, none⟩ = some a0) (h1 : w.cell? ⟨g, 1, none⟩ = some a1) (h2 : w.cell? ⟨g, 2, none⟩ = some a2) :
    (((w.setCell ⟨g, 0, none⟩ v0).setCell ⟨g, 1, none⟩ v1).setCell ⟨g, 2, none⟩ v2).cell? ⟨g, 0, none⟩ = some v0 ∧
    (((w.setCell ⟨g, 0, none⟩ v0).setCell ⟨g, 1, none⟩ v1).setCell ⟨g, 2, none⟩ v2).cell? ⟨g, 1, none⟩ = some v1 ∧
    (((w.setCell ⟨g, 0, none⟩ v0).setCell ⟨g, 1, none⟩ v1).setCell ⟨g, 2, none⟩ v2).cell? ⟨g, 2, none⟩ = some v2 :=
  ⟨(World.cell?_setCell_other _ _ _ _ (by simp)).trans (set2_cells h0 h1).1, (World.cell?_setCell_other _ _ _ _ (by simp)).trans (set2_cells h0 h1).2,
   World.cell?_setCell_same _ _ _ ((World.cell?_setCell_other _ _ _ _ (by simp)).trans ((World.cell?_setCell_other _ _ _ _ (by simp)).trans h2))⟩
/-- the region has begun at W, and nothing of W has changed -/
def Since (W w : World) : Prop := Below W.heap.size W w ∧ W.heap.size ≤ w.heap.size
theorem Since.below {W w w' : World} (h : Since W w) (hb : Below w.heap.size w w') : Since W w' := ⟨h.1.trans (hb.mono h.2), Nat.le_trans h.2 hb.size⟩
theorem Since.drawn (W : World) : Since W W.drew := ⟨(Below.refl _ _).drew, Nat.le_refl _⟩
/-- s points to a box of its own that holds q in normal form -/
def CutRat (N : Nat) (W : World) (q : Rat) (s : Value) (w : World) : Prop :=
  ∃ g r c r2 c2, s = .pointer (some ⟨g, 0, none⟩) ∧ W.heap.size ≤ g ∧ Bk w g 30 3 ∧ w.cell? ⟨g, 0, none⟩ = some (.bool (decide (q.num < 0))) ∧ w.cell? ⟨g, 1, none⟩ = some (.slice r (nlen q.num.natAbs) c) ∧ w.cell? ⟨g, 2, none⟩ = some (.slice r2 (nlen q.den) c2) ∧
    Nt N w r (nlen q.num.natAbs) c q.num.natAbs ∧ Nt N w r2 (nlen q.den) c2 q.den ∧ Since W w
theorem cutRat_of {N g : Nat} {W w : World} {q : Rat} {r r2 : Option Addr} {c c2 : Nat} (hN : N ≤ W.heap.size) (hg : W.heap.size ≤ g) (hk : Bk w g 30 3) (h1 : Nt N w r (nlen q.num.natAbs) c q.num.natAbs) (h2 : Nt N w r2 (nlen q.den) c2 q.den) (hb : Since W w) :
    CutRat N W q (.pointer (some ⟨g, 0, none⟩)) (((w.setCell ⟨g, 0, none⟩ (.bool (decide (q.num < 0)))).setCell ⟨g, 1, none⟩ (.slice r (nlen q.num.natAbs) c)).setCell ⟨g, 2, none⟩ (.slice r2 (nlen q.den) c2)) := by
  obtain ⟨v0, k0⟩ := hk.cell (o := 0) (by omega)
  obtain ⟨v1, k1⟩ := hk.cell (o := 1) (by omega)
  obtain ⟨v2, k2⟩ := hk.cell (o := 2) (by omega)
  have hs := set3_cells (v0 := .bool (decide (q.num < 0))) (v1 := .slice r (nlen q.num.natAbs) c) (v2 := .slice r2 (nlen q.den) c2) k0 k1 k2
  have hf := fin3 hN hg hk.bx h1 h2 hb.1 (.bool (decide (q.num < 0))) (.slice r (nlen q.num.natAbs) c) (.slice r2 (nlen q.den) c2)
  exact ⟨g, r, c, r2, c2, rfl, hg, ((hk.set _ _).set _ _).set _ _, hs.1, hs.2.1, hs.2.2, hf.1, hf.2.1, hf.2.2, by simpa [World.setCell] using hb.2⟩

end Go.Proofs.YtnillajhhimeiaaDoor
