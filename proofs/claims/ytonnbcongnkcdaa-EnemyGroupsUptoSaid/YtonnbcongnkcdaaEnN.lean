/- Plain: what Groups answers, and that there is one such answer. -/
import Derived.Test.YtonnbcongnkcdaaEnM
namespace Go.Proofs.Ytonnbcongnkcdaa
open Go.RowKit

theorem strict_ext {g h : List Int} (hg : g.Pairwise (fun a b => a < b)) (hh : h.Pairwise (fun a b => a < b)) (hm : ∀ y, y ∈ g ↔ y ∈ h) : g = h :=
  ((List.perm_ext_iff_of_nodup (hg.imp fun h => by omega) (hh.imp fun h => by omega)).2 hm).eq_of_pairwise (fun a b _ _ h k => by omega) hg hh
/-- G divides D into the classes of R: each ascending, in the order of their first numbers -/
def IsGroups (D : List Int) (R : Int → Int → Prop) (G : List (List Int)) : Prop :=
  (∀ g ∈ G, g.Pairwise (fun a b => a < b) ∧ g ≠ []) ∧ (∀ g ∈ G, ∀ x ∈ g, ∀ y, y ∈ g ↔ y ∈ D ∧ R x y) ∧ G.Pairwise (fun g h => g.headD 0 < h.headD 0) ∧ ∀ x ∈ D, ∃ g ∈ G, x ∈ g
theorem IsGroups.sub {D : List Int} {R : Int → Int → Prop} {G H : List (List Int)} (hG : IsGroups D R G) (hH : IsGroups D R H) {g : List Int} (hg : g ∈ G) : g ∈ H := by
  obtain ⟨a1, a2, _, _⟩ := hG
  obtain ⟨b1, b2, _, b4⟩ := hH
  obtain ⟨x, hx⟩ := List.exists_mem_of_ne_nil g (a1 g hg).2
  obtain ⟨h, hh, hxh⟩ := b4 x ((a2 g hg x hx x).1 hx).1
  have : g = h := strict_ext (a1 g hg).1 (b1 h hh).1 fun y => (a2 g hg x hx y).trans (b2 h hh x hxh y).symm
  rw [this]; exact hh
theorem IsGroups.unique {D : List Int} {R : Int → Int → Prop} {G H : List (List Int)} (hG : IsGroups D R G) (hH : IsGroups D R H) : G = H := by
  have nd : ∀ {K : List (List Int)}, K.Pairwise (fun g h => g.headD 0 < h.headD 0) → K.Nodup := fun h => h.imp fun {a b} h e => by rw [e] at h; omega
  exact ((List.perm_ext_iff_of_nodup (nd hG.2.2.1) (nd hH.2.2.1)).2 fun g => ⟨hG.sub hH, hH.sub hG⟩).eq_of_pairwise (fun a b _ _ h k => by omega) hG.2.2.1 hH.2.2.1
/-- reached along the pairs -/
inductive Rch (E : List (Int × Int)) : Int → Int → Prop
  | refl (x : Int) : Rch E x x
  | step {x y z : Int} : Rch E x y → ((y, z) ∈ E ∨ (z, y) ∈ E) → Rch E x z
theorem Rch.trans {E : List (Int × Int)} {x y z : Int} (h : Rch E x y) (k : Rch E y z) : Rch E x z := by
  induction k with
  | refl => exact h
  | step _ e ih => exact .step ih e
theorem Rch.symm {E : List (Int × Int)} {x y : Int} (h : Rch E x y) : Rch E y x := by
  induction h with
  | refl => exact .refl _
  | step _ e ih => exact (Rch.step (.refl _) e.symm).trans ih
/-- a set closed under the pairs holds all that its members reach -/
theorem Rch.closed {E : List (Int × Int)} {S : Int → Prop} (hS : ∀ y z, S y → ((y, z) ∈ E ∨ (z, y) ∈ E) → S z) {x y : Int} (hx : S x) (h : Rch E x y) : S y := by
  induction h with
  | refl => exact hx
  | step _ e ih => exact hS _ _ ih e

end Go.Proofs.Ytonnbcongnkcdaa
