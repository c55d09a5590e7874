/- slices.Sort and slices.Compact at []int, over a slice of the call's own. No condition. -/
import Derived.Test.YtonnbcongnkcdaaOwS
import Derived.Test.YtonnbcongnkcdaaRisP
import Derived.Test.YtonnbcongnkcdaaShelfB
import Derived.Orders
namespace Go.Proofs.Ytonnbcongnkcdaa
open Go Go.Sort

theorem grown_refl (w : World) (row : Option Nat) : w.grownBy w row := ⟨rfl, rfl, rfl, Nat.le_refl _, fun _ _ _ => rfl⟩
theorem sort_own {B : Nat} (v : Value) (zs : List Int) (w : World) (h : Ow B 3 w v zs) (hl : zs.length < 4611686018427387904) :
    Calls Try.prog 40 #[v] w fun e w' => e = .returned (.tuple #[]) ∧ Ow B 3 w' v (zs.mergeSort fun x y => decide (x ≤ y)) ∧ w.grownBy w' v.ownBlock := by
  rcases h.open with ⟨rfl, rfl⟩ | ⟨g, cap, rfl, hb, hg, hc, hm, _⟩
  · refine (Try.slices_Sort_int_none none 0 w).mono fun e w' he => ?_
    obtain ⟨rfl, rfl⟩ := he
    exact ⟨rfl, by rw [List.mergeSort_nil]; exact h, grown_refl _ _⟩
  · refine (Try.slices_Sort_int g 0 cap zs w (own_holds h) hg hl).mono fun e w' he => ?_
    obtain ⟨rfl, n, os, rfl⟩ := he
    refine ⟨rfl, ?_, grown_putRow _ _ _ _ _ _⟩
    have h2 := own_putRow (Value.int .i64) h (zs.mergeSort fun x y => decide (x ≤ y)).toArray (by simp) n os
    unfold Ow
    rw [List.length_mergeSort]
    simpa using h2
theorem compact_own {B : Nat} (v : Value) (zs : List Int) (w : World) (h : Ow B 3 w v zs) :
    Calls Try.prog 41 #[v] w fun e w' => ∃ v', e = .returned v' ∧ v'.ownBlock = v.ownBlock ∧ Ow B 3 w' v' (Lib.compact zs) ∧ w.grownBy w' v.ownBlock := by
  have hlen := h.len
  unfold maxLen at hlen
  rcases h.open with ⟨rfl, rfl⟩ | ⟨g, cap, rfl, hb, hg, hc, hm, _⟩
  · refine (Try.slices_Compact_int_empty none 0 w).mono fun e w' he => ?_
    obtain ⟨rfl, rfl⟩ := he
    exact ⟨_, rfl, rfl, h, grown_refl _ _⟩
  · refine (Try.slices_Compact_int g 0 cap zs w (own_holds h) (by omega) hc).mono fun e w' he => ?_
    obtain ⟨rfl, q, rfl⟩ := he
    have hle : (Lib.compact zs).length ≤ zs.length := by
      unfold Lib.compact Lib.compactUpTo
      rw [List.length_map]
      exact Nat.le_trans (List.length_filter_le _ _) (by simp)
    have h2 := own_putRow (Value.int .i64) h (Lib.compact zs ++ List.replicate (zs.length - (Lib.compact zs).length) 0).toArray (by simp; omega) q #[]
    rw [grow_empty] at h2
    refine ⟨_, rfl, rfl, ?_, ?_⟩
    · have h3 := own_cut h2 hle
      unfold Ow
      simpa using h3
    · have h4 := grown_putRow (Value.int .i64) w g (Lib.compact zs ++ List.replicate (zs.length - (Lib.compact zs).length) 0).toArray q #[]
      rw [grow_empty] at h4
      exact h4

/-- the slice v holds the numbers zs -/
def Il (w : World) (v : Value) (zs : List Int) : Prop :=
  ∃ a cap, v = .slice a zs.length cap ∧ zs.length ≤ cap ∧ cap ≤ maxLen ∧ (0 < zs.length → ∃ b off, a = some ⟨b, off, none⟩ ∧ ∀ j, j < zs.length → w.cell? ⟨b, off + j, none⟩ = some (.int .i64 (zs.getD j 0)))
theorem Ow.il {B : Nat} {E : TypeId} {w : World} {v : Value} {zs : List Int} (h : Ow B E w v zs) : Il w v zs := by
  rcases h.open with ⟨rfl, rfl⟩ | ⟨g, cap, rfl, _, _, hc, hm, hx⟩
  · exact ⟨none, 0, rfl, Nat.le_refl _, Nat.zero_le _, fun h => absurd h (by simp)⟩
  · exact ⟨_, cap, rfl, hc, hm, fun _ => ⟨g, 0, rfl, fun j hj => by rw [Nat.zero_add]; exact (hx j hj).1⟩⟩
theorem Il.below {w w' : World} {v : Value} {zs : List Int} (h : Il w v zs) (hb : Go.RowKit.Below w.heap.size w w') : Il w' v zs := by
  obtain ⟨a, cap, e, h1, h2, h3⟩ := h
  refine ⟨a, cap, e, h1, h2, fun hn => ?_⟩
  obtain ⟨b, off, e, hc⟩ := h3 hn
  exact ⟨b, off, e, fun j hj => (hb.cell (p := ⟨b, off + j, none⟩) (World.block_lt_of_cell? w _ (hc j hj))).trans (hc j hj)⟩
end Go.Proofs.Ytonnbcongnkcdaa
