/- Arguments that came in, opened: slices of tables of four counts (for chapter 30). No condition. -/
import Derived.Test.YtmecipfdelgfbaaDoorFrD
import Derived.Test.YtmecipfdelgfbaaDoorDfB
namespace Go.Proofs.YtmecipfdelgfbaaDoor
open Go.RowKit Go.ChangeShapes Go.WideShapes Go.ChangeAt Go.Deep

section
variable {H : Type} {enc : TypeId × Value → H} {W : World} {fuel : Nat}
theorem open_tables {a : Option Addr} {n cap : Nat} {d : DataW H} {p : List MemPlace} (h : DataW.Trod enc Tryd.prog W 0 (fun _ => true) true 22 (.slice a n cap) d p) : ∃ t, Ts W a n cap t := by
  obtain ⟨fuel, hf⟩ := h
  have hf2 : DataW.trod enc Tryd.prog W 0 (fun _ => true) true fuel 22 [.slice a n cap] = some (d, p) := by simpa [Value.cells] using hf
  rcases open_slice Tryd.underlying22 hf2 with ⟨hcs, _⟩ | ⟨ad, len, cp, m, k, D, Pl, hcs, _, hl, hm, hmm, _, hx⟩
  · simp at hcs
    obtain ⟨rfl, rfl, rfl⟩ := hcs
    exact ⟨fun _ _ => 0, Nat.le_refl _, Nat.zero_le _, fun h => by omega⟩
  · simp at hcs hmm
    obtain ⟨rfl, rfl, rfl⟩ := hcs
    subst hmm
    have key : ∀ i, i < m → ∃ z : Nat → Int, W.cell? (ad.add (i * 4)) = some (.int .i64 (z 0)) ∧ W.cell? ((ad.add (i * 4)).add 1) = some (.int .i64 (z 1)) ∧ W.cell? ((ad.add (i * 4)).add 2) = some (.int .i64 (z 2)) ∧ W.cell? ((ad.add (i * 4)).add 3) = some (.int .i64 (z 3)) := by
      intro i hi
      obtain ⟨cs', hc, ht⟩ := hx i hi
      rw [Tryd.cellsTabl] at hc
      obtain ⟨_, hcl, hat⟩ := World.cells?_some hc
      obtain ⟨x, y, z, u, rfl⟩ := trod_table hcl ht
      have h0 := hat 0 (by omega)
      have h1 := hat 1 (by omega)
      have h2 := hat 2 (by omega)
      have h3 := hat 3 (by omega)
      simp [Addr.add_zero'] at h0 h1 h2 h3
      exact ⟨sel4 x y z u, h0, h1, h2, h3⟩
    obtain ⟨z, hz⟩ := choose_lt key
    refine ⟨z, hl, hm, fun hn => ?_⟩
    obtain ⟨b, off, spot⟩ := ad
    have hspot : spot = none := by simpa [Addr.add] using World.cell?_spot (hz 0 (by omega)).1
    subst hspot
    refine ⟨b, off, rfl, fun i hi => ?_⟩
    have h2 := hz i (by omega)
    rw [add_none, add_none, add_none, add_none] at h2
    exact h2
end

end Go.Proofs.YtmecipfdelgfbaaDoor
