/- Arguments that came in, opened: slices of uses. No condition. -/
import Derived.Test.YtmljfaplohbjcaaFr
import Derived.Test.YtmljfaplohbjcaaExpD
namespace Go.Proofs.Ytmljfaplohbjcaa
open Go.RowKit Go.ChangeShapes Go.WideShapes Go.ChangeAt Go.Deep

theorem Try.cellsUse : Try.prog.cellsOf 28 = 2 := by kernel_rfl
theorem Try.cellsInt64 : Try.prog.cellsOf 3 = 1 := by kernel_rfl

section
variable {H : Type} {enc : TypeId × Value → H} {W : World} {fuel : Nat}
theorem trod_use {cs : List Value} {x : DataW H × List MemPlace} (hl : cs.length = 2) (h : DataW.trod enc Try.prog W 0 (fun _ => true) true fuel 28 cs = some x) : ∃ u v : Int, cs = [.int .i64 u, .int .i64 v] := by
  obtain ⟨c0, c1, rfl⟩ : ∃ c0 c1, cs = [c0, c1] := by
    match cs, hl with
    | [c0, c1], _ => exact ⟨_, _, rfl⟩
  obtain ⟨y0, y1, k, _, _, g0, g1⟩ := trod_struct2 Try.underlying28 h
  simp [Try.cellsInt64] at g0 g1
  obtain ⟨u, hu, _, _⟩ := DataW.trod_int Try.underlying3 g0
  obtain ⟨v, hv, _, _⟩ := DataW.trod_int Try.underlying3 g1
  simp at hu hv
  exact ⟨u, v, by rw [hu, hv]⟩
theorem open_uses {a : Option Addr} {n cap : Nat} {d : DataW H} {p : List MemPlace} (h : DataW.Trod enc Try.prog W 0 (fun _ => true) true 22 (.slice a n cap) d p) : ∃ it ct, Us W a n cap it ct := by
  obtain ⟨fuel, hf⟩ := h
  have hf2 : DataW.trod enc Try.prog W 0 (fun _ => true) true fuel 22 [.slice a n cap] = some (d, p) := by simpa [Value.cells] using hf
  rcases open_slice Try.underlying22 hf2 with ⟨hcs, _⟩ | ⟨ad, len, cp, m, k, D, Pl, hcs, _, hl, hm, hmm, _, hx⟩
  · simp at hcs
    obtain ⟨rfl, rfl, rfl⟩ := hcs
    exact ⟨fun _ => 0, fun _ => 0, Nat.le_refl _, Nat.zero_le _, fun h => by omega⟩
  · simp at hcs hmm
    obtain ⟨rfl, rfl, rfl⟩ := hcs
    subst hmm
    have key : ∀ i, i < m → ∃ z : Int × Int, W.cell? (ad.add (i * 2)) = some (.int .i64 z.1) ∧ W.cell? ((ad.add (i * 2)).add 1) = some (.int .i64 z.2) := by
      intro i hi
      obtain ⟨cs', hc, ht⟩ := hx i hi
      rw [Try.cellsUse] at hc
      obtain ⟨_, hcl, hat⟩ := World.cells?_some hc
      obtain ⟨u, v, rfl⟩ := trod_use hcl ht
      have h0 := hat 0 (by omega)
      have h1 := hat 1 (by omega)
      simp [Addr.add_zero'] at h0 h1
      exact ⟨(u, v), h0, h1⟩
    obtain ⟨z, hz⟩ := choose_lt key
    refine ⟨fun i => (z i).1, fun i => (z i).2, hl, hm, fun hn => ?_⟩
    obtain ⟨b, off, spot⟩ := ad
    have hspot : spot = none := by simpa [Addr.add] using World.cell?_spot (hz 0 (by omega)).1
    subst hspot
    refine ⟨b, off, rfl, fun i hi => ?_⟩
    have h2 := hz i (by omega)
    rw [add_none, add_none] at h2
    exact h2
end

end Go.Proofs.Ytmljfaplohbjcaa
