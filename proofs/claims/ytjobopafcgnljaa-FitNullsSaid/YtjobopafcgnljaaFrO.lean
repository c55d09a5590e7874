import Derived.Test.YtjobopafcgnljaaFrR
import Derived.Test.YtjobopafcgnljaaFtN
namespace Go.Proofs.Ytjobopafcgnljaa
open Go.RowKit Go.ChangeShapes Go.WideShapes Go.ChangeAt Go.Deep
section
variable {H : Type} {enc : TypeId × Value → H} {W : World} {fuel : Nat}
theorem open_ru {a : Option Addr} {n cap : Nat} {d : DataW H} {p : List MemPlace} (h : DataW.Trod enc Try.prog W 0 (fun _ => true) true 23 (.slice a n cap) d p) : ∃ q ln ld, Ru W.heap.size W a n cap q ln ld := by
 obtain ⟨fuel, hf⟩ := h
 have hf2 : DataW.trod enc Try.prog W 0 (fun _ => true) true fuel 23 [.slice a n cap] = some (d, p) := by simpa [Value.cells] using hf
 rcases open_slice Try.underRats hf2 with ⟨hcs, _⟩ | ⟨ad, len, cp, m, k, D, Pl, hcs, _, hl, hm, hmm, hx0, hx⟩
 ·simp at hcs
  obtain ⟨rfl, rfl, rfl⟩ := hcs
  exact ⟨fun _ => 0, fun _ => 0, fun _ => 0, Nat.le_refl _, Nat.zero_le _, fun h => by omega⟩
 ·simp at hcs hmm
  obtain ⟨rfl, rfl, rfl⟩ := hcs
  subst hmm
  have key : ∀ i, i < n → ∃ y : Rat × Nat × Nat, ∃ s ra rc da dc mn md, W.cell? (ad.add (i * 3)) = some (.bool s) ∧ W.cell? ((ad.add (i * 3)).add 1) = some (.slice ra y.2.1 rc) ∧ W.cell? ((ad.add (i * 3)).add 2) = some (.slice da y.2.2 dc) ∧ Nt W.heap.size W ra y.2.1 rc mn ∧ Nt W.heap.size W da y.2.2 dc md ∧ mkRat (zI s mn) md = y.1 := by
   intro i hi
   obtain ⟨cs', hc, ht⟩ := hx i (by omega)
   rw [Try.cellsRat] at hc
   obtain ⟨_, hcl, hat⟩ := World.cells?_some hc
   obtain ⟨s, ra, rn, rc, da, dn, dc, mn, md, rfl, e1, e2, _, _⟩ := trod_ratb hcl ht
   have h0 := hat 0 (by omega)
   have h1 := hat 1 (by omega)
   have h2 := hat 2 (by omega)
   simp [Addr.add_zero'] at h0 h1 h2
   exact ⟨(mkRat (zI s mn) md, rn, dn), s, ra, rc, da, dc, mn, md, h0, h1, h2, e1, e2, rfl⟩
  obtain ⟨y, hy⟩ := choose_lt key
  refine ⟨fun i => (y i).1, fun i => (y i).2.1, fun i => (y i).2.2, hl, hm, fun hn => ?_⟩
  obtain ⟨b, off, spot⟩ := ad
  have hspot : spot = none := by
   obtain ⟨s, ra, rc, da, dc, mn, md, h0, _⟩ := hy 0 (by omega)
   simpa [Addr.add] using World.cell?_spot h0
  subst hspot
  refine ⟨b, off, rfl, fun i hi => ?_⟩
  have h2 := hy i (by omega)
  rw [add_none, add_none, add_none] at h2
  exact h2
end
end Go.Proofs.Ytjobopafcgnljaa
