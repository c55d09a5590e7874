import Derived.Test.YtjobopafcgnljaaGreatFr
import Derived.Test.YtjobopafcgnljaaGreatMdB
namespace Go.Proofs.YtjobopafcgnljaaGreat
open Go.RowKit Go.ChangeShapes Go.WideShapes Go.ChangeAt Go.Deep
theorem Tryz.cellsInts : Tryz.prog.cellsOf 23 = 1 := by kernel_rfl
theorem Tryz.cellsI : Tryz.prog.cellsOf 3 = 1 := by kernel_rfl
section
variable {H : Type} {enc : TypeId × Value → H} {W : World} {fuel : Nat}
theorem trod_ints {c : Value} {x : DataW H × List MemPlace} (h : DataW.trod enc Tryz.prog W 0 (fun _ => true) true fuel 23 [c] = some x) : ∃ a n cap z, c = .slice a n cap ∧ Is W a n cap z := by
 rcases open_ints Tryz.underlying23 Tryz.underlying3 Tryz.cellsI h with ⟨hcs, _⟩ | ⟨a, len, cap, zs, hcs, _, hl, hm, hzl, _, hcell, hwf⟩
 ·simp at hcs
  exact ⟨none, 0, 0, fun _ => 0, hcs, Nat.le_refl _, Nat.zero_le _, fun h => by omega⟩
 ·simp at hcs hzl
  refine ⟨_, _, _, fun i => zs.getD i 0, hcs, hl, hm, fun hn => ?_⟩
  obtain ⟨b, off, spot⟩ := a
  have hspot : spot = none := by simpa [Addr.add] using World.cell?_spot (hcell 0 (by omega))
  subst hspot
  refine ⟨b, off, rfl, fun i hi => ?_⟩
  have h1 := hcell i (by omega)
  rw [add_none] at h1
  exact h1
theorem trod_rows {c : Value} {x : DataW H × List MemPlace} (h : DataW.trod enc Tryz.prog W 0 (fun _ => true) true fuel 40 [c] = some x) : ∃ a n cap ra rn rc z, c = .slice a n cap ∧ Rw W a n cap ra rn rc z := by
 rcases open_slice Tryz.underlying40 h with ⟨hcs, _⟩ | ⟨ad, len, cp, m, k, D, Pl, hcs, _, hl, hm, hmm, _, hx⟩
 ·simp at hcs
  exact ⟨none, 0, 0, fun _ => none, fun _ => 0, fun _ => 0, fun _ _ => 0, hcs, Nat.le_refl _, Nat.zero_le _, fun h => by omega⟩
 ·simp at hcs hmm
  subst hmm
  have key : ∀ i, i < m → ∃ y : Option Addr × Nat × Nat × (Nat → Int), W.cell? (ad.add (i * 1)) = some (.slice y.1 y.2.1 y.2.2.1) ∧ Is W y.1 y.2.1 y.2.2.1 y.2.2.2 := by
   intro i hi
   obtain ⟨cs', hc, ht⟩ := hx i hi
   rw [Tryz.cellsInts] at hc
   obtain ⟨_, hcl, hat⟩ := World.cells?_some hc
   obtain ⟨c0, rfl⟩ : ∃ c0, cs' = [c0] := by
    match cs', hcl with
    | [c0], _ => exact ⟨_, rfl⟩
   obtain ⟨a', n', cap', z', rfl, hi'⟩ := trod_ints ht
   have h0 := hat 0 (by omega)
   simp [Addr.add_zero'] at h0
   exact ⟨(a', n', cap', z'), by simpa using h0, hi'⟩
  obtain ⟨y, hy⟩ := choose_lt key
  refine ⟨_, _, _, fun i => (y i).1, fun i => (y i).2.1, fun i => (y i).2.2.1, fun i => (y i).2.2.2, hcs, hl, hm, fun hn => ?_⟩
  obtain ⟨b, off, spot⟩ := ad
  have hspot : spot = none := by simpa [Addr.add] using World.cell?_spot (hy 0 (by omega)).1
  subst hspot
  refine ⟨b, off, rfl, fun i hi => ?_⟩
  have h2 := hy i (by omega)
  rw [add_none] at h2
  simpa using h2
theorem open_ints1 {a : Option Addr} {n cap : Nat} {d : DataW H} {p : List MemPlace} (h : DataW.Trod enc Tryz.prog W 0 (fun _ => true) true 23 (.slice a n cap) d p) : ∃ z, Is W a n cap z := by
 obtain ⟨fuel, hf⟩ := h
 have hf2 : DataW.trod enc Tryz.prog W 0 (fun _ => true) true fuel 23 [.slice a n cap] = some (d, p) := by simpa [Value.cells] using hf
 obtain ⟨a', n', cap', z, e, hz⟩ := trod_ints hf2
 simp only [Value.slice.injEq] at e
 obtain ⟨rfl, rfl, rfl⟩ := e
 exact ⟨z, hz⟩
theorem Tryz.cellsModl : Tryz.prog.cellsOf 42 = 1 := by kernel_rfl
theorem Tryz.cellsRowsM : Tryz.prog.cellsOf 40 = 1 := by kernel_rfl
theorem trod_model {cs : List Value} {x : DataW H × List MemPlace} (hl : cs.length = 1) (h : DataW.trod enc Tryz.prog W 0 (fun _ => true) true fuel 42 cs = some x) : ∃ a n cap ra rn rc z, cs = [.slice a n cap] ∧ Rw W a n cap ra rn rc z := by
 obtain ⟨c0, rfl⟩ : ∃ c0, cs = [c0] := by
  match cs, hl with
  | [c0], _ => exact ⟨_, rfl⟩
 obtain ⟨xs, n, _, rfl, _, hlen, hf⟩ := DataW.trod_struct Tryz.underlying42 h
 match xs, hlen with
 | [y0], _ =>
  have g0 := hf 0 _ rfl
  simp [Tryz.cellsRowsM] at g0
  obtain ⟨a, n, cap, ra, rn, rc, z, e, hr⟩ := trod_rows g0
  exact ⟨a, n, cap, ra, rn, rc, z, by rw [e], hr⟩
theorem open_models {a : Option Addr} {n cap : Nat} {d : DataW H} {p : List MemPlace} (h : DataW.Trod enc Tryz.prog W 0 (fun _ => true) true 22 (.slice a n cap) d p) : ∃ D, Ms W a n cap D := by
 obtain ⟨fuel, hf⟩ := h
 have hf2 : DataW.trod enc Tryz.prog W 0 (fun _ => true) true fuel 22 [.slice a n cap] = some (d, p) := by simpa [Value.cells] using hf
 rcases open_slice Tryz.underlying22 hf2 with ⟨hcs, _⟩ | ⟨ad, len, cp, m, k, D, Pl, hcs, _, hl, hm, hmm, _, hx⟩
 ·simp at hcs
  obtain ⟨rfl, rfl, rfl⟩ := hcs
  exact ⟨⟨fun _ => 0, fun _ => none, fun _ => 0, fun _ _ => none, fun _ _ => 0, fun _ _ => 0, fun _ _ _ => 0⟩, Nat.le_refl _, Nat.zero_le _, fun h => by omega⟩
 ·simp at hcs hmm
  obtain ⟨rfl, rfl, rfl⟩ := hcs
  subst hmm
  have key : ∀ i, i < m → ∃ y : (Option Addr × Nat × Nat) × (Nat → Option Addr) × (Nat → Nat) × (Nat → Nat) × (Nat → Nat → Int), W.cell? (ad.add (i * 1)) = some (.slice y.1.1 y.1.2.1 y.1.2.2) ∧ Rw W y.1.1 y.1.2.1 y.1.2.2 y.2.1 y.2.2.1 y.2.2.2.1 y.2.2.2.2 := by
   intro i hi
   obtain ⟨cs', hc, ht⟩ := hx i hi
   rw [Tryz.cellsModl] at hc
   obtain ⟨_, hcl, hat⟩ := World.cells?_some hc
   obtain ⟨a', n', cap', ra, rn, rc, z, rfl, hr⟩ := trod_model hcl ht
   have h0 := hat 0 (by omega)
   simp [Addr.add_zero'] at h0
   exact ⟨((a', n', cap'), ra, rn, rc, z), by simpa using h0, hr⟩
  obtain ⟨y, hy⟩ := choose_lt key
  refine ⟨⟨fun i => (y i).1.2.1, fun i => (y i).1.1, fun i => (y i).1.2.2, fun i => (y i).2.1, fun i => (y i).2.2.1, fun i => (y i).2.2.2.1, fun i => (y i).2.2.2.2⟩, hl, hm, fun hn => ?_⟩
  obtain ⟨b, off, spot⟩ := ad
  have hspot : spot = none := by simpa [Addr.add] using World.cell?_spot (hy 0 (by omega)).1
  subst hspot
  refine ⟨b, off, rfl, fun i hi => ?_⟩
  have h2 := hy i (by omega)
  rw [add_none] at h2
  simpa using h2
end
end Go.Proofs.YtjobopafcgnljaaGreat
