/- Arguments that came in, opened: matrices of responses, slices of truth values. No condition. -/
import Derived.Test.YtmecipfdelgfbaaDoorFrD
import Derived.Test.YtmecipfdelgfbaaDoorDfB
import Derived.Test.YtmecipfdelgfbaaDoorMxA
namespace Go.Proofs.YtmecipfdelgfbaaDoor
open Go.RowKit Go.ChangeShapes Go.WideShapes Go.ChangeAt Go.Deep

theorem Tryd.cellsInts : Tryd.prog.cellsOf 40 = 1 := by kernel_rfl
theorem Tryd.cellsI : Tryd.prog.cellsOf 3 = 1 := by kernel_rfl
section
variable {H : Type} {enc : TypeId × Value → H} {W : World} {fuel : Nat}
theorem trod_ints {c : Value} {x : DataW H × List MemPlace} (h : DataW.trod enc Tryd.prog W 0 (fun _ => true) true fuel 40 [c] = some x) : ∃ a n cap z, c = .slice a n cap ∧ Is W a n cap z := by
  rcases open_ints Tryd.underlying40 Tryd.underlying3 Tryd.cellsI h with ⟨hcs, _⟩ | ⟨a, len, cap, zs, hcs, _, hl, hm, hzl, _, hcell, hwf⟩
  · simp at hcs
    exact ⟨none, 0, 0, fun _ => 0, hcs, Nat.le_refl _, Nat.zero_le _, fun h => by omega⟩
  · simp at hcs hzl
    refine ⟨_, _, _, fun i => zs.getD i 0, hcs, hl, hm, fun hn => ?_⟩
    obtain ⟨b, off, spot⟩ := a
    have hspot : spot = none := by simpa [Addr.add] using World.cell?_spot (hcell 0 (by omega))
    subst hspot
    refine ⟨b, off, rfl, fun i hi => ?_⟩
    have h1 := hcell i (by omega)
    rw [add_none] at h1
    exact h1
theorem trod_intsb {c : Value} {x : DataW H × List MemPlace} (h : DataW.trod enc Tryd.prog W 0 (fun _ => true) true fuel 40 [c] = some x) : ∃ a n cap z, c = .slice a n cap ∧ Is W a n cap z ∧ n ≤ Rows.uptoBulk x.1 := by
  obtain ⟨a, n, cap, z, rfl, hn⟩ := trod_ints h
  refine ⟨a, n, cap, z, rfl, hn, ?_⟩
  rcases open_ints Tryd.underlying40 Tryd.underlying3 Tryd.cellsI h with ⟨hcs, _⟩ | ⟨a', len, cap', zs, hcs, _, hl, hm, hzl, hx, _, _⟩
  · simp at hcs; omega
  · simp at hcs hzl
    rw [hx]
    have h1 := bulk_len (H := H) (lits .i64 (zs.take len))
    have h2 : (lits (H := H) .i64 (zs.take len)).length = len := by simp [lits]; omega
    simp only [Rows.uptoBulk]
    omega
theorem trod_rows {c : Value} {x : DataW H × List MemPlace} (h : DataW.trod enc Tryd.prog W 0 (fun _ => true) true fuel 41 [c] = some x) : ∃ a n cap ra rn rc z, c = .slice a n cap ∧ Rw W a n cap ra rn rc z := by
  rcases open_slice Tryd.underlying41 h with ⟨hcs, _⟩ | ⟨ad, len, cp, m, k, D, Pl, hcs, _, hl, hm, hmm, _, hx⟩
  · simp at hcs
    exact ⟨none, 0, 0, fun _ => none, fun _ => 0, fun _ => 0, fun _ _ => 0, hcs, Nat.le_refl _, Nat.zero_le _, fun h => by omega⟩
  · simp at hcs hmm
    subst hmm
    have key : ∀ i, i < m → ∃ y : Option Addr × Nat × Nat × (Nat → Int), W.cell? (ad.add (i * 1)) = some (.slice y.1 y.2.1 y.2.2.1) ∧ Is W y.1 y.2.1 y.2.2.1 y.2.2.2 := by
      intro i hi
      obtain ⟨cs', hc, ht⟩ := hx i hi
      rw [Tryd.cellsInts] at hc
      obtain ⟨_, hcl, hat⟩ := World.cells?_some hc
      obtain ⟨c0, rfl⟩ : ∃ c0, cs' = [c0] := by
        match cs', hcl with
        | [c0], _ => exact ⟨_, rfl⟩
      obtain ⟨a', n', cap', z', rfl, hi'⟩ := trod_ints ht
      have h0 := hat 0 (by omega)
      simp [Addr.add_zero'] at h0
      exact ⟨(a', n', cap', z'), by simpa using h0, hi'⟩
    obtain ⟨y, hy⟩ := choose_lt key
    refine ⟨_, _, _, fun i => (y i).1, fun i => (y i).2.1, fun i => (y i).2.2.1, fun i => (y i).2.2.2, hcs, hl, hm, fun hn => ?_⟩
    obtain ⟨b, off, spot⟩ := ad
    have hspot : spot = none := by simpa [Addr.add] using World.cell?_spot (hy 0 (by omega)).1
    subst hspot
    refine ⟨b, off, rfl, fun i hi => ?_⟩
    have h2 := hy i (by omega)
    rw [add_none] at h2
    simpa using h2
theorem open_ints1 {a : Option Addr} {n cap : Nat} {d : DataW H} {p : List MemPlace} (h : DataW.Trod enc Tryd.prog W 0 (fun _ => true) true 40 (.slice a n cap) d p) : ∃ z, Is W a n cap z := by
  obtain ⟨fuel, hf⟩ := h
  have hf2 : DataW.trod enc Tryd.prog W 0 (fun _ => true) true fuel 40 [.slice a n cap] = some (d, p) := by simpa [Value.cells] using hf
  obtain ⟨a', n', cap', z, e, hz⟩ := trod_ints hf2
  simp only [Value.slice.injEq] at e
  obtain ⟨rfl, rfl, rfl⟩ := e
  exact ⟨z, hz⟩
theorem Tryd.cellsRowsM : Tryd.prog.cellsOf 41 = 1 := by kernel_rfl
theorem Tryd.cellsMat : Tryd.prog.cellsOf 43 = 3 := by kernel_rfl
theorem Tryd.cellsBl : Tryd.prog.cellsOf 4 = 1 := by kernel_rfl
/-- a matrix that came in -/
def MatIn (W : World) (v : Value) : Prop := ∃ (pa ia ca : Option Addr) (P pc I ic R cc : Nat) (zp zi : Nat → Int) (ra : Nat → Option Addr) (rn rc : Nat → Nat) (z : Nat → Nat → Int), v = .agg #[.slice pa P pc, .slice ia I ic, .slice ca R cc] ∧ Is W pa P pc zp ∧ Is W ia I ic zi ∧ Rw W ca R cc ra rn rc z ∧ I ≤ 1048576
set_option maxRecDepth 100000 in
theorem open_matrix {r : Reach} {b0 : Nat} {v : Value} {d : DataW H} {p : List MemPlace} (hv : Value.okWide Tryd.prog W r b0 43 v) (h : DataW.Trod enc Tryd.prog W 0 (fun _ => true) true 43 v d p) (hb : Rows.uptoBulk d ≤ 1048576) : MatIn W v := by
  obtain ⟨cs, rfl, hsz⟩ := okWide_struct Tryd.underlying43 hv
  obtain ⟨c0, c1, c2, rfl⟩ := Joins.array3 (hsz.trans Tryd.cellsMat)
  obtain ⟨fuel, hf⟩ := h
  have hf2 : DataW.trod enc Tryd.prog W 0 (fun _ => true) true fuel 43 [c0, c1, c2] = some (d, p) := by simpa [Value.cells] using hf
  obtain ⟨xs, n, _, hxs, _, hlen, hg⟩ := DataW.trod_struct Tryd.underlying43 hf2
  match xs, hlen with
  | [y0, y1, y2], _ =>
    have g0 := hg 0 _ rfl
    have g1 := hg 1 _ rfl
    have g2 := hg 2 _ rfl
    simp [Tryd.cellsInts, Tryd.cellsRowsM] at g0 g1 g2
    obtain ⟨pa, P, pc, zp, rfl, hp⟩ := trod_ints g0
    obtain ⟨ia, I, ic, zi, rfl, hi, hbi⟩ := trod_intsb g1
    obtain ⟨ca, R, cc, ra, rn, rc, z, rfl, hc⟩ := trod_rows g2
    refine ⟨pa, ia, ca, P, pc, I, ic, R, cc, zp, zi, ra, rn, rc, z, rfl, hp, hi, hc, ?_⟩
    have hd : d = .agg ([y0, y1, y2].map (·.1)) := congrArg Prod.fst hxs
    rw [hd] at hb
    simp [Rows.uptoBulk, Rows.uptoBulkAll] at hb
    omega
theorem open_bools {a : Option Addr} {n cap : Nat} {d : DataW H} {p : List MemPlace} (h : DataW.Trod enc Tryd.prog W 0 (fun _ => true) true 44 (.slice a n cap) d p) : ∃ f, Bs W a n cap f := by
  obtain ⟨fuel, hf⟩ := h
  have hf2 : DataW.trod enc Tryd.prog W 0 (fun _ => true) true fuel 44 [.slice a n cap] = some (d, p) := by simpa [Value.cells] using hf
  rcases open_slice Tryd.underlying44 hf2 with ⟨hcs, _⟩ | ⟨ad, len, cp, m, k, D, Pl, hcs, _, hl, hm, hmm, _, hx⟩
  · simp at hcs
    obtain ⟨rfl, rfl, rfl⟩ := hcs
    exact ⟨fun _ => false, Nat.le_refl _, Nat.zero_le _, fun h => by omega⟩
  · simp at hcs hmm
    obtain ⟨rfl, rfl, rfl⟩ := hcs
    subst hmm
    have key : ∀ i, i < m → ∃ z : Bool, W.cell? (ad.add (i * 1)) = some (.bool z) := by
      intro i hi
      obtain ⟨cs', hc, ht⟩ := hx i hi
      rw [Tryd.cellsBl] at hc
      obtain ⟨_, hcl, hat⟩ := World.cells?_some hc
      obtain ⟨c0, rfl⟩ : ∃ c0, cs' = [c0] := by
        match cs', hcl with
        | [c0], _ => exact ⟨_, rfl⟩
      obtain ⟨s, hs, _⟩ := DataW.trod_bool Tryd.underlying4 ht
      simp at hs
      subst hs
      have h0 := hat 0 (by omega)
      simp [Addr.add_zero'] at h0
      exact ⟨s, by simpa using h0⟩
    obtain ⟨y, hy⟩ := choose_lt key
    refine ⟨y, hl, hm, fun hn => ?_⟩
    obtain ⟨b, off, spot⟩ := ad
    have hspot : spot = none := by simpa [Addr.add] using World.cell?_spot (hy 0 (by omega))
    subst hspot
    refine ⟨b, off, rfl, fun i hi => ?_⟩
    have h2 := hy i (by omega)
    rw [add_none] at h2
    simpa using h2
end

end Go.Proofs.YtmecipfdelgfbaaDoor
