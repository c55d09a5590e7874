/- Arguments that came in, opened: slices of rational numbers, with the bound on their bulk. No condition. -/
import Derived.Test.YtmecipfdelgfbaaDoorFr
import Derived.Test.YtmecipfdelgfbaaDoorJoB
namespace Go.Proofs.YtmecipfdelgfbaaDoor
open Go.RowKit Go.ChangeShapes Go.WideShapes Go.ChangeAt Go.Deep

theorem bulk_one {H : Type} (d : DataW H) : 1 ≤ Rows.uptoBulk d := by
  cases d with
  | lit l => cases l <;> simp [Rows.uptoBulk]
  | nil => simp [Rows.uptoBulk]
  | ptr d => simp [Rows.uptoBulk]
  | slice elems spare => simp [Rows.uptoBulk]
  | agg parts => simp [Rows.uptoBulk]
  | iface t d => simp [Rows.uptoBulk]
  | map entries => simp [Rows.uptoBulk]
  | held h => simp [Rows.uptoBulk]
theorem bulk_len {H : Type} : ∀ l : List (DataW H), l.length ≤ Rows.uptoBulkAll l
  | [] => by simp
  | x :: r => by
    have h1 := bulk_one x
    have h2 := bulk_len r
    simp only [Rows.uptoBulkAll, List.length_cons]; omega
theorem bulk_mem {H : Type} {d : DataW H} : ∀ {l : List (DataW H)}, d ∈ l → Rows.uptoBulk d ≤ Rows.uptoBulkAll l
  | [], h => by cases h
  | x :: r, h => by
    simp only [Rows.uptoBulkAll]
    rcases List.mem_cons.1 h with e | e
    · subst e; omega
    · have := bulk_mem e; omega
section
variable {H : Type} {enc : TypeId × Value → H} {W : World} {fuel : Nat}
theorem trod_natb {c : Value} {x : DataW H × List MemPlace} (h : DataW.trod enc Tryd.prog W 0 (fun _ => true) true fuel 24 [c] = some x) :
    ∃ a n cap m, c = .slice a n cap ∧ Nt W.heap.size W a n cap m ∧ n ≤ Rows.uptoBulk x.1 := by
  obtain ⟨a, n, cap, m, rfl, hn⟩ := trod_nat h
  refine ⟨a, n, cap, m, rfl, hn, ?_⟩
  rcases open_ints Tryd.underNat Tryd.underlying97 Tryd.cellsU32 h with ⟨hcs, _⟩ | ⟨a', len, cap', zs, hcs, _, hl, hm, hzl, hx, _, _⟩
  · simp at hcs; omega
  · simp at hcs hzl
    rw [hx]
    have h1 := bulk_len (H := H) (lits .u32 (zs.take len))
    have h2 : (lits (H := H) .u32 (zs.take len)).length = len := by simp [lits]; omega
    simp only [Rows.uptoBulk]
    omega
theorem trod_ratb {cs : List Value} {x : DataW H × List MemPlace} (hl : cs.length = 3) (h : DataW.trod enc Tryd.prog W 0 (fun _ => true) true fuel 28 cs = some x) :
    ∃ s a na ca d nd cd mn md, cs = [.bool s, .slice a na ca, .slice d nd cd] ∧ Nt W.heap.size W a na ca mn ∧ Nt W.heap.size W d nd cd md ∧ na ≤ Rows.uptoBulk x.1 ∧ nd ≤ Rows.uptoBulk x.1 := by
  obtain ⟨c0, c1, c2, rfl⟩ : ∃ c0 c1 c2, cs = [c0, c1, c2] := by
    match cs, hl with
    | [c0, c1, c2], _ => exact ⟨_, _, _, rfl⟩
  obtain ⟨y0, y1, n, rfl, _, h0, h1⟩ := trod_struct2 Tryd.underlying28 h
  simp [Tryd.cellsInt, Tryd.cellsNat] at h0 h1
  obtain ⟨z0, z1, k, rfl, _, g0, g1⟩ := trod_struct2 Tryd.underlying26 h0
  simp [Tryd.cellsNat, Tryd.cellsBool] at g0 g1
  obtain ⟨s, hs, _⟩ := DataW.trod_bool Tryd.underlying4 g0
  obtain ⟨a, na, ca, mn, rfl, hn, b1⟩ := trod_natb g1
  obtain ⟨dd, nd, cd, md, rfl, hd, b2⟩ := trod_natb h1
  simp at hs
  subst hs
  refine ⟨_, _, _, _, _, _, _, _, _, rfl, hn, hd, ?_, ?_⟩
  all_goals simp only [Rows.uptoBulk, Rows.uptoBulkAll]; omega
theorem open_rats {a : Option Addr} {n cap : Nat} {d : DataW H} {p : List MemPlace} (h : DataW.Trod enc Tryd.prog W 0 (fun _ => true) true 51 (.slice a n cap) d p) (hb : Rows.uptoBulk d ≤ 1048576) : ∃ q, Rs W.heap.size W a n cap q 2097152 := by
  obtain ⟨fuel, hf⟩ := h
  have hf2 : DataW.trod enc Tryd.prog W 0 (fun _ => true) true fuel 51 [.slice a n cap] = some (d, p) := by simpa [Value.cells] using hf
  rcases open_slice Tryd.underRats hf2 with ⟨hcs, _⟩ | ⟨ad, len, cp, m, k, D, Pl, hcs, _, hl, hm, hmm, hx0, hx⟩
  · simp at hcs
    obtain ⟨rfl, rfl, rfl⟩ := hcs
    exact ⟨fun _ => 0, Nat.le_refl _, Nat.zero_le _, fun h => by omega⟩
  · simp at hcs hmm
    obtain ⟨rfl, rfl, rfl⟩ := hcs
    subst hmm
    have hd : d = .slice ((List.range n).map D) ((List.range (m - n)).map fun j => D (n + j)) := congrArg Prod.fst hx0
    have key : ∀ i, i < n → ∃ y : Bool × Option Addr × Nat × Nat × Option Addr × Nat × Nat × Rat, W.cell? (ad.add (i * 3)) = some (.bool y.1) ∧ W.cell? ((ad.add (i * 3)).add 1) = some (.slice y.2.1 y.2.2.1 y.2.2.2.1) ∧ W.cell? ((ad.add (i * 3)).add 2) = some (.slice y.2.2.2.2.1 y.2.2.2.2.2.1 y.2.2.2.2.2.2.1) ∧ Rt W.heap.size W y.1 y.2.1 y.2.2.1 y.2.2.2.1 y.2.2.2.2.1 y.2.2.2.2.2.1 y.2.2.2.2.2.2.1 y.2.2.2.2.2.2.2 2097152 := by
      intro i hi
      obtain ⟨cs', hc, ht⟩ := hx i (by omega)
      rw [Tryd.cellsRat] at hc
      obtain ⟨_, hcl, hat⟩ := World.cells?_some hc
      obtain ⟨s, ra, rn, rc, da, dn, dc, mn, md, rfl, e1, e2, b1, b2⟩ := trod_ratb hcl ht
      have hbi : Rows.uptoBulk (D i) ≤ 1048576 := by
        rw [hd] at hb
        have h1 := bulk_mem (l := (List.range n).map D) (d := D i) (List.mem_map.2 ⟨i, List.mem_range.2 hi, rfl⟩)
        simp only [Rows.uptoBulk] at hb
        omega
      have h0 := hat 0 (by omega)
      have h1 := hat 1 (by omega)
      have h2 := hat 2 (by omega)
      simp [Addr.add_zero'] at h0 h1 h2
      exact ⟨(s, ra, rn, rc, da, dn, dc, mkRat (zI s mn) md), h0, h1, h2, by omega, (show rn ≤ 2097152 by have : rn ≤ Rows.uptoBulk (D i) := b1; omega), (show dn ≤ 2097152 by have : dn ≤ Rows.uptoBulk (D i) := b2; omega), mn, md, e1, e2, rfl⟩
    obtain ⟨y, hy⟩ := choose_lt key
    refine ⟨fun i => (y i).2.2.2.2.2.2.2, hl, hm, fun hn => ?_⟩
    obtain ⟨b, off, spot⟩ := ad
    have hspot : spot = none := by simpa [Addr.add] using World.cell?_spot (hy 0 (by omega)).1
    subst hspot
    refine ⟨b, off, rfl, fun i hi => ?_⟩
    have h2 := hy i (by omega)
    rw [add_none, add_none, add_none] at h2
    exact ⟨_, _, _, _, _, _, _, h2.1, h2.2.1, h2.2.2.1, h2.2.2.2⟩
end

end Go.Proofs.YtmecipfdelgfbaaDoor
