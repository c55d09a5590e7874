/- Arguments that came in, opened: pools of items, uses with the range of their numbers, truth values. No condition. -/
import Derived.Test.YtmljfaplohbjcaaFrU
import Derived.Test.YtmljfaplohbjcaaMpF
namespace Go.Proofs.Ytmljfaplohbjcaa
open Go.RowKit Go.ChangeShapes Go.WideShapes Go.ChangeAt Go.Deep

theorem Try.cellsPool : Try.prog.cellsOf 61 = 9 := by kernel_rfl
theorem Try.cellsStr : Try.prog.cellsOf 9 = 1 := by kernel_rfl
theorem Try.cellsMod : Try.prog.cellsOf 59 = 1 := by kernel_rfl
theorem Try.cellsRows : Try.prog.cellsOf 57 = 1 := by kernel_rfl

section
variable {H : Type} {enc : TypeId × Value → H} {W : World} {fuel : Nat}
theorem trod_use64 {cs : List Value} {x : DataW H × List MemPlace} (hl : cs.length = 2) (h : DataW.trod enc Try.prog W 0 (fun _ => true) true fuel 28 cs = some x) : ∃ u v : Int, cs = [.int .i64 u, .int .i64 v] ∧ W64 u := by
  obtain ⟨c0, c1, rfl⟩ : ∃ c0 c1, cs = [c0, c1] := by
    match cs, hl with
    | [c0, c1], _ => exact ⟨_, _, rfl⟩
  obtain ⟨y0, y1, k, _, _, g0, g1⟩ := trod_struct2 Try.underlying28 h
  simp [Try.cellsInt64] at g0 g1
  obtain ⟨u, hu, _, hw⟩ := DataW.trod_int Try.underlying3 g0
  obtain ⟨v, hv, _, _⟩ := DataW.trod_int Try.underlying3 g1
  simp at hu hv
  exact ⟨u, v, by rw [hu, hv], W64.of hw⟩
theorem open_uses64 {a : Option Addr} {n cap : Nat} {d : DataW H} {p : List MemPlace} (h : DataW.Trod enc Try.prog W 0 (fun _ => true) true 22 (.slice a n cap) d p) : ∃ it ct, Us W a n cap it ct ∧ ∀ i, i < n → W64 (it i) := by
  obtain ⟨fuel, hf⟩ := h
  have hf2 : DataW.trod enc Try.prog W 0 (fun _ => true) true fuel 22 [.slice a n cap] = some (d, p) := by simpa [Value.cells] using hf
  rcases open_slice Try.underlying22 hf2 with ⟨hcs, _⟩ | ⟨ad, len, cp, m, k, D, Pl, hcs, _, hl, hm, hmm, _, hx⟩
  · simp at hcs
    obtain ⟨rfl, rfl, rfl⟩ := hcs
    exact ⟨fun _ => 0, fun _ => 0, ⟨Nat.le_refl _, Nat.zero_le _, fun h => by omega⟩, fun i h => by omega⟩
  · simp at hcs hmm
    obtain ⟨rfl, rfl, rfl⟩ := hcs
    subst hmm
    have key : ∀ i, i < m → ∃ z : Int × Int, W.cell? (ad.add (i * 2)) = some (.int .i64 z.1) ∧ W.cell? ((ad.add (i * 2)).add 1) = some (.int .i64 z.2) ∧ W64 z.1 := by
      intro i hi
      obtain ⟨cs', hc, ht⟩ := hx i hi
      rw [Try.cellsUse] at hc
      obtain ⟨_, hcl, hat⟩ := World.cells?_some hc
      obtain ⟨u, v, rfl, hw⟩ := trod_use64 hcl ht
      have h0 := hat 0 (by omega)
      have h1 := hat 1 (by omega)
      simp [Addr.add_zero'] at h0 h1
      exact ⟨(u, v), h0, h1, hw⟩
    obtain ⟨z, hz⟩ := choose_lt key
    refine ⟨fun i => (z i).1, fun i => (z i).2, ⟨hl, hm, fun hn => ?_⟩, fun i hi => (hz i (by omega)).2.2⟩
    obtain ⟨b, off, spot⟩ := ad
    have hspot : spot = none := by simpa [Addr.add] using World.cell?_spot (hz 0 (by omega)).1
    subst hspot
    refine ⟨b, off, rfl, fun i hi => ?_⟩
    have h2 := hz i (by omega)
    rw [add_none, add_none] at h2
    exact ⟨h2.1, h2.2.1⟩
theorem trod_item {cs : List Value} {x : DataW H × List MemPlace} (hl : cs.length = 9) (h : DataW.trod enc Try.prog W 0 (fun _ => true) true fuel 61 cs = some x) :
    ∃ (u : Int) (s1 : ByteArray) (u2 u3 u4 u5 u6 u7 : Int) (r8 : Option Addr) (n8 c8 : Nat), cs = [.int .i64 u, .string s1, .int .i64 u2, .int .i64 u3, .int .i64 u4, .int .i64 u5, .int .i64 u6, .int .i64 u7, .slice r8 n8 c8] ∧ W64 u ∧ W64 u2 := by
  obtain ⟨c0, c1, c2, c3, c4, c5, c6, c7, c8, rfl⟩ : ∃ c0 c1 c2 c3 c4 c5 c6 c7 c8, cs = [c0, c1, c2, c3, c4, c5, c6, c7, c8] := by
    match cs, hl with
    | [c0, c1, c2, c3, c4, c5, c6, c7, c8], _ => exact ⟨_, _, _, _, _, _, _, _, _, rfl⟩
  obtain ⟨xs, n, _, rfl, _, hlen, hf⟩ := DataW.trod_struct Try.underlying61 h
  match xs, hlen with
  | [y0, y1, y2, y3, y4, y5, y6, y7, y8], _ =>
    have g0 := hf 0 _ rfl
    have g1 := hf 1 _ rfl
    have g2 := hf 2 _ rfl
    have g3 := hf 3 _ rfl
    have g4 := hf 4 _ rfl
    have g5 := hf 5 _ rfl
    have g6 := hf 6 _ rfl
    have g7 := hf 7 _ rfl
    have g8 := hf 8 _ rfl
    simp [Try.cellsInt64, Try.cellsStr, Try.cellsMod] at g0 g1 g2 g3 g4 g5 g6 g7 g8
    obtain ⟨u, e0, _, hw⟩ := DataW.trod_int Try.underlying3 g0
    obtain ⟨s1, e1, _, _⟩ := DataW.trod_string Try.underlying9 g1
    obtain ⟨u2, e2, _, hw2⟩ := DataW.trod_int Try.underlying3 g2
    obtain ⟨u3, e3, _, _⟩ := DataW.trod_int Try.underlying3 g3
    obtain ⟨u4, e4, _, _⟩ := DataW.trod_int Try.underlying3 g4
    obtain ⟨u5, e5, _, _⟩ := DataW.trod_int Try.underlying3 g5
    obtain ⟨u6, e6, _, _⟩ := DataW.trod_int Try.underlying3 g6
    obtain ⟨u7, e7, _, _⟩ := DataW.trod_int Try.underlying3 g7
    obtain ⟨z0, k, _, _, g9⟩ := trod_struct1 Try.underlying59 g8
    simp [Try.cellsRows] at g9
    simp at e0 e1 e2 e3 e4 e5 e6 e7
    subst e0; subst e1; subst e2; subst e3; subst e4; subst e5; subst e6; subst e7
    rcases DataW.trod_slice Try.underlying57 g9 with ⟨e8, _⟩ | ⟨a8, n8, k8, _, _, _, _, e8, _⟩
    · simp at e8
      subst e8
      exact ⟨u, s1, u2, u3, u4, u5, u6, u7, none, 0, 0, rfl, W64.of hw, W64.of hw2⟩
    · simp at e8
      subst e8
      exact ⟨u, s1, u2, u3, u4, u5, u6, u7, some a8, n8, k8, rfl, W64.of hw, W64.of hw2⟩
theorem open_pool {a : Option Addr} {n cap : Nat} {d : DataW H} {p : List MemPlace} (h : DataW.Trod enc Try.prog W 0 (fun _ => true) true 32 (.slice a n cap) d p) : ∃ id, Pl W a n cap id := by
  obtain ⟨fuel, hf⟩ := h
  have hf2 : DataW.trod enc Try.prog W 0 (fun _ => true) true fuel 32 [.slice a n cap] = some (d, p) := by simpa [Value.cells] using hf
  rcases open_slice Try.underlying32 hf2 with ⟨hcs, _⟩ | ⟨ad, len, cp, m, k, D, Pls, hcs, _, hl, hm, hmm, _, hx⟩
  · simp at hcs
    obtain ⟨rfl, rfl, rfl⟩ := hcs
    exact ⟨fun _ => 0, Nat.le_refl _, Nat.zero_le _, fun h => by omega⟩
  · simp at hcs hmm
    obtain ⟨rfl, rfl, rfl⟩ := hcs
    subst hmm
    have key : ∀ i, i < m → ∃ u : Int, W64 u ∧ W.cell? (ad.add (i * 9)) = some (.int .i64 u) ∧ ∃ (s1 : ByteArray) (u2 u3 u4 u5 u6 u7 : Int) (r8 : Option Addr) (n8 c8 : Nat), W.cell? ((ad.add (i * 9)).add 1) = some (.string s1) ∧ W.cell? ((ad.add (i * 9)).add 2) = some (.int .i64 u2) ∧ W.cell? ((ad.add (i * 9)).add 3) = some (.int .i64 u3) ∧ W.cell? ((ad.add (i * 9)).add 4) = some (.int .i64 u4) ∧ W.cell? ((ad.add (i * 9)).add 5) = some (.int .i64 u5) ∧ W.cell? ((ad.add (i * 9)).add 6) = some (.int .i64 u6) ∧ W.cell? ((ad.add (i * 9)).add 7) = some (.int .i64 u7) ∧ W.cell? ((ad.add (i * 9)).add 8) = some (.slice r8 n8 c8) := by
      intro i hi
      obtain ⟨cs', hc, ht⟩ := hx i hi
      rw [Try.cellsPool] at hc
      obtain ⟨_, hcl, hat⟩ := World.cells?_some hc
      obtain ⟨u, s1, u2, u3, u4, u5, u6, u7, r8, n8, c8, rfl, hw, _⟩ := trod_item hcl ht
      have h0 := hat 0 (by omega)
      have h1 := hat 1 (by omega)
      have h2 := hat 2 (by omega)
      have h3 := hat 3 (by omega)
      have h4 := hat 4 (by omega)
      have h5 := hat 5 (by omega)
      have h6 := hat 6 (by omega)
      have h7 := hat 7 (by omega)
      have h8 := hat 8 (by omega)
      simp [Addr.add_zero'] at h0 h1 h2 h3 h4 h5 h6 h7 h8
      exact ⟨u, hw, h0, s1, u2, u3, u4, u5, u6, u7, r8, n8, c8, h1, h2, h3, h4, h5, h6, h7, h8⟩
    obtain ⟨z, hz⟩ := choose_lt key
    refine ⟨z, hl, hm, fun hn => ?_⟩
    obtain ⟨b, off, spot⟩ := ad
    have hspot : spot = none := by simpa [Addr.add] using World.cell?_spot (hz 0 (by omega)).2.1
    subst hspot
    refine ⟨b, off, rfl, fun i hi => ?_⟩
    have h2 := hz i (by omega)
    simp only [add_none] at h2
    exact h2
theorem open_ints64 {a : Option Addr} {n cap : Nat} {d : DataW H} {p : List MemPlace} (h : DataW.Trod enc Try.prog W 0 (fun _ => true) true 23 (.slice a n cap) d p) : ∃ z, Zs W a n cap z ∧ ∀ i, i < n → W64 (z i) := by
  obtain ⟨fuel, hf⟩ := h
  have hf2 : DataW.trod enc Try.prog W 0 (fun _ => true) true fuel 23 [.slice a n cap] = some (d, p) := by simpa [Value.cells] using hf
  rcases open_slice Try.underlying23 hf2 with ⟨hcs, _⟩ | ⟨ad, len, cp, m, k, D, Pls, hcs, _, hl, hm, hmm, _, hx⟩
  · simp at hcs
    obtain ⟨rfl, rfl, rfl⟩ := hcs
    exact ⟨fun _ => 0, ⟨Nat.le_refl _, Nat.zero_le _, fun h => by omega⟩, fun i h => by omega⟩
  · simp at hcs hmm
    obtain ⟨rfl, rfl, rfl⟩ := hcs
    subst hmm
    have key : ∀ i, i < m → ∃ u : Int, W.cell? (ad.add i) = some (.int .i64 u) ∧ W64 u := by
      intro i hi
      obtain ⟨cs', hc, ht⟩ := hx i hi
      rw [Try.cellsInt64, Nat.mul_one] at hc
      obtain ⟨_, hcl, hat⟩ := World.cells?_some hc
      obtain ⟨u, hu, _, hw⟩ := DataW.trod_int Try.underlying3 ht
      subst hu
      have h0 := hat 0 (by omega)
      simp [Addr.add_zero'] at h0
      exact ⟨u, h0, W64.of hw⟩
    obtain ⟨z, hz⟩ := choose_lt key
    refine ⟨z, ⟨hl, hm, fun hn => ?_⟩, fun i hi => (hz i (by omega)).2⟩
    obtain ⟨b, off, spot⟩ := ad
    have hspot : spot = none := by simpa [Addr.add] using World.cell?_spot (hz 0 (by omega)).1
    subst hspot
    refine ⟨b, off, rfl, fun i hi => ?_⟩
    have h2 := (hz i (by omega)).1
    simp only [add_none] at h2
    exact h2
end
end Go.Proofs.Ytmljfaplohbjcaa
