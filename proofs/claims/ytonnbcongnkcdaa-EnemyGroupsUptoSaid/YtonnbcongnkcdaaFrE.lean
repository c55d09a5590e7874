/- Arguments that came in, opened: slices of pairs, of numbers, of truth values, of items; their lengths and their bulk. No condition. -/
import Derived.Test.YtonnbcongnkcdaaEnR
import Derived.Test.YtonnbcongnkcdaaRows
import Derived.Deep.Slices
import Derived.SizedLaws
import Derived.ChangeAt
import Derived.ProofKit
namespace Go.Proofs.Ytonnbcongnkcdaa
open Go.RowKit Go.ChangeShapes Go.WideShapes Go.ChangeAt Go.Deep

theorem Try.own : ownKnob Try.prog.godebug = none := by kernel_rfl
theorem Try.laidOut : laidOutB Try.prog = true := by kernel_rfl
theorem Try.cellsPair : Try.prog.cellsOf 47 = 2 := by kernel_rfl
theorem Try.bytesPair : Try.prog.bytesOf 47 = 16 := by kernel_rfl
theorem Try.cellsInt64 : Try.prog.cellsOf 3 = 1 := by kernel_rfl
theorem Try.cellsBl : Try.prog.cellsOf 4 = 1 := by kernel_rfl
theorem Try.cellsPool : Try.prog.cellsOf 57 = 9 := by kernel_rfl
theorem Try.cellsStr : Try.prog.cellsOf 9 = 1 := by kernel_rfl
theorem Try.cellsMod : Try.prog.cellsOf 55 = 1 := by kernel_rfl
theorem Try.cellsRows : Try.prog.cellsOf 37 = 1 := by kernel_rfl
theorem addr_none (b off i : Nat) : (⟨b, off, none⟩ : Addr).add i = ⟨b, off + i, none⟩ := by
  unfold Addr.add; split <;> simp_all
theorem bulk_len {H : Type} : ∀ l : List (DataW H), l.length ≤ Rows.uptoBulkAll l
  | [] => Nat.le_refl _
  | d :: r => by
    have h := bulk_len r
    have h1 : 1 ≤ Rows.uptoBulk d := by
      cases d with
      | lit l => cases l <;> simp [Rows.uptoBulk]
      | nil => simp [Rows.uptoBulk]
      | ptr d => simp [Rows.uptoBulk]
      | slice elems spare => simp [Rows.uptoBulk]
      | agg parts => simp [Rows.uptoBulk]
      | iface n d => simp [Rows.uptoBulk]
      | map es => simp [Rows.uptoBulk]
      | held h => simp [Rows.uptoBulk]
    simp only [List.length_cons, Rows.uptoBulkAll]
    omega
/-- the slice holds the n truth values f -/
def Bz (w : World) (a : Option Addr) (n cap : Nat) (f : Nat → Bool) : Prop :=
  n ≤ cap ∧ cap ≤ maxLen ∧ (0 < n → ∃ b off, a = some ⟨b, off, none⟩ ∧ ∀ j, j < n → w.cell? ⟨b, off + j, none⟩ = some (.bool (f j)))
theorem Bz.below {w w' : World} {a : Option Addr} {n cap : Nat} {f : Nat → Bool} (h : Bz w a n cap f) (hb : Below w.heap.size w w') : Bz w' a n cap f := by
  obtain ⟨h1, h2, h3⟩ := h
  refine ⟨h1, h2, fun hn => ?_⟩
  obtain ⟨b, off, e, hc⟩ := h3 hn
  exact ⟨b, off, e, fun j hj => cell_mono (hc j hj) hb⟩

section
variable {H : Type} {enc : TypeId × Value → H} {W : World} {fuel : Nat}
theorem trod_pair {cs : List Value} {x : DataW H × List MemPlace} (hl : cs.length = 2) (h : DataW.trod enc Try.prog W 0 (fun _ => true) true fuel 47 cs = some x) : ∃ u v : Int, cs = [.int .i64 u, .int .i64 v] ∧ W64 u ∧ W64 v := by
  obtain ⟨c0, c1, rfl⟩ : ∃ c0 c1, cs = [c0, c1] := by
    match cs, hl with
    | [c0, c1], _ => exact ⟨_, _, rfl⟩
  obtain ⟨y0, y1, k, _, _, g0, g1⟩ := trod_struct2 Try.underlying47 h
  simp [Try.cellsInt64] at g0 g1
  obtain ⟨u, hu, _, hw⟩ := DataW.trod_int Try.underlying3 g0
  obtain ⟨v, hv, _, hw2⟩ := DataW.trod_int Try.underlying3 g1
  simp at hu hv
  exact ⟨u, v, by rw [hu, hv], W64.of hw, W64.of hw2⟩
/-- the datum of a slice of n elements -/
def SlD (d : DataW H) (n : Nat) : Prop := n = 0 ∨ ∃ elems spare, d = .slice elems spare ∧ elems.length = n
theorem SlD.bulk {d : DataW H} {n : Nat} (h : SlD d n) : n ≤ Rows.uptoBulk d := by
  rcases h with rfl | ⟨el, sp, rfl, rfl⟩
  · exact Nat.zero_le _
  · have := bulk_len el
    simp only [Rows.uptoBulk]; omega
theorem SlD.reach {ts : List TypeId} {ds : List (DataW H)} (hz : (DataW.weightsEach Try.prog ts ds).all (· ≤ reachBytes) = true) {j : Nat} {t e : TypeId} {d : DataW H} {n k : Nat} (ht : ts[j]? = some t) (hd : ds[j]? = some d) (hu : Try.prog.underlying t = some (.slice e)) (hb : Try.prog.bytesOf e = k) (h : SlD d n) : n * k ≤ 140737488351232 := by
  rcases h with rfl | ⟨el, sp, rfl, rfl⟩
  · omega
  · have h1 := sized_slice hz ht hd hu
    rw [hb] at h1
    have h2 : el.length * k ≤ (el.length + sp.length) * k := Nat.mul_le_mul_right _ (Nat.le_add_right _ _)
    have h3 : reachBytes = 140737488351232 := rfl
    omega
theorem open_pairs {a : Option Addr} {n cap : Nat} {d : DataW H} {p : List MemPlace} (h : DataW.Trod enc Try.prog W 0 (fun _ => true) true 22 (.slice a n cap) d p) : ∃ L, Pr W a n cap L ∧ (∀ p ∈ L, W64 p.1 ∧ W64 p.2) ∧ SlD d n := by
  obtain ⟨fuel, hf⟩ := h
  have hf2 : DataW.trod enc Try.prog W 0 (fun _ => true) true fuel 22 [.slice a n cap] = some (d, p) := by simpa [Value.cells] using hf
  rcases open_slice Try.underlying22 hf2 with ⟨hcs, _⟩ | ⟨ad, len, cp, m, k, D, Pl, hcs, _, hl, hm, hmm, hx0, hx⟩
  · simp at hcs
    obtain ⟨rfl, rfl, rfl⟩ := hcs
    exact ⟨[], ⟨rfl, Nat.le_refl _, Nat.zero_le _, fun h => by omega⟩, by simp, .inl rfl⟩
  · simp at hcs hmm
    obtain ⟨rfl, rfl, rfl⟩ := hcs
    subst hmm
    have hsl : SlD d n := .inr ⟨_, _, congrArg Prod.fst hx0, by simp⟩
    have key : ∀ i, i < n → ∃ z : Int × Int, W.cell? (ad.add (i * 2)) = some (.int .i64 z.1) ∧ W.cell? ((ad.add (i * 2)).add 1) = some (.int .i64 z.2) ∧ W64 z.1 ∧ W64 z.2 := by
      intro i hi
      obtain ⟨cs', hc, ht⟩ := hx i (by omega)
      rw [Try.cellsPair] at hc
      obtain ⟨_, hcl, hat⟩ := World.cells?_some hc
      obtain ⟨u, v, rfl, hw⟩ := trod_pair hcl ht
      have h0 := hat 0 (by omega)
      have h1 := hat 1 (by omega)
      simp [Addr.add_zero'] at h0 h1
      exact ⟨(u, v), h0, h1, hw⟩
    obtain ⟨z, hz⟩ := choose_lt key
    refine ⟨(List.range n).map z, ⟨by simp, hl, hm, fun hn => ?_⟩, fun p hp => by obtain ⟨i, hi, rfl⟩ := List.mem_map.1 hp; exact (hz i (List.mem_range.1 hi)).2.2, hsl⟩
    obtain ⟨b, off, spot⟩ := ad
    have hspot : spot = none := by simpa [Addr.add] using World.cell?_spot (hz 0 (by omega)).1
    subst hspot
    refine ⟨b, off, rfl, fun i hi => ?_⟩
    have h2 := hz i (by omega)
    simp only [addr_none] at h2
    have e : ((List.range n).map z).getD i (0, 0) = z i := by simp [List.getD, hi]
    rw [e]
    exact ⟨h2.1, h2.2.1⟩
theorem open_ids {a : Option Addr} {n cap : Nat} {d : DataW H} {p : List MemPlace} (h : DataW.Trod enc Try.prog W 0 (fun _ => true) true 31 (.slice a n cap) d p) : ∃ zs, Zl W a n cap zs ∧ (∀ x ∈ zs, W64 x) ∧ SlD d n := by
  obtain ⟨fuel, hf⟩ := h
  have hf2 : DataW.trod enc Try.prog W 0 (fun _ => true) true fuel 31 [.slice a n cap] = some (d, p) := by simpa [Value.cells] using hf
  rcases open_slice Try.underlying31 hf2 with ⟨hcs, _⟩ | ⟨ad, len, cp, m, k, D, Pl, hcs, _, hl, hm, hmm, hx0, hx⟩
  · simp at hcs
    obtain ⟨rfl, rfl, rfl⟩ := hcs
    exact ⟨[], ⟨rfl, Nat.le_refl _, Nat.zero_le _, fun h => by omega⟩, by simp, .inl rfl⟩
  · simp at hcs hmm
    obtain ⟨rfl, rfl, rfl⟩ := hcs
    subst hmm
    have hsl : SlD d n := .inr ⟨_, _, congrArg Prod.fst hx0, by simp⟩
    have key : ∀ i, i < n → ∃ z : Int, W.cell? (ad.add (i * 1)) = some (.int .i64 z) ∧ W64 z := by
      intro i hi
      obtain ⟨cs', hc, ht⟩ := hx i (by omega)
      rw [Try.cellsInt64] at hc
      obtain ⟨_, hcl, hat⟩ := World.cells?_some hc
      obtain ⟨c0, rfl⟩ : ∃ c0, cs' = [c0] := by
        match cs', hcl with
        | [c0], _ => exact ⟨_, rfl⟩
      obtain ⟨u, hu, _, hw⟩ := DataW.trod_int Try.underlying3 ht
      simp at hu
      subst hu
      have h0 := hat 0 (by omega)
      simp [Addr.add_zero'] at h0
      exact ⟨u, by simpa using h0, W64.of hw⟩
    obtain ⟨z, hz⟩ := choose_lt key
    refine ⟨(List.range n).map z, ⟨by simp, hl, hm, fun hn => ?_⟩, fun p hp => by obtain ⟨i, hi, rfl⟩ := List.mem_map.1 hp; exact (hz i (List.mem_range.1 hi)).2, hsl⟩
    obtain ⟨b, off, spot⟩ := ad
    have hspot : spot = none := by simpa [Addr.add] using World.cell?_spot (hz 0 (by omega)).1
    subst hspot
    refine ⟨b, off, rfl, fun i hi => ?_⟩
    have h2 := hz i (by omega)
    simp only [addr_none] at h2
    have e : ((List.range n).map z).getD i 0 = z i := by simp [List.getD, hi]
    rw [e]
    simpa using h2.1
theorem open_bools1 {a : Option Addr} {n cap : Nat} {d : DataW H} {p : List MemPlace} (h : DataW.Trod enc Try.prog W 0 (fun _ => true) true 40 (.slice a n cap) d p) : ∃ f, Bz W a n cap f ∧ SlD d n := by
  obtain ⟨fuel, hf⟩ := h
  have hf2 : DataW.trod enc Try.prog W 0 (fun _ => true) true fuel 40 [.slice a n cap] = some (d, p) := by simpa [Value.cells] using hf
  rcases open_slice Try.underlying40 hf2 with ⟨hcs, _⟩ | ⟨ad, len, cp, m, k, D, Pl, hcs, _, hl, hm, hmm, hx0, hx⟩
  · simp at hcs
    obtain ⟨rfl, rfl, rfl⟩ := hcs
    exact ⟨fun _ => false, ⟨Nat.le_refl _, Nat.zero_le _, fun h => by omega⟩, .inl rfl⟩
  · simp at hcs hmm
    obtain ⟨rfl, rfl, rfl⟩ := hcs
    subst hmm
    have hsl : SlD d n := .inr ⟨_, _, congrArg Prod.fst hx0, by simp⟩
    have key : ∀ i, i < n → ∃ z : Bool, W.cell? (ad.add (i * 1)) = some (.bool z) ∧ True := by
      intro i hi
      obtain ⟨cs', hc, ht⟩ := hx i (by omega)
      rw [Try.cellsBl] at hc
      obtain ⟨_, hcl, hat⟩ := World.cells?_some hc
      obtain ⟨c0, rfl⟩ : ∃ c0, cs' = [c0] := by
        match cs', hcl with
        | [c0], _ => exact ⟨_, rfl⟩
      obtain ⟨u, hu, _⟩ := DataW.trod_bool Try.underlying4 ht
      simp at hu
      subst hu
      have h0 := hat 0 (by omega)
      simp [Addr.add_zero'] at h0
      exact ⟨u, by simpa using h0, trivial⟩
    obtain ⟨z, hz⟩ := choose_lt key
    refine ⟨z, ⟨hl, hm, fun hn => ?_⟩, hsl⟩
    obtain ⟨b, off, spot⟩ := ad
    have hspot : spot = none := by simpa [Addr.add] using World.cell?_spot (hz 0 (by omega)).1
    subst hspot
    refine ⟨b, off, rfl, fun i hi => ?_⟩
    have h2 := hz i (by omega)
    simp only [addr_none] at h2
    simpa using h2.1
theorem trod_item {cs : List Value} {x : DataW H × List MemPlace} (hl : cs.length = 9) (h : DataW.trod enc Try.prog W 0 (fun _ => true) true fuel 57 cs = some x) :
    ∃ (u : Int) (s1 : ByteArray) (u2 u3 u4 u5 u6 u7 : Int) (r8 : Option Addr) (n8 c8 : Nat), cs = [.int .i64 u, .string s1, .int .i64 u2, .int .i64 u3, .int .i64 u4, .int .i64 u5, .int .i64 u6, .int .i64 u7, .slice r8 n8 c8] ∧ W64 u ∧ W64 u2 := by
  obtain ⟨c0, c1, c2, c3, c4, c5, c6, c7, c8, rfl⟩ : ∃ c0 c1 c2 c3 c4 c5 c6 c7 c8, cs = [c0, c1, c2, c3, c4, c5, c6, c7, c8] := by
    match cs, hl with
    | [c0, c1, c2, c3, c4, c5, c6, c7, c8], _ => exact ⟨_, _, _, _, _, _, _, _, _, rfl⟩
  obtain ⟨xs, n, _, rfl, _, hlen, hf⟩ := DataW.trod_struct Try.underlying57 h
  match xs, hlen with
  | [y0, y1, y2, y3, y4, y5, y6, y7, y8], _ =>
    have g0 := hf 0 _ rfl
    have g1 := hf 1 _ rfl
    have g2 := hf 2 _ rfl
    have g3 := hf 3 _ rfl
    have g4 := hf 4 _ rfl
    have g5 := hf 5 _ rfl
    have g6 := hf 6 _ rfl
    have g7 := hf 7 _ rfl
    have g8 := hf 8 _ rfl
    simp [Try.cellsInt64, Try.cellsStr, Try.cellsMod] at g0 g1 g2 g3 g4 g5 g6 g7 g8
    obtain ⟨u, e0, _, hw⟩ := DataW.trod_int Try.underlying3 g0
    obtain ⟨s1, e1, _, _⟩ := DataW.trod_string Try.underlying9 g1
    obtain ⟨u2, e2, _, hw2⟩ := DataW.trod_int Try.underlying3 g2
    obtain ⟨u3, e3, _, _⟩ := DataW.trod_int Try.underlying3 g3
    obtain ⟨u4, e4, _, _⟩ := DataW.trod_int Try.underlying3 g4
    obtain ⟨u5, e5, _, _⟩ := DataW.trod_int Try.underlying3 g5
    obtain ⟨u6, e6, _, _⟩ := DataW.trod_int Try.underlying3 g6
    obtain ⟨u7, e7, _, _⟩ := DataW.trod_int Try.underlying3 g7
    obtain ⟨z0, k, _, _, g9⟩ := trod_struct1 Try.underlying55 g8
    simp [Try.cellsRows] at g9
    simp at e0 e1 e2 e3 e4 e5 e6 e7
    subst e0; subst e1; subst e2; subst e3; subst e4; subst e5; subst e6; subst e7
    rcases DataW.trod_slice Try.underlying37 g9 with ⟨e8, _⟩ | ⟨a8, n8, k8, _, _, _, _, e8, _⟩
    · simp at e8
      subst e8
      exact ⟨u, s1, u2, u3, u4, u5, u6, u7, none, 0, 0, rfl, W64.of hw, W64.of hw2⟩
    · simp at e8
      subst e8
      exact ⟨u, s1, u2, u3, u4, u5, u6, u7, some a8, n8, k8, rfl, W64.of hw, W64.of hw2⟩
theorem open_items {a : Option Addr} {n cap : Nat} {d : DataW H} {p : List MemPlace} (h : DataW.Trod enc Try.prog W 0 (fun _ => true) true 32 (.slice a n cap) d p) : ∃ it fm, Pi W a n cap it fm ∧ (∀ j, j < n → W64 (it j) ∧ W64 (fm j)) ∧ SlD d n := by
  obtain ⟨fuel, hf⟩ := h
  have hf2 : DataW.trod enc Try.prog W 0 (fun _ => true) true fuel 32 [.slice a n cap] = some (d, p) := by simpa [Value.cells] using hf
  rcases open_slice Try.underlying32 hf2 with ⟨hcs, _⟩ | ⟨ad, len, cp, m, k, D, Pl, hcs, _, hl, hm, hmm, hx0, hx⟩
  · simp at hcs
    obtain ⟨rfl, rfl, rfl⟩ := hcs
    exact ⟨fun _ => 0, fun _ => 0, ⟨Nat.le_refl _, Nat.zero_le _, fun h => by omega⟩, fun i h => by omega, .inl rfl⟩
  · simp at hcs hmm
    obtain ⟨rfl, rfl, rfl⟩ := hcs
    subst hmm
    have hsl : SlD d n := .inr ⟨_, _, congrArg Prod.fst hx0, by simp⟩
    have key : ∀ i, i < n → ∃ z : Int × Int, W.cell? (ad.add (i * 9)) = some (.int .i64 z.1) ∧ W64 z.1 ∧ W64 z.2 ∧ ∃ (s : ByteArray) (x3 x4 x5 x6 x7 : Int) (xa : Option Addr) (xn xc : Nat), W.cell? ((ad.add (i * 9)).add 1) = some (.string s) ∧ W.cell? ((ad.add (i * 9)).add 2) = some (.int .i64 z.2) ∧ W.cell? ((ad.add (i * 9)).add 3) = some (.int .i64 x3) ∧ W.cell? ((ad.add (i * 9)).add 4) = some (.int .i64 x4) ∧ W.cell? ((ad.add (i * 9)).add 5) = some (.int .i64 x5) ∧ W.cell? ((ad.add (i * 9)).add 6) = some (.int .i64 x6) ∧ W.cell? ((ad.add (i * 9)).add 7) = some (.int .i64 x7) ∧ W.cell? ((ad.add (i * 9)).add 8) = some (.slice xa xn xc) := by
      intro i hi
      obtain ⟨cs', hc, ht⟩ := hx i (by omega)
      rw [Try.cellsPool] at hc
      obtain ⟨_, hcl, hat⟩ := World.cells?_some hc
      obtain ⟨u, s1, u2, u3, u4, u5, u6, u7, r8, n8, c8, rfl, hw, hw2⟩ := trod_item hcl ht
      have h0 := hat 0 (by omega)
      have h1 := hat 1 (by omega)
      have h2 := hat 2 (by omega)
      have h3 := hat 3 (by omega)
      have h4 := hat 4 (by omega)
      have h5 := hat 5 (by omega)
      have h6 := hat 6 (by omega)
      have h7 := hat 7 (by omega)
      have h8 := hat 8 (by omega)
      simp [Addr.add_zero'] at h0 h1 h2 h3 h4 h5 h6 h7 h8
      exact ⟨(u, u2), h0, hw, hw2, s1, u3, u4, u5, u6, u7, r8, n8, c8, h1, h2, h3, h4, h5, h6, h7, h8⟩
    obtain ⟨z, hz⟩ := choose_lt key
    refine ⟨fun i => (z i).1, fun i => (z i).2, ⟨hl, hm, fun hn => ?_⟩, fun i hi => ⟨(hz i hi).2.1, (hz i hi).2.2.1⟩, hsl⟩
    obtain ⟨b, off, spot⟩ := ad
    have hspot : spot = none := by simpa [Addr.add] using World.cell?_spot (hz 0 (by omega)).1
    subst hspot
    refine ⟨b, off, rfl, fun i hi => ?_⟩
    have h2 := hz i (by omega)
    simp only [addr_none] at h2
    obtain ⟨c0, _, _, s, x3, x4, x5, x6, x7, xa, xn, xc, c1, c2, c3, c4, c5, c6, c7, c8⟩ := h2
    exact ⟨s, x3, x4, x5, x6, x7, xa, xn, xc, c0, c1, c2, c3, c4, c5, c6, c7, c8⟩
end
end Go.Proofs.Ytonnbcongnkcdaa
