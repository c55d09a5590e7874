/- Arguments that came in, opened: rational numbers with the bound on their bulk, tables of four counts. No condition. -/
import Derived.Test.YtmecipfdelgfbaaDoorFrR
namespace Go.Proofs.YtmecipfdelgfbaaDoor
open Go.RowKit Go.ChangeShapes Go.WideShapes Go.ChangeAt Go.Deep

section
variable {H : Type} {enc : TypeId × Value → H} {W : World} {fuel : Nat}
set_option maxRecDepth 100000 in
theorem open_ratb {r : Reach} {b0 : Nat} {v : Value} {d : DataW H} {p : List MemPlace} (hv : Value.okWide Tryd.prog W r b0 28 v) (h : DataW.Trod enc Tryd.prog W 0 (fun _ => true) true 28 v d p) (hb : Rows.uptoBulk d ≤ 1048576) :
    ∃ s a na ca dd nd cd q, v = .agg #[.bool s, .slice a na ca, .slice dd nd cd] ∧ Rt W.heap.size W s a na ca dd nd cd q 2097152 := by
  obtain ⟨cs, rfl, hsz⟩ := okWide_struct Tryd.underlying28 hv
  obtain ⟨c0, c1, c2, rfl⟩ := Joins.array3 (hsz.trans Tryd.cellsRat)
  obtain ⟨fuel, hf⟩ := h
  have hf2 : DataW.trod enc Tryd.prog W 0 (fun _ => true) true fuel 28 [c0, c1, c2] = some (d, p) := by simpa [Value.cells] using hf
  obtain ⟨s, a, na, ca, dd, nd, cd, mn, md, hcs, e1, e2, b1, b2⟩ := trod_ratb rfl hf2
  simp only [List.cons.injEq, and_true] at hcs
  obtain ⟨rfl, rfl, rfl⟩ := hcs
  have b1' : na ≤ Rows.uptoBulk d := b1
  have b2' : nd ≤ Rows.uptoBulk d := b2
  exact ⟨s, a, na, ca, dd, nd, cd, mkRat (zI s mn) md, rfl, by omega, by omega, by omega, mn, md, e1, e2, rfl⟩
theorem Tryd.cellsTabl : Tryd.prog.cellsOf 50 = 4 := by kernel_rfl
theorem Tryd.cellsInt64 : Tryd.prog.cellsOf 3 = 1 := by kernel_rfl
theorem array4 {α : Type} {a : Array α} (h : a.size = 4) : ∃ x y z u, a = #[x, y, z, u] := by
  obtain ⟨l⟩ := a
  match l, h with
  | [x, y, z, u], _ => exact ⟨x, y, z, u, rfl⟩
theorem trod_table {cs : List Value} {x : DataW H × List MemPlace} (hl : cs.length = 4) (h : DataW.trod enc Tryd.prog W 0 (fun _ => true) true fuel 50 cs = some x) : ∃ a b c d : Int, cs = [.int .i64 a, .int .i64 b, .int .i64 c, .int .i64 d] := by
  obtain ⟨c0, c1, c2, c3, rfl⟩ : ∃ c0 c1 c2 c3, cs = [c0, c1, c2, c3] := by
    match cs, hl with
    | [c0, c1, c2, c3], _ => exact ⟨_, _, _, _, rfl⟩
  obtain ⟨xs, n, _, rfl, _, hlen, hf⟩ := DataW.trod_struct Tryd.underlying50 h
  match xs, hlen with
  | [y0, y1, y2, y3], _ =>
    have g0 := hf 0 _ rfl
    have g1 := hf 1 _ rfl
    have g2 := hf 2 _ rfl
    have g3 := hf 3 _ rfl
    simp [Tryd.cellsInt64] at g0 g1 g2 g3
    obtain ⟨a, ha, _, _⟩ := DataW.trod_int Tryd.underlying3 g0
    obtain ⟨b, hb, _, _⟩ := DataW.trod_int Tryd.underlying3 g1
    obtain ⟨c, hc, _, _⟩ := DataW.trod_int Tryd.underlying3 g2
    obtain ⟨d, hd, _, _⟩ := DataW.trod_int Tryd.underlying3 g3
    simp at ha hb hc hd
    exact ⟨a, b, c, d, by rw [ha, hb, hc, hd]⟩
set_option maxRecDepth 100000 in
theorem open_table {r : Reach} {b0 : Nat} {v : Value} {d : DataW H} {p : List MemPlace} (hv : Value.okWide Tryd.prog W r b0 50 v) (h : DataW.Trod enc Tryd.prog W 0 (fun _ => true) true 50 v d p) :
    ∃ a b c d : Int, v = .agg #[.int .i64 a, .int .i64 b, .int .i64 c, .int .i64 d] := by
  obtain ⟨cs, rfl, hsz⟩ := okWide_struct Tryd.underlying50 hv
  obtain ⟨c0, c1, c2, c3, rfl⟩ := array4 (hsz.trans Tryd.cellsTabl)
  obtain ⟨fuel, hf⟩ := h
  have hf2 : DataW.trod enc Tryd.prog W 0 (fun _ => true) true fuel 50 [c0, c1, c2, c3] = some (d, p) := by simpa [Value.cells] using hf
  obtain ⟨x, y, z, u, hcs⟩ := trod_table rfl hf2
  simp only [List.cons.injEq, and_true] at hcs
  obtain ⟨rfl, rfl, rfl, rfl⟩ := hcs
  exact ⟨x, y, z, u, rfl⟩
end

end Go.Proofs.YtmecipfdelgfbaaDoor
