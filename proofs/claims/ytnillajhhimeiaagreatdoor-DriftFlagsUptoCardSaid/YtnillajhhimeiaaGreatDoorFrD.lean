import Derived.Test.YtnillajhhimeiaaGreatDoorFrR
namespace Go.Proofs.YtnillajhhimeiaaGreatDoor
open Go.RowKit Go.ChangeShapes Go.WideShapes Go.ChangeAt Go.Deep
section
variable {H : Type} {enc : TypeId × Value → H} {W : World} {fuel : Nat}
set_option maxRecDepth 100000 in
theorem open_ratb {r : Reach} {b0 : Nat} {v : Value} {d : DataW H} {p : List MemPlace} (hv : Value.okWide Tryz.prog W r b0 29 v) (h : DataW.Trod enc Tryz.prog W 0 (fun _ => true) true 29 v d p) (hb : Rows.uptoBulk d ≤ 1048576) :
    ∃ s a na ca dd nd cd q, v = .agg #[.bool s, .slice a na ca, .slice dd nd cd] ∧ Rt W.heap.size W s a na ca dd nd cd q 2097152 := by
  obtain ⟨cs, rfl, hsz⟩ := okWide_struct Tryz.underlying29 hv
  obtain ⟨c0, c1, c2, rfl⟩ := Joins.array3 (hsz.trans Tryz.cellsRat)
  obtain ⟨fuel, hf⟩ := h
  have hf2 : DataW.trod enc Tryz.prog W 0 (fun _ => true) true fuel 29 [c0, c1, c2] = some (d, p) := by simpa [Value.cells] using hf
  obtain ⟨s, a, na, ca, dd, nd, cd, mn, md, hcs, e1, e2, b1, b2⟩ := trod_ratb rfl hf2
  simp only [List.cons.injEq, and_true] at hcs
  obtain ⟨rfl, rfl, rfl⟩ := hcs
  have b1' : na ≤ Rows.uptoBulk d := b1
  have b2' : nd ≤ Rows.uptoBulk d := b2
  exact ⟨s, a, na, ca, dd, nd, cd, mkRat (zI s mn) md, rfl, by omega, by omega, by omega, mn, md, e1, e2, rfl⟩
theorem Tryz.cellsTabl : Tryz.prog.cellsOf 23 = 4 := by kernel_rfl
theorem Tryz.cellsInt64 : Tryz.prog.cellsOf 3 = 1 := by kernel_rfl
theorem trod_table {cs : List Value} {x : DataW H × List MemPlace} (hl : cs.length = 4) (h : DataW.trod enc Tryz.prog W 0 (fun _ => true) true fuel 23 cs = some x) : ∃ a b c d : Int, cs = [.int .i64 a, .int .i64 b, .int .i64 c, .int .i64 d] := by
  obtain ⟨c0, c1, c2, c3, rfl⟩ : ∃ c0 c1 c2 c3, cs = [c0, c1, c2, c3] := by
    match cs, hl with
    | [c0, c1, c2, c3], _ => exact ⟨_, _, _, _, rfl⟩
  obtain ⟨xs, n, _, rfl, _, hlen, hf⟩ := DataW.trod_struct Tryz.underlying23 h
  match xs, hlen with
  | [y0, y1, y2, y3], _ =>
    have g0 := hf 0 _ rfl
    have g1 := hf 1 _ rfl
    have g2 := hf 2 _ rfl
    have g3 := hf 3 _ rfl
    simp [Tryz.cellsInt64] at g0 g1 g2 g3
    obtain ⟨a, ha, _, _⟩ := DataW.trod_int Tryz.underlying3 g0
    obtain ⟨b, hb, _, _⟩ := DataW.trod_int Tryz.underlying3 g1
    obtain ⟨c, hc, _, _⟩ := DataW.trod_int Tryz.underlying3 g2
    obtain ⟨d, hd, _, _⟩ := DataW.trod_int Tryz.underlying3 g3
    simp at ha hb hc hd
    exact ⟨a, b, c, d, by rw [ha, hb, hc, hd]⟩
end
end Go.Proofs.YtnillajhhimeiaaGreatDoor
