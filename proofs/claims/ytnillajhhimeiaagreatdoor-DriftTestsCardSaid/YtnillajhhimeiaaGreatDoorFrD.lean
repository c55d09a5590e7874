import Derived.Test.YtnillajhhimeiaaGreatDoorFrR
namespace Go.Proofs.YtnillajhhimeiaaGreatDoor
open Go.RowKit Go.ChangeShapes Go.WideShapes Go.ChangeAt Go.Deep
section
variable {H : Type} {enc : TypeId × Value → H} {W : World} {fuel : Nat}
theorem Tryz.cellsTabl : Tryz.prog.cellsOf 23 = 4 := by kernel_rfl
theorem Tryz.cellsInt64 : Tryz.prog.cellsOf 3 = 1 := by kernel_rfl
theorem array4 {α : Type} {a : Array α} (h : a.size = 4) : ∃ x y z u,a = #[x,y,z,u] := by
  obtain ⟨l⟩ := a
  match l,h with
  | [x,y,z,u],_ => exact ⟨x,y,z,u,rfl⟩
theorem trod_table {cs : List Value} {x : DataW H × List MemPlace} (hl : cs.length = 4) (h : DataW.trod enc Tryz.prog W 0 (fun _ => true) true fuel 23 cs = some x) : ∃ a b c d : Int,cs = [.int .i64 a,.int .i64 b,.int .i64 c,.int .i64 d] := by
  obtain ⟨c0,c1,c2,c3,rfl⟩ : ∃ c0 c1 c2 c3,cs = [c0,c1,c2,c3] := by
    match cs,hl with
    | [c0,c1,c2,c3],_ => exact ⟨_,_,_,_,rfl⟩
  obtain ⟨xs,n,_,rfl,_,hlen,hf⟩ := DataW.trod_struct Tryz.underlying23 h
  match xs,hlen with
  | [y0,y1,y2,y3],_ =>
    have g0 := hf 0 _ rfl
    have g1 := hf 1 _ rfl
    have g2 := hf 2 _ rfl
    have g3 := hf 3 _ rfl
    simp [Tryz.cellsInt64] at g0 g1 g2 g3
    obtain ⟨a,ha,_,_⟩ := DataW.trod_int Tryz.underlying3 g0
    obtain ⟨b,hb,_,_⟩ := DataW.trod_int Tryz.underlying3 g1
    obtain ⟨c,hc,_,_⟩ := DataW.trod_int Tryz.underlying3 g2
    obtain ⟨d,hd,_,_⟩ := DataW.trod_int Tryz.underlying3 g3
    simp at ha hb hc hd
    exact ⟨a,b,c,d,by rw [ha,hb,hc,hd]⟩
set_option maxRecDepth 100000 in
theorem open_table {r : Reach} {b0 : Nat} {v : Value} {d : DataW H} {p : List MemPlace} (hv : Value.okWide Tryz.prog W r b0 23 v) (h : DataW.Trod enc Tryz.prog W 0 (fun _ => true) true 23 v d p) :
    ∃ a b c d : Int,v = .agg #[.int .i64 a,.int .i64 b,.int .i64 c,.int .i64 d] := by
  obtain ⟨cs,rfl,hsz⟩ := okWide_struct Tryz.underlying23 hv
  obtain ⟨c0,c1,c2,c3,rfl⟩ := array4 (hsz.trans Tryz.cellsTabl)
  obtain ⟨fuel,hf⟩ := h
  have hf2 : DataW.trod enc Tryz.prog W 0 (fun _ => true) true fuel 23 [c0,c1,c2,c3] = some (d,p) := by simpa [Value.cells] using hf
  obtain ⟨x,y,z,u,hcs⟩ := trod_table rfl hf2
  simp only [List.cons.injEq,and_true] at hcs
  obtain ⟨rfl,rfl,rfl,rfl⟩ := hcs
  exact ⟨x,y,z,u,rfl⟩
end
end Go.Proofs.YtnillajhhimeiaaGreatDoor
