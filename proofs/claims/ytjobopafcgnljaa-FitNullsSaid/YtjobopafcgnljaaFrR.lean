import Derived.Test.YtjobopafcgnljaaFr
import Derived.Test.YtjobopafcgnljaaJoB
namespace Go.Proofs.Ytjobopafcgnljaa
open Go.RowKit Go.ChangeShapes Go.WideShapes Go.ChangeAt Go.Deep
theorem bulk_one {H : Type} (d : DataW H) : 1 ≤ Rows.uptoBulk d := by
 cases d with
 | lit l => cases l <;> simp [Rows.uptoBulk]
 | nil => simp [Rows.uptoBulk]
 | ptr d => simp [Rows.uptoBulk]
 | slice elems spare => simp [Rows.uptoBulk]
 | agg parts => simp [Rows.uptoBulk]
 | iface t d => simp [Rows.uptoBulk]
 | map entries => simp [Rows.uptoBulk]
 | held h => simp [Rows.uptoBulk]
theorem bulk_len {H : Type} : ∀ l : List (DataW H), l.length ≤ Rows.uptoBulkAll l
 | [] => by simp
 | x :: r => by
  have h1 := bulk_one x
  have h2 := bulk_len r
  simp only [Rows.uptoBulkAll, List.length_cons]; omega
section
variable {H : Type} {enc : TypeId × Value → H} {W : World} {fuel : Nat}
theorem trod_natb {c : Value} {x : DataW H × List MemPlace} (h : DataW.trod enc Try.prog W 0 (fun _ => true) true fuel 26 [c] = some x) :
  ∃ a n cap m, c = .slice a n cap ∧ Nt W.heap.size W a n cap m ∧ n ≤ Rows.uptoBulk x.1 := by
 obtain ⟨a, n, cap, m, rfl, hn⟩ := trod_nat h
 refine ⟨a, n, cap, m, rfl, hn, ?_⟩
 rcases open_ints Try.underNat Try.underlying81 Try.cellsU32 h with ⟨hcs, _⟩ | ⟨a', len, cap', zs, hcs, _, hl, hm, hzl, hx, _, _⟩
 ·simp at hcs; omega
 ·simp at hcs hzl
  rw [hx]
  have h1 := bulk_len (H := H) (lits .u32 (zs.take len))
  have h2 : (lits (H := H) .u32 (zs.take len)).length = len := by simp [lits]; omega
  simp only [Rows.uptoBulk]
  omega
theorem trod_ratb {cs : List Value} {x : DataW H × List MemPlace} (hl : cs.length = 3) (h : DataW.trod enc Try.prog W 0 (fun _ => true) true fuel 30 cs = some x) :
  ∃ s a na ca d nd cd mn md, cs = [.bool s, .slice a na ca, .slice d nd cd] ∧ Nt W.heap.size W a na ca mn ∧ Nt W.heap.size W d nd cd md ∧ na ≤ Rows.uptoBulk x.1 ∧ nd ≤ Rows.uptoBulk x.1 := by
 obtain ⟨c0, c1, c2, rfl⟩ : ∃ c0 c1 c2, cs = [c0, c1, c2] := by
  match cs, hl with
  | [c0, c1, c2], _ => exact ⟨_, _, _, rfl⟩
 obtain ⟨y0, y1, n, rfl, _, h0, h1⟩ := trod_struct2 Try.underlying30 h
 simp [Try.cellsInt, Try.cellsNat] at h0 h1
 obtain ⟨z0, z1, k, rfl, _, g0, g1⟩ := trod_struct2 Try.underlying28 h0
 simp [Try.cellsNat, Try.cellsBool] at g0 g1
 obtain ⟨s, hs, _⟩ := DataW.trod_bool Try.underlying4 g0
 obtain ⟨a, na, ca, mn, rfl, hn, b1⟩ := trod_natb g1
 obtain ⟨dd, nd, cd, md, rfl, hd, b2⟩ := trod_natb h1
 simp at hs
 subst hs
 refine ⟨_, _, _, _, _, _, _, _, _, rfl, hn, hd, ?_, ?_⟩
 all_goals simp only [Rows.uptoBulk, Rows.uptoBulkAll]; omega
end
end Go.Proofs.Ytjobopafcgnljaa
