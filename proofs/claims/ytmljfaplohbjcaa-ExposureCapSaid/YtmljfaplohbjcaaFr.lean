/- Arguments that came in, opened: natural numbers, rational numbers. No condition. -/
import Derived.Test.YtmljfaplohbjcaaJoR1
import Derived.Test.YtmljfaplohbjcaaRows
import Derived.Deep.Slices
import Derived.Lib.SmallJoins
namespace Go.Proofs.Ytmljfaplohbjcaa
open Go.RowKit Go.ChangeShapes Go.WideShapes Go.ChangeAt Go.Deep

/-- the number with these limbs -/
def ofD (z : Nat → Nat) : Nat → Nat
  | 0 => 0
  | n + 1 => ofD z n + B ^ n * z n
theorem ofD_lt {z : Nat → Nat} (h : ∀ i, z i < B) : ∀ n, ofD z n < B ^ n
  | 0 => by simp [ofD]
  | n + 1 => by
    have h1 := ofD_lt h n
    have h2 := Nat.mul_le_mul_left (B ^ n) (show z n + 1 ≤ B from h n)
    rw [Nat.mul_add, Nat.mul_one] at h2
    simp only [ofD]
    rw [pB_succ]; omega
theorem ofD_dig {z : Nat → Nat} (h : ∀ i, z i < B) : ∀ n i, i < n → dig (ofD z n) i = z i
  | 0, i, hi => by omega
  | n + 1, i, hi => by
    simp only [ofD]
    rcases Nat.lt_or_ge i n with h1 | h1
    · rw [dig_add_mul _ _ _ _ h1]; exact ofD_dig h n i h1
    · obtain rfl : i = n := by omega
      unfold dig
      rw [Nat.add_mul_div_left _ _ (pB i), Nat.div_eq_of_lt (ofD_lt h i), Nat.zero_add]
      exact Nat.mod_eq_of_lt (h i)

theorem Try.own : ownKnob Try.prog.godebug = none := by kernel_rfl
theorem Try.laidOut : laidOutB Try.prog = true := by kernel_rfl
theorem Try.cellsU32 : Try.prog.cellsOf 90 = 1 := by kernel_rfl
theorem Try.cellsInt : Try.prog.cellsOf 36 = 2 := by kernel_rfl
theorem Try.cellsNat : Try.prog.cellsOf 34 = 1 := by kernel_rfl
theorem Try.cellsBool : Try.prog.cellsOf 4 = 1 := by kernel_rfl
theorem Try.cellsRat : Try.prog.cellsOf 38 = 3 := by kernel_rfl

section
variable {H : Type} {enc : TypeId × Value → H} {W : World} {fuel : Nat}
theorem wf_u32 {n : Int} (h : (Lit.int .u32 n).wf = true) : 0 ≤ n ∧ n < 4294967296 := by
  have e1 : IntKind.u32.min = 0 := by decide
  have e2 : IntKind.u32.max = 4294967295 := by decide
  simp [Lit.wf, e1, e2] at h
  omega
theorem add_none (b off i : Nat) : (⟨b, off, none⟩ : Addr).add i = ⟨b, off + i, none⟩ := by
  unfold Addr.add; split <;> simp_all
theorem trod_nat {c : Value} {x : DataW H × List MemPlace} (h : DataW.trod enc Try.prog W 0 (fun _ => true) true fuel 34 [c] = some x) :
    ∃ a n cap m, c = .slice a n cap ∧ Nt W.heap.size W a n cap m := by
  rcases open_ints Try.underNat Try.underlying90 Try.cellsU32 h with ⟨hcs, _⟩ | ⟨a, len, cap, zs, hcs, _, hl, hm, hzl, _, hcell, hwf⟩
  · simp at hcs
    exact ⟨none, 0, 0, 0, hcs, Nt.zero _ _⟩
  · simp at hcs hzl
    obtain ⟨b, off, spot⟩ := a
    by_cases h0 : len = 0
    · subst h0
      exact ⟨_, _, _, 0, hcs, ⟨hl, fun e => by cases e⟩, hm, by simp, fun e => by omega⟩
    · have hspot : spot = none := by simpa [Addr.add] using World.cell?_spot (hcell 0 (by omega))
      subst hspot
      have hz : ∀ i, (zs.getD i 0).toNat < B := by
        intro i
        by_cases hi : i < zs.length
        · have := wf_u32 (hwf (zs.getD i 0) (by simp [List.getD, hi]))
          simp only [B]; omega
        · simp [List.getD, hi, B]
      refine ⟨_, _, _, ofD (fun i => (zs.getD i 0).toNat) len, hcs, ⟨hl, fun e => by cases e⟩, hm, ofD_lt hz len, fun _ => ⟨b, off, rfl, .inl ?_, fun i hi => ?_⟩⟩
      · exact World.block_lt_of_cell? W _ (by have := hcell 0 (by omega); rw [add_none] at this; exact this)
      · have h1 := hcell i (by omega)
        rw [add_none] at h1
        have h2 := wf_u32 (hwf (zs.getD i 0) (by simp [List.getD, show i < zs.length by omega]))
        rw [h1, ofD_dig hz len i hi]
        congr 2; omega
set_option maxRecDepth 100000 in
theorem open_rat {r : Reach} {b0 : Nat} {v : Value} {d : DataW H} {p : List MemPlace} (hv : Value.okWide Try.prog W r b0 38 v) (h : DataW.Trod enc Try.prog W 0 (fun _ => true) true 38 v d p) :
    ∃ s a na ca mn dd nd cd md, v = .agg #[.bool s, .slice a na ca, .slice dd nd cd] ∧ Nt W.heap.size W a na ca mn ∧ Nt W.heap.size W dd nd cd md := by
  obtain ⟨cs, rfl, hsz⟩ := okWide_struct Try.underlying38 hv
  obtain ⟨c0, c1, c2, rfl⟩ := Joins.array3 (hsz.trans Try.cellsRat)
  obtain ⟨fuel, hf⟩ := h
  obtain ⟨y0, y1, n, _, _, h0, h1⟩ := trod_struct2 Try.underlying38 hf
  simp [Value.cells, Try.cellsInt, Try.cellsNat] at h0 h1
  obtain ⟨z0, z1, k, _, _, g0, g1⟩ := trod_struct2 Try.underlying36 h0
  simp [Try.cellsNat, Try.cellsBool] at g0 g1
  obtain ⟨s, hs, _⟩ := DataW.trod_bool Try.underlying4 g0
  obtain ⟨a, na, ca, mn, rfl, hn⟩ := trod_nat g1
  obtain ⟨dd, nd, cd, md, rfl, hd⟩ := trod_nat h1
  simp at hs
  subst hs
  exact ⟨_, _, _, _, _, _, _, _, _, rfl, hn, hd⟩
end

end Go.Proofs.Ytmljfaplohbjcaa
