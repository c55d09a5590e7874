/- The examples of the chapter: law07's awake returns true. The table of powers of ten must lie in memory. -/
import Derived.Test.YtnillajhhimeiaaDoorExT
namespace Go.Proofs.YtnillajhhimeiaaDoor
open Go.RowKit

theorem rsz_small (q : Rat) (h1 : q.num.natAbs < 4294967296) (h2 : q.den < 4294967296) : rsz q ≤ 1 := by
  have a := nlen_small h1
  have b := nlen_small h2
  unfold rsz; omega
theorem txt_small (q : Rat) (a b : Nat) (h0 : 0 ≤ q.num) (h1 : q.num.natAbs = a) (h2 : q.den = b) (ha : a < 10) (hb : b < 10) (h3 : ¬ b = 1) : Tx q ⟨#[UInt8.ofNat (48 + a), 47, UInt8.ofNat (48 + b)]⟩ := by
  refine ⟨h0, by omega, by omega, ?_⟩
  unfold txt
  rw [h1, h2, if_neg h3, Lib.decDigits_one ha, Lib.decDigits_one hb]; rfl
theorem txt_zero7 : Tx 0 ⟨#[48]⟩ := by
  refine ⟨by decide, by decide, by decide, ?_⟩
  unfold txt
  rw [if_pos (show (0 : Rat).den = 1 from rfl), show (0 : Rat).num.natAbs = 0 from rfl, Lib.decDigits_one (by omega)]; rfl
theorem txt_1736 : Tx (mkRat 17 36) ⟨#[49, 55, 47, 51, 54]⟩ := by
  refine ⟨by decide +kernel, by decide +kernel, by decide +kernel, ?_⟩
  unfold txt
  rw [show (mkRat 17 36).num.natAbs = 17 by decide +kernel, show (mkRat 17 36).den = 36 by decide +kernel, if_neg (by decide), Lib.decDigits_two (by decide) (by decide), Lib.decDigits_two (by decide) (by decide)]; rfl
theorem tx49 : Tx (mkRat 4 9) ⟨#[52, 47, 57]⟩ := txt_small _ 4 9 (by decide +kernel) (by decide +kernel) (by decide +kernel) (by decide) (by decide) (by decide)
theorem tx19 : Tx (mkRat 1 9) ⟨#[49, 47, 57]⟩ := txt_small _ 1 9 (by decide +kernel) (by decide +kernel) (by decide +kernel) (by decide) (by decide) (by decide)
theorem tx23 : Tx (mkRat 2 3) ⟨#[50, 47, 51]⟩ := txt_small _ 2 3 (by decide +kernel) (by decide +kernel) (by decide +kernel) (by decide) (by decide) (by decide)
theorem tx13 : Tx (mkRat 1 3) ⟨#[49, 47, 51]⟩ := txt_small _ 1 3 (by decide +kernel) (by decide +kernel) (by decide +kernel) (by decide) (by decide) (by decide)
theorem tx12 : Tx (mkRat 1 2) ⟨#[49, 47, 50]⟩ := txt_small _ 1 2 (by decide +kernel) (by decide +kernel) (by decide +kernel) (by decide) (by decide) (by decide)
theorem tx16 : Tx (mkRat 1 6) ⟨#[49, 47, 54]⟩ := txt_small _ 1 6 (by decide +kernel) (by decide +kernel) (by decide +kernel) (by decide) (by decide) (by decide)
theorem tx14 : Tx (mkRat 1 4) ⟨#[49, 47, 52]⟩ := txt_small _ 1 4 (by decide +kernel) (by decide +kernel) (by decide +kernel) (by decide) (by decide) (by decide)
theorem tx56 : Tx (mkRat 5 6) ⟨#[53, 47, 54]⟩ := txt_small _ 5 6 (by decide +kernel) (by decide +kernel) (by decide +kernel) (by decide) (by decide) (by decide)
theorem tx18 : Tx (mkRat 1 8) ⟨#[49, 47, 56]⟩ := txt_small _ 1 8 (by decide +kernel) (by decide +kernel) (by decide +kernel) (by decide) (by decide) (by decide)

def hdist (i : Nat) : Rat := if i = 0 then (mkRat 1 8) else if i = 1 then (mkRat 3 8) else if i = 2 then (mkRat 3 8) else (mkRat 1 8)
theorem aw_a : ∀ i, i < 2 + 1 → frq (binN (nuQ1 (frq 1 3)) (faQ1 (frq 1 3)) 2 i) ((frq 1 3).den ^ 2) = (sel3 (mkRat 4 9) (mkRat 4 9) (mkRat 1 9)) i := by decide +kernel
theorem aw_b : ∀ i, i < 3 → frq (hyp 3 2 2 i) (chs 3 2) = (sel3 0 (mkRat 2 3) (mkRat 1 3)) i := by decide +kernel
theorem aw_c : ∀ i, i < 2 + 1 → frq (trN (nuQ (sel3 (frq 1 2) (frq 1 3) 0)) (faQ (sel3 (frq 1 2) (frq 1 3) 0)) 2 i) (prN (deQ (sel3 (frq 1 2) (frq 1 3) 0)) 2) = (sel3 (mkRat 1 3) (mkRat 1 2) (mkRat 1 6)) i := by decide +kernel
theorem aw_cp : ∀ j, j < 2 → prb (sel3 (frq 1 2) (frq 1 3) 0 j) = true := by decide +kernel
theorem aw_d : ∀ k, k < 3 → cnv (sel3 (frq 1 2) (frq 2 4) 0) 2 (sel3 (frq 1 2) (frq 1 2) 0) 2 k = (sel3 (mkRat 1 4) (mkRat 1 2) (mkRat 1 4)) k := by decide +kernel
theorem aw_d1 : valid (sel3 (frq 1 2) (frq 2 4) 0) 2 = true := by decide +kernel
theorem aw_d2 : valid (sel3 (frq 1 2) (frq 1 2) 0) 2 = true := by decide +kernel
theorem aw_v : valid (sel3 (mkRat 1 3) (mkRat 1 2) (mkRat 1 6)) 3 = true := by decide +kernel
theorem aw_nv : valid (sel3 (frq 1 2) (frq 1 3) 0) 2 = false := by decide +kernel
theorem aw_m : meanQ (sel3 (mkRat 1 3) (mkRat 1 2) (mkRat 1 6)) 3 = (mkRat 5 6) := by decide +kernel
theorem aw_s : varQ (sel3 (mkRat 1 3) (mkRat 1 2) (mkRat 1 6)) 3 = (mkRat 17 36) := by decide +kernel
theorem aw_h : ∀ i, i < 3 + 1 → frq (binN (nuQ1 (frq 1 2)) (faQ1 (frq 1 2)) 3 i) ((frq 1 2).den ^ 3) = hdist i := by decide +kernel
theorem aw_hv : valid hdist 4 = true := by decide +kernel
theorem aw_x : upQ hdist 4 2 = (mkRat 1 2) := by decide +kernel
theorem aw_y : sQ hdist 1 = (mkRat 1 8) := by decide +kernel
theorem aw_z : bothQ hdist 4 0 = (mkRat 1 4) := by decide +kernel
theorem aw_hs : ∀ i, i < 4 → (hdist i).num.natAbs < 4294967296 ∧ (hdist i).den < 4294967296 := by decide +kernel
theorem aw_as : ∀ i, i < 3 → ((sel3 (mkRat 4 9) (mkRat 4 9) (mkRat 1 9)) i).num.natAbs < 4294967296 ∧ ((sel3 (mkRat 4 9) (mkRat 4 9) (mkRat 1 9)) i).den < 4294967296 := by decide +kernel
theorem aw_bs : ∀ i, i < 3 → ((sel3 0 (mkRat 2 3) (mkRat 1 3)) i).num.natAbs < 4294967296 ∧ ((sel3 0 (mkRat 2 3) (mkRat 1 3)) i).den < 4294967296 := by decide +kernel
theorem aw_cs : ∀ i, i < 3 → ((sel3 (mkRat 1 3) (mkRat 1 2) (mkRat 1 6)) i).num.natAbs < 4294967296 ∧ ((sel3 (mkRat 1 3) (mkRat 1 2) (mkRat 1 6)) i).den < 4294967296 := by decide +kernel
theorem aw_ds : ∀ i, i < 3 → ((sel3 (mkRat 1 4) (mkRat 1 2) (mkRat 1 4)) i).num.natAbs < 4294967296 ∧ ((sel3 (mkRat 1 4) (mkRat 1 2) (mkRat 1 4)) i).den < 4294967296 := by decide +kernel
theorem sel3_tx {x y z : Rat} {s t u : ByteArray} (h1 : Tx x s) (h2 : Tx y t) (h3 : Tx z u) : ∀ i, i < 3 → Tx (sel3 x y z i) (sel3 s t u i) := by
  intro i hi
  obtain rfl | rfl | rfl : i = 0 ∨ i = 1 ∨ i = 2 := by omega
  · exact h1
  · exact h2
  · exact h3
theorem sel2_tx {x y z : Rat} {s t u : ByteArray} (h1 : Tx x s) (h2 : Tx y t) : ∀ i, i < 2 → Tx (sel3 x y z i) (sel3 s t u i) := by
  intro i hi
  obtain rfl | rfl : i = 0 ∨ i = 1 := by omega
  · exact h1
  · exact h2
theorem pr13 : prb (frq 1 3) = true := by decide +kernel
theorem pr12 : prb (frq 1 2) = true := by decide +kernel
theorem pr21 : prb (frq 2 1) = false := by decide +kernel

end Go.Proofs.YtnillajhhimeiaaDoor
