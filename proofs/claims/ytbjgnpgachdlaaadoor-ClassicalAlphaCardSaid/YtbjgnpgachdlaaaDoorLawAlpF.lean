/- ClassicalAlpha returns true for every input, the three tables lying as the program's text lays them (tied). -/
import Derived.Test.YtbjgnpgachdlaaaDoorLawAlp
import Derived.Test.YtbjgnpgachdlaaaDoorCards
import Derived.Test.YtbjgnpgachdlaaaDoorTie
import Derived.ProofKit
import Derived.LaidMore
import Derived.OpenShut
import Derived.Stop.Joined
import Derived.Lib.LaidTab
import Derived.SevenTiedAt
namespace Go.Proofs.YtbjgnpgachdlaaaDoor
open Go.RowKit Go.ChangeShapes Go.WideShapes Go.ChangeAt Go.Deep

theorem Tryd.gTab : Tryd.prog.globalNamed "internal/strconv.uint64pow10" = some 0 := by kernel_rfl
theorem Tryd.gTabType : (Tryd.prog.globals[0]?).map (·.type) = some 134 := by kernel_rfl
theorem Tryd.cellsTab : Tryd.prog.cellsOf 134 = 20 := by kernel_rfl
theorem Tryd.cellsU64 : Tryd.prog.cellsOf 69 = 1 := by kernel_rfl
theorem pow_data : (Rows.laid_internal_strconv_uint64pow10 : DataW Unit) = Lib.tabData .u64 Lib.pow10Tab := by kernel_rfl
def laid3 : List (String × DataW Unit) := [("math/bits.deBruijn32tab", Rows.laid_math_bits_deBruijn32tab), ("math/bits.deBruijn64tab", Rows.laid_math_bits_deBruijn64tab), ("internal/strconv.uint64pow10", Rows.laid_internal_strconv_uint64pow10)]
/-- what the row's list gives: the table of powers of ten -/
theorem tabW_of {W : World} (h : laidMetH Tryd.prog laid3 W) : TabW W := by
  rw [MakeChecks.laidMetH_plain _ _ _ (by kernel_rfl)] at h
  obtain ⟨ps, ⟨g0, t0, cs0, f0, p0, q0, hg0, ht0, hv0, hd0, ⟨g1, t1, cs1, f1, p1, q1, hg1, ht1, hv1, hd1, ⟨g2, t2, cs2, f2, p2, q2, hg2, ht2, hv2, hd2, _, _⟩, _⟩, _⟩, _, _⟩ := h
  obtain rfl := Option.some.inj (Tryd.gTab.symm.trans hg2)
  obtain rfl := Option.some.inj (Tryd.gTabType.symm.trans ht2)
  unfold TabW Lib.TabIs
  rw [pow_data] at hd2
  rw [hv2, ← Lib.cells_of_tab Tryd.underlying134 Tryd.underlying69 Tryd.cellsU64 Tryd.cellsTab hd2]
/-- the door's own heap meets the condition -/
theorem door_met (os : Os) (args : Array Value) : laidMetH Tryd.prog laid3 ((World.doorLaid Tryd.prog 24 os).forCall (fun _ _ => 0) ⟨#[], args, []⟩).memory :=
  laidMetH_of_parts3 (fuel := 8) (laidMet_of_run' 8 (by kernel_rfl) (by kernel_rfl)) (by kernel_rfl) (by kernel_rfl)

theorem Tryd.cellsInts : Tryd.prog.cellsOf 22 = 1 := by kernel_rfl
theorem Tryd.cellsI : Tryd.prog.cellsOf 3 = 1 := by kernel_rfl
section
variable {H : Type} {enc : TypeId × Value → H} {W : World} {fuel : Nat}
theorem trod_ints {c : Value} {x : DataW H × List MemPlace} (h : DataW.trod enc Tryd.prog W 0 (fun _ => true) true fuel 22 [c] = some x) : ∃ a n cap z, c = .slice a n cap ∧ Is W a n cap z := by
  rcases open_ints Tryd.underlying22 Tryd.underlying3 Tryd.cellsI h with ⟨hcs, _⟩ | ⟨a, len, cap, zs, hcs, _, hl, hm, hzl, _, hcell, hwf⟩
  · simp at hcs
    exact ⟨none, 0, 0, fun _ => 0, hcs, Nat.le_refl _, Nat.zero_le _, fun h => by omega⟩
  · simp at hcs hzl
    refine ⟨_, _, _, fun i => zs.getD i 0, hcs, hl, hm, fun hn => ?_⟩
    obtain ⟨b, off, spot⟩ := a
    have hspot : spot = none := by simpa [Addr.add] using World.cell?_spot (hcell 0 (by omega))
    subst hspot
    refine ⟨b, off, rfl, fun i hi => ?_⟩
    have h1 := hcell i (by omega)
    rw [add_none] at h1
    exact h1
theorem open_rows {a : Option Addr} {n cap : Nat} {d : DataW H} {p : List MemPlace} (h : DataW.Trod enc Tryd.prog W 0 (fun _ => true) true 37 (.slice a n cap) d p) : ∃ ra rn rc z, Rw W a n cap ra rn rc z := by
  obtain ⟨fuel, hf⟩ := h
  have hf2 : DataW.trod enc Tryd.prog W 0 (fun _ => true) true fuel 37 [.slice a n cap] = some (d, p) := by simpa [Value.cells] using hf
  rcases open_slice Tryd.underlying37 hf2 with ⟨hcs, _⟩ | ⟨ad, len, cp, m, k, D, Pl, hcs, _, hl, hm, hmm, _, hx⟩
  · simp at hcs
    obtain ⟨rfl, rfl, rfl⟩ := hcs
    exact ⟨fun _ => none, fun _ => 0, fun _ => 0, fun _ _ => 0, Nat.le_refl _, Nat.zero_le _, fun h => by omega⟩
  · simp at hcs hmm
    obtain ⟨rfl, rfl, rfl⟩ := hcs
    subst hmm
    have key : ∀ i, i < m → ∃ y : Option Addr × Nat × Nat × (Nat → Int), W.cell? (ad.add (i * 1)) = some (.slice y.1 y.2.1 y.2.2.1) ∧ Is W y.1 y.2.1 y.2.2.1 y.2.2.2 := by
      intro i hi
      obtain ⟨cs', hc, ht⟩ := hx i hi
      rw [Tryd.cellsInts] at hc
      obtain ⟨_, hcl, hat⟩ := World.cells?_some hc
      obtain ⟨c0, rfl⟩ : ∃ c0, cs' = [c0] := by
        match cs', hcl with
        | [c0], _ => exact ⟨_, rfl⟩
      obtain ⟨a', n', cap', z', rfl, hi'⟩ := trod_ints ht
      have h0 := hat 0 (by omega)
      simp [Addr.add_zero'] at h0
      exact ⟨(a', n', cap', z'), by simpa using h0, hi'⟩
    obtain ⟨y, hy⟩ := choose_lt key
    refine ⟨fun i => (y i).1, fun i => (y i).2.1, fun i => (y i).2.2.1, fun i => (y i).2.2.2, hl, hm, fun hn => ?_⟩
    obtain ⟨b, off, spot⟩ := ad
    have hspot : spot = none := by simpa [Addr.add] using World.cell?_spot (hy 0 (by omega)).1
    subst hspot
    refine ⟨b, off, rfl, fun i hi => ?_⟩
    have h2 := hy i (by omega)
    rw [add_none, Nat.mul_one] at h2
    exact h2
theorem open_ints1 {a : Option Addr} {n cap : Nat} {d : DataW H} {p : List MemPlace} (h : DataW.Trod enc Tryd.prog W 0 (fun _ => true) true 22 (.slice a n cap) d p) : ∃ z, Is W a n cap z := by
  obtain ⟨fuel, hf⟩ := h
  have hf2 : DataW.trod enc Tryd.prog W 0 (fun _ => true) true fuel 22 [.slice a n cap] = some (d, p) := by simpa [Value.cells] using hf
  obtain ⟨a', n', cap', z, e, hz⟩ := trod_ints hf2
  simp only [Value.slice.injEq] at e
  obtain ⟨rfl, rfl, rfl⟩ := e
  exact ⟨z, hz⟩
end
theorem alpha_cases {N : Nat} (a : Option Addr) (n cap : Nat) (ra : Nat → Option Addr) (rn rc : Nat → Nat) (z : Nat → Nat → Int) :
    ∃ p2 c, (∀ w', N ≤ w'.heap.size → Rw w' a n cap ra rn rc z → Calls Tryd.prog 15 #[.slice a n cap] w' (RatPostC N w' p2 c)) ∧ ((c = 0 ∧ p2 ≤ 1) ∨ (c ≠ 0 ∧ p2 = 0)) ∧ rsz p2 ≤ 1000 := by
  by_cases hc : rowsC n rn z = 0
  · obtain ⟨n200, n0, hrn, k2, k60, hin⟩ := rowsC_zero hc
    by_cases hv : cov (totZ z (rn 0)) (totZ z (rn 0)) n = 0
    · exact ⟨0, 20, fun w' hN' h' => alpha_any a n cap ra rn rc z w' hN' h' 0 0 20 (fun w2 hN2 h2 => rel_ok a n cap ra rn rc z w2 hN2 h2 hc (rn 0) rfl 0 0 20 _ rfl (.inl ⟨hv, rfl, rfl, rfl⟩)), .inr ⟨by decide, rfl⟩, by have := rsz_zero; omega⟩
    · refine ⟨_, 0, fun w' hN' h' => alpha_any a n cap ra rn rc z w' hN' h' _ _ 0 (fun w2 hN2 h2 => rel_ok a n cap ra rn rc z w2 hN2 h2 hc (rn 0) rfl _ _ 0 _ rfl (.inr ⟨hv, rfl, rfl, rfl⟩)), .inl ⟨rfl, alpha_le z n (rn 0) n0 k2 _ rfl hv⟩, ?_⟩
      have h1 := rsz_itm hin n200 (rn 0) (Nat.le_refl _)
      have h2 := rsz_cov (tot_in hin k60) (tot_in hin k60) n200
      have h3 := rsz_quot (itm z n (rn 0)) (cov (totZ z (rn 0)) (totZ z (rn 0)) n)
      have h4 := rsz_sub (((1 : Int) : Rat) / ((1 : Int) : Rat)) (itm z n (rn 0) / cov (totZ z (rn 0)) (totZ z (rn 0)) n)
      have h5 : rsz (((1 : Int) : Rat) / ((1 : Int) : Rat)) ≤ 2 := rsz_div 1 1 _ rfl (by decide) (by decide)
      have h6 : rsz (((rn 0 : Int) : Rat) / (((rn 0 : Int) - 1 : Int) : Rat)) ≤ 2 := rsz_div (rn 0 : Int) (rn 0 - 1) _ (by rw [show ((rn 0 - 1 : Nat) : Int) = (rn 0 : Int) - 1 by omega]) (by omega) (by omega)
      have h7 := rsz_mul (((rn 0 : Int) : Rat) / (((rn 0 : Int) - 1 : Int) : Rat)) (((1 : Int) : Rat) / ((1 : Int) : Rat) - itm z n (rn 0) / cov (totZ z (rn 0)) (totZ z (rn 0)) n)
      omega
  · exact ⟨0, _, fun w' hN' h' => alpha_any a n cap ra rn rc z w' hN' h' 0 0 _ (fun w2 hN2 h2 => rel_no a n cap ra rn rc z w2 hN2 h2 _ rfl hc 0 rfl), .inr ⟨hc, rfl⟩, by have := rsz_zero; omega⟩
theorem quot_bd (A D C : Rat) (hA : 0 < A) (hD : 0 < D) (h : C * C ≤ A * D) : 0 ≤ C * C / (A * D) ∧ C * C / (A * D) ≤ 1 := by
  have hp := Rat.mul_pos hA hD
  have hi := Rat.le_of_lt (Rat.inv_pos.2 hp)
  have hc : 0 ≤ C * C := by
    rcases Rat.le_total (a := 0) (b := C) with h | h
    · exact Rat.mul_nonneg h h
    · have := Rat.mul_nonneg (a := -C) (b := -C) (by grind) (by grind); grind
  constructor
  · rw [Rat.div_def]; exact Rat.mul_nonneg hc hi
  · have h2 := Rat.mul_le_mul_of_nonneg_right h hi
    have e : A * D * (A * D)⁻¹ = 1 := Rat.mul_inv_cancel _ (by grind)
    rw [Rat.div_def]; rw [e] at h2; exact h2
theorem sign_bd (i : Int) : -1 ≤ i.sign ∧ i.sign ≤ 1 := by
  rcases Int.lt_trichotomy i 0 with h | h | h
  · rw [Int.sign_eq_neg_one_of_neg h]; omega
  · rw [h]; decide
  · rw [Int.sign_eq_one_of_pos h]; omega
theorem corr_cases {N : Nat} (ax ay : Option Addr) (nx cx0 ny cy0 : Nat) (x y : Nat → Int) :
    ∃ (s : Int) (q : Rat) (e : Int), (∀ w', N ≤ w'.heap.size → Is w' ax nx cx0 x → Is w' ay ny cy0 y → Calls Tryd.prog 18 #[.slice ax nx cx0, .slice ay ny cy0] w' (CorPost N w' s q e)) ∧ (∀ w', N ≤ w'.heap.size → Is w' ay ny cy0 y → Is w' ax nx cx0 x → Calls Tryd.prog 18 #[.slice ay ny cy0, .slice ax nx cx0] w' (CorPost N w' s q e)) ∧
      0 ≤ q ∧ q ≤ 1 ∧ -1 ≤ s ∧ s ≤ 1 ∧ (s = 0 ↔ q = 0) ∧ rsz q ≤ 1000 := by
  have hz0 : rsz 0 ≤ 1000 := by have := rsz_zero; omega
  by_cases hc : chkC nx ny x y = 0
  · have hc2 : chkC ny nx y x = 0 := by rw [← chkC_comm]; exact hc
    obtain ⟨hxy, n0, n200, rx, ry⟩ := chkC_zero hc
    subst hxy
    by_cases hAB : cov x x nx * cov y y nx = 0
    · exact ⟨0, 0, 20, fun w' hN' h1 h2 => corr_zero ax ay nx cx0 nx cy0 x y w' hN' h1 h2 hc _ _ _ rfl rfl rfl hAB 0 rfl,
        fun w' hN' h1 h2 => corr_zero ay ax nx cy0 nx cx0 y x w' hN' h1 h2 hc2 _ _ _ rfl rfl rfl (by rw [Rat.mul_comm]; exact hAB) 0 rfl, Rat.le_refl, by decide, by decide, by decide, by simp, hz0⟩
    · have hA : 0 < cov x x nx := by
        have h1 := cov_self x nx n0
        have h2 : cov x x nx ≠ 0 := fun e => hAB (by rw [e]; grind)
        grind
      have hB : 0 < cov y y nx := by
        have h1 := cov_self y nx n0
        have h2 : cov y y nx ≠ 0 := fun e => hAB (by rw [e]; grind)
        grind
      have hq := quot_bd _ _ _ hA hB (cauchy x y nx n0 hA)
      have hs := sign_bd (cov x y nx).num
      refine ⟨_, _, 0, fun w' hN' h1 h2 => corr_ok ax ay nx cx0 nx cy0 x y w' hN' h1 h2 hc _ _ _ rfl rfl rfl hAB _ rfl _ rfl,
        fun w' hN' h1 h2 => corr_ok ay ax nx cy0 nx cx0 y x w' hN' h1 h2 hc2 _ _ (cov x y nx) rfl rfl (cov_comm y x nx) (by rw [Rat.mul_comm]; exact hAB) _ rfl _ (by rw [Rat.mul_comm (cov y y nx)]), hq.1, hq.2, hs.1, hs.2, ?_, ?_⟩
      · constructor
        · intro h
          have : (cov x y nx).num = 0 := Int.sign_eq_zero_iff_zero.1 h
          rw [Rat.num_eq_zero.1 this]; grind
        · intro h
          have h2 : cov x y nx * cov x y nx = 0 := by
            have e : cov x y nx * cov x y nx = cov x y nx * cov x y nx / (cov x x nx * cov y y nx) * (cov x x nx * cov y y nx) := by grind
            rw [e, h]; grind
          have h3 : cov x y nx = 0 := by rcases Rat.mul_eq_zero.1 h2 with h | h <;> exact h
          rw [h3]; rfl
      · have h1 := rsz_quot (cov x y nx * cov x y nx) (cov x x nx * cov y y nx)
        have h2 := rsz_mul (cov x y nx) (cov x y nx)
        have h3 := rsz_mul (cov x x nx) (cov y y nx)
        have h4 := rsz_cov rx.big ry.big n200
        have h5 := rsz_cov rx.big rx.big n200
        have h6 := rsz_cov ry.big ry.big n200
        omega
  · exact ⟨0, 0, _, fun w' hN' h1 h2 => corr_no ax ay nx cx0 ny cy0 x y w' hN' h1 h2 _ rfl hc 0 rfl,
      fun w' hN' h1 h2 => corr_no ay ax ny cy0 nx cx0 y x w' hN' h1 h2 _ (chkC_comm ny nx y x) hc 0 rfl, Rat.le_refl, by decide, by decide, by decide, by simp, hz0⟩
theorem corr_self {N : Nat} (ax : Option Addr) (nx cx0 : Nat) (x : Nat → Int) :
    ∃ (t : Int) (r : Rat) (g : Int), (∀ w', N ≤ w'.heap.size → Is w' ax nx cx0 x → Is w' ax nx cx0 x → Calls Tryd.prog 18 #[.slice ax nx cx0, .slice ax nx cx0] w' (CorPost N w' t r g)) ∧ (g = 0 → t = 1 ∧ r = 1) := by
  by_cases hc : chkC nx nx x x = 0
  · obtain ⟨_, n0, n200, rx, _⟩ := chkC_zero hc
    by_cases hAB : cov x x nx * cov x x nx = 0
    · exact ⟨0, 0, 20, fun w' hN' h1 h2 => corr_zero ax ax nx cx0 nx cx0 x x w' hN' h1 h2 hc _ _ _ rfl rfl rfl hAB 0 rfl, fun h => by cases h⟩
    · have hA : 0 < cov x x nx := by
        have h1 := cov_self x nx n0
        have h2 : cov x x nx ≠ 0 := fun e => hAB (by rw [e]; grind)
        grind
      refine ⟨_, _, 0, fun w' hN' h1 h2 => corr_ok ax ax nx cx0 nx cx0 x x w' hN' h1 h2 hc _ _ _ rfl rfl rfl hAB _ rfl _ rfl, fun _ => ⟨?_, by grind⟩⟩
      have i1 : 0 ≤ (cov x x nx).num := Rat.num_nonneg.2 (Rat.le_of_lt hA)
      have i2 : (cov x x nx).num ≠ 0 := fun e => by have := Rat.num_eq_zero.1 e; grind
      exact Int.sign_eq_one_of_pos (by omega)
  · exact ⟨0, 0, _, fun w' hN' h1 h2 => corr_no ax ax nx cx0 nx cx0 x x w' hN' h1 h2 _ rfl hc 0 rfl, fun h => absurd h hc⟩
theorem alp_all (a : Option Addr) (n cap : Nat) (ra : Nat → Option Addr) (rn rc : Nat → Nat) (z : Nat → Nat → Int) (ax ay : Option Addr) (nx cx0 ny cy0 : Nat) (x y : Nat → Int) (w : World) (h : Rw w a n cap ra rn rc z) (hx : Is w ax nx cx0 x) (hy : Is w ay ny cy0 y) (htab : TabW w) :
    Calls Tryd.prog 4 #[.slice a n cap, .slice ax nx cx0, .slice ay ny cy0] w fun e w' => e = .returned (.bool true) ∧ Below w.heap.size w w' := by
  obtain ⟨p2, c, h1, h2, h3⟩ := alpha_cases (N := w.heap.size) a n cap ra rn rc z
  obtain ⟨s, q, e, g1, g2, g3, g4, g5, g6, g7, g8⟩ := corr_cases (N := w.heap.size) ax ay nx cx0 ny cy0 x y
  obtain ⟨t, r, g, k1, k2⟩ := corr_self (N := w.heap.size) ax nx cx0 x
  exact alp_walk (N := w.heap.size) a n cap ra rn rc z ax ay nx cx0 ny cy0 x y w (Nat.le_refl _) h hx hy htab p2 c h1 h2 h3 s q e g1 g2 g3 g4 g5 g6 g7 g8 t r g k1 k2

set_option maxRecDepth 100000 in
theorem classicalAlpha_lifted (os : Os) (started : os.Started) (H : Type) (enc : TypeId × Value → H) :
    ReturnsInHanded {} Tryd.checked os 4 .any (fun w args => (Rows.classicalAlphaSpec.pre enc Tryd.prog Tryd.f4 [] false w args ∧ laidMetH Tryd.prog laid3 w) ∧ sizedMet enc Tryd.prog Tryd.f4 (OpenSpec.ofChange Rows.classicalAlphaSpec) false w args) (Rows.classicalAlphaSpec.post enc Tryd.prog Tryd.f4 false true false false) := by
  refine returnsInHanded_of_change_and (C := Tryd.checked) (X := fun w _ => laidMetH Tryd.prog laid3 w) (fun _ _ _ hh h => h.of_heap hh) Tryd.own started (by kernel_rfl) Tryd.func4
    (ChangeSpec.witness_shaped (enc := enc) (C := Tryd.checked) (os := os) (X := fun w _ => laidMetH Tryd.prog laid3 w) false (World.doorLaid Tryd.prog 24 os) #[.slice none 0 0, .slice none 0 0, .slice none 0 0] 8 rfl (World.shaped_of_RefB (by kernel_rfl) (by kernel_rfl)) (by kernel_rfl) (by kernel_rfl) (by kernel_rfl) (door_met os _)) ?_
  intro W base args ds gs before hval0 hW _ _ hL _
  have hval : ∀ (j : Nat) t v, Tryd.f4.params[j]? = some t → args[j]? = some v → Value.okWide Tryd.prog W .any base t v := hval0
  have hW' := hW
  obtain ⟨p, q, hA0, hV, rfl, hfz, hnd⟩ := hW
  have hA : DataW.TrodAll enc Tryd.prog W 0 (fun _ => true) true Tryd.f4.params.toList args.toList ds p := hA0
  rw [Tryd.params4] at hA hval
  obtain ⟨v0, vs0, x0, ds0, p0, q0, hargs, rfl, rfl, h0, r0⟩ := trodAll_cons hA
  obtain ⟨v1, vs1, x1, ds1, p1, q1, rfl, rfl, rfl, h1, r1⟩ := trodAll_cons r0
  obtain ⟨v2, vs2, x2, ds2, p2, q2, rfl, rfl, rfl, h2, r2⟩ := trodAll_cons r1
  obtain ⟨rfl, rfl, rfl⟩ := trodAll_nil r2
  obtain rfl : args = #[v0, v1, v2] := by cases args; simp_all
  obtain ⟨rfl, rfl⟩ := trodVars_none hV
  have k0 := h0
  have lt0 : ∀ x ∈ p0, x.block < W.heap.size := by obtain ⟨m, hm⟩ := k0; exact DataW.trod_lt m _ _ _ hm
  obtain ⟨a0, n0, c0, rfl⟩ := okWide_slice Tryd.underlying37 (hval 0 37 v0 rfl rfl); obtain ⟨ra0, rn0, rc0, z0, hr0⟩ := open_rows h0
  have k1 := h1
  have lt1 : ∀ x ∈ p1, x.block < W.heap.size := by obtain ⟨m, hm⟩ := k1; exact DataW.trod_lt m _ _ _ hm
  obtain ⟨a1, n1, c1, rfl⟩ := okWide_slice Tryd.underlying22 (hval 1 22 v1 rfl rfl); obtain ⟨z1, hz1⟩ := open_ints1 h1
  have k2 := h2
  have lt2 : ∀ x ∈ p2, x.block < W.heap.size := by obtain ⟨m, hm⟩ := k2; exact DataW.trod_lt m _ _ _ hm
  obtain ⟨a2, n2, c2, rfl⟩ := okWide_slice Tryd.underlying22 (hval 2 22 v2 rfl rfl); obtain ⟨z2, hz2⟩ := open_ints1 h2
  clear hA0 hval0
  have htab := tabW_of hL
  refine (alp_all a0 n0 c0 ra0 rn0 rc0 z0 a1 a2 n1 c1 n2 c2 z1 z2 W hr0 hz1 hz2 htab).mono fun e W' ⟨he, bel⟩ => ?_
  subst he
  exact ⟨_, rfl, _, _, _, [], _, [], hW', trodAll_mk1 (shut_bool Tryd.underlying4 _), (trodAll_cons_mk (Below.trod Tryd.laidOut (by kernel_rfl) (of_decide_eq_true (by kernel_rfl)) k0 bel lt0) (trodAll_cons_mk (Below.trod Tryd.laidOut (by kernel_rfl) (of_decide_eq_true (by kernel_rfl)) k1 bel lt1) (trodAll_cons_mk (Below.trod Tryd.laidOut (by kernel_rfl) (of_decide_eq_true (by kernel_rfl)) k2 bel lt2) trodAll_mk0))), rfl, bel.frame _, fun h => by cases h⟩

theorem classicalAlpha_said : Rows.ClassicalAlphaSaid :=
  OpenClaim.holds_of_wide 4 Tryd.f4 rfl rfl rfl rfl rfl rfl rfl ⟨rfl, rfl, rfl, rfl, rfl⟩ rfl rfl rfl rfl rfl (by kernel_rfl) Tryd.func4 (by kernel_rfl)
    (of_decide_eq_true (by kernel_rfl)) (by unfold Func.isWrapper; first | (rw [if_pos (by decide +kernel)]; kernel_rfl) | (rw [if_neg (by decide +kernel)]; exact ⟨rfl, rfl⟩))
    (fun os started H enc _ => classicalAlpha_lifted os started H enc)
theorem classicalAlpha_plain (f : FuncId) (fn : Func) (hf : Tryd.pinned.checked.prog.funcNamed "examboard/examboardlaw25.ClassicalAlpha" = some f) (hfn : Tryd.pinned.checked.prog.funcs[f]? = some fn) :
    false = Tryd.pinned.checked.prog.looks [] ∧ ∀ (j : Nat) t, fn.params[j]? = some t → Tryd.pinned.checked.prog.wantsStandIn t = false := by
  obtain rfl : f = 4 := Option.some.inj ((show Tryd.prog.funcNamed "examboard/examboardlaw25.ClassicalAlpha" = some 4 by kernel_rfl).symm.trans hf) |>.symm
  obtain rfl : fn = Tryd.f4 := (Option.some.inj (Tryd.func4.symm.trans hfn)).symm
  refine ⟨by kernel_rfl, fun j t ht => ?_⟩
  rw [Tryd.params4] at ht
  have hm := Array.mem_of_getElem? ht
  simp only [List.mem_toArray, List.mem_cons, List.not_mem_nil, or_false] at hm
  rcases hm with rfl | rfl | rfl <;> (show Tryd.prog.wantsStandIn _ = false) <;> kernel_rfl
theorem classicalAlpha_card : Rows.ClassicalAlphaCardSaid :=
  Claim7.holds_tied_plain_at .later [] _ _ _ _ classicalAlpha_said (fun _ h => by cases h) (by kernel_rfl) (fun _ h => by cases h) classicalAlpha_row_tie rfl ⟨rfl, rfl⟩ (by kernel_rfl) rfl classicalAlpha_plain (by kernel_rfl)
#print axioms classicalAlpha_card

end Go.Proofs.YtbjgnpgachdlaaaDoor
