/- FitPattern returns true for every input, the three tables lying as the program's text lays them (tied). -/
import Derived.Test.YtjobopafcgnljaaDoorLawFP
import Derived.Test.YtjobopafcgnljaaDoorTstA
import Derived.Test.YtjobopafcgnljaaDoorFrO
import Derived.Test.YtjobopafcgnljaaDoorCards
import Derived.Test.YtjobopafcgnljaaDoorTie
import Derived.ProofKit
import Derived.LaidMore
import Derived.OpenShut
import Derived.Stop.Joined
import Derived.Lib.LaidTab
import Derived.SevenTiedAt
import Derived.Deep.DeepHandedRow
import Derived.Deep.Grids
namespace Go.Proofs.YtjobopafcgnljaaDoor
open Go.RowKit Go.ChangeShapes Go.WideShapes Go.ChangeAt Go.Deep

theorem Tryd.gTab : Tryd.prog.globalNamed "internal/strconv.uint64pow10" = some 0 := by kernel_rfl
theorem Tryd.gTabType : (Tryd.prog.globals[0]?).map (·.type) = some 101 := by kernel_rfl
theorem Tryd.cellsTab : Tryd.prog.cellsOf 101 = 20 := by kernel_rfl
theorem Tryd.cellsU64 : Tryd.prog.cellsOf 53 = 1 := by kernel_rfl
theorem pow_data : (Rows.laid_internal_strconv_uint64pow10 : DataW Unit) = Lib.tabData .u64 Lib.pow10Tab := by kernel_rfl
def laid3 : List (String × DataW Unit) := [("math/bits.deBruijn32tab", Rows.laid_math_bits_deBruijn32tab), ("math/bits.deBruijn64tab", Rows.laid_math_bits_deBruijn64tab), ("internal/strconv.uint64pow10", Rows.laid_internal_strconv_uint64pow10)]
/-- what the row's list gives: the table of powers of ten -/
theorem tabW_of {W : World} (h : laidMetH Tryd.prog laid3 W) : TabW W := by
  rw [MakeChecks.laidMetH_plain _ _ _ (by kernel_rfl)] at h
  obtain ⟨ps, ⟨g0, t0, cs0, f0, p0, q0, hg0, ht0, hv0, hd0, ⟨g1, t1, cs1, f1, p1, q1, hg1, ht1, hv1, hd1, ⟨g2, t2, cs2, f2, p2, q2, hg2, ht2, hv2, hd2, _, _⟩, _⟩, _⟩, _, _⟩ := h
  obtain rfl := Option.some.inj (Tryd.gTab.symm.trans hg2)
  obtain rfl := Option.some.inj (Tryd.gTabType.symm.trans ht2)
  unfold TabW Lib.TabIs
  rw [pow_data] at hd2
  rw [hv2, ← Lib.cells_of_tab Tryd.underlying101 Tryd.underlying53 Tryd.cellsU64 Tryd.cellsTab hd2]
/-- the door's own heap meets the condition -/
theorem door_met (os : Os) (args : Array Value) : laidMetH Tryd.prog laid3 ((World.doorLaid Tryd.prog 24 os).forCall (fun _ _ => 0) ⟨#[], args, []⟩).memory :=
  laidMetH_of_parts3 (fuel := 8) (laidMet_of_run' 8 (by kernel_rfl) (by kernel_rfl)) (by kernel_rfl) (by kernel_rfl)

theorem pat_heavy {N : Nat} (ax ay a : Option Addr) (m k n cx cy ca : Nat) (_x _y : Nat → Bool) (q : Nat → Rat) (ln ld : Nat → Nat) (w : World) (_hN : N ≤ w.heap.size) (h : Ru N w a n ca q ln ld) (h20 : n ≤ 20) (hh : ¬ (n ≤ 8 ∧ ∀ j, j < n → ln j ≤ 2 ∧ ld j ≤ 2)) :
    Calls Tryd.prog 3 #[.slice ax m cx, .slice ay k cy, .slice a n ca] w fun e w' => e = .returned (.bool true) ∧ Below w.heap.size w w' := by
  have HU := Lib.hid h
  have HH := Lib.hid hh
  have bc := h.1
  have bm := h.2.1
  unfold maxLen at bm
  clear h hh
  go_enter Tryd.func3, Tryd.ntmps3
  go_wp2_with fail
  refine (heavy_any (N := N) _ _ _ q ln ld _ HU.out).mono ?_
  rintro e w' ⟨b, rfl, rfl, hv⟩
  cases b
  case true =>
    go_wp2_with fail
    go_ret
    exact ⟨rfl, Below.refl _ _⟩
  case false => exact absurd (hv rfl h20) HH.out
theorem Ru.below {N : Nat} {w w' : World} {a : Option Addr} {n cap : Nat} {q : Nat → Rat} {ln ld : Nat → Nat} (h : Ru N w a n cap q ln ld) (hb : Below w.heap.size w w') : Ru N w' a n cap q ln ld := by
  obtain ⟨h0, hm, hc⟩ := h
  refine ⟨h0, hm, fun hn => ?_⟩
  obtain ⟨b, off, e, ho⟩ := hc hn
  refine ⟨b, off, e, fun i hi => ?_⟩
  obtain ⟨s, ra, rc, da, dc, mn, md, g0, g1, g2, n1, n2, hq⟩ := ho i hi
  exact ⟨s, ra, rc, da, dc, mn, md, cell_mono g0 hb, cell_mono g1 hb, cell_mono g2 hb, n1.below hb, n2.below hb, hq⟩
set_option maxHeartbeats 4000000 in
theorem pat_any {N : Nat} (ax ay a : Option Addr) (m k n cx cy ca : Nat) (x y : Nat → Bool) (q : Nat → Rat) (ln ld : Nat → Nat) (w : World) (hN : N ≤ w.heap.size) (h : Ru N w a n ca q ln ld) (hx : Sl w ax m cx (fun i => .bool (x i))) (hy : Sl w ay k cy (fun i => .bool (y i))) (htab : TabW w) :
    Calls Tryd.prog 3 #[.slice ax m cx, .slice ay k cy, .slice a n ca] w fun e w' => e = .returned (.bool true) ∧ Below w.heap.size w w' := by
  by_cases hmk : m = n ∧ k = n
  · obtain ⟨e1, e2⟩ := hmk
    subst m
    subst k
    by_cases h20 : n ≤ 20
    · by_cases hh : n ≤ 8 ∧ ∀ j, j < n → ln j ≤ 2 ∧ ld j ≤ 2
      · have HR : Rs N w a n ca q 2 := h.rs 2 (by omega) hh.2
        by_cases hc : chkF q n = 0
        · obtain ⟨_, hpr⟩ := chkF_ok hc
          have hn0 := nl_nonneg q n hpr
          have hs := nl_sum q n
          have hb : ∀ g, rsz (upQ (nlQ q n) (n * n / 4 + 1) g) ≤ 2000 := by
            intro g
            have h1 := up_rsz (nlQ q n) (n * n / 4 + 1) g (2 * n + 2) (nl_rsz q n 2 h20 hpr HR.lim)
            have h2 : n * n ≤ 8 * 8 := Nat.mul_le_mul hh.1 hh.1
            have h3 : (n * n / 4 + 1 - g) * (2 * n + 2 + 1) ≤ 17 * 19 := Nat.mul_le_mul (by omega) (by omega)
            omega
          have hq := erN_quarter x n
          have hq2 := erN_quarter y n
          refine pat_ok (N := N) ax ay a n cx cy ca x y q ln ld w hN h hx hy htab h20 (upQ (nlQ q n) (n * n / 4 + 1) (erN x n)) (upQ (nlQ q n) (n * n / 4 + 1) (erN y n)) ?_ ?_ ?_ ?_ ?_ ?_ (hb _) (hb _)
          · intro w2 hb2 hN2
            exact tst_ok (N := N) ax a cx n ca x q 2 w2 hN2 h20 (hx.below hb2) (HR.below hb2) (by omega) hc _ rfl
          · intro w2 hb2 hN2
            exact tst_ok (N := N) ay a cy n ca y q 2 w2 hN2 h20 (hy.below hb2) (HR.below hb2) (by omega) hc _ rfl
          · unfold upQ
            exact sQ_nonneg fun i _ => hn0 _
          · have h1 := up_mono (nlQ q n) (n * n / 4 + 1) hn0 0 (erN x n) (by omega)
            rw [up_all1, hs, Nat.zero_add] at h1
            exact h1
          · intro h0
            rw [h0, up_all1, hs]
          · intro hle
            have h1 := up_mono (nlQ q n) (n * n / 4 + 1) hn0 (erN y n) (erN x n - erN y n) (by omega)
            rw [show erN y n + (erN x n - erN y n) = erN x n by omega] at h1
            exact h1
        · refine pat_bad (N := N) ax ay a n cx cy ca x y q ln ld w hN h hx hy htab (chkF q n) hc ?_ ?_
          · intro w2 hb2 hN2
            exact tst_null (N := N) ax a n cx n ca x w2 hN2 h20 (hx.below hb2) (chkF q n) hc (fun w3 hb3 => null_bad (N := N) a n ca q 2 w3 (Nat.le_trans hN2 hb3.size) ((HR.below hb2).below hb3) (by omega) _ rfl hc) 0 rfl
          · intro w2 hb2 hN2
            exact tst_null (N := N) ay a n cy n ca y w2 hN2 h20 (hy.below hb2) (chkF q n) hc (fun w3 hb3 => null_bad (N := N) a n ca q 2 w3 (Nat.le_trans hN2 hb3.size) ((HR.below hb2).below hb3) (by omega) _ rfl hc) 0 rfl
      · exact pat_heavy (N := N) ax ay a n n n cx cy ca x y q ln ld w hN h h20 hh
    · have hlt : 20 < n := by omega
      have hm := Nat.le_trans hx.1 hx.2.1
      refine pat_bad (N := N) ax ay a n cx cy ca x y q ln ld w hN h hx hy htab 5 (by omega) ?_ ?_
      · intro w2 _ hN2
        exact tst_gut (N := N) ax a n cx n ca w2 hN2 hlt hm 0 rfl
      · intro w2 _ hN2
        exact tst_gut (N := N) ay a n cy n ca w2 hN2 hlt hm 0 rfl
  · exact pat_len (N := N) ax ay a m k n cx cy ca x y q ln ld w hN h (Nat.le_trans hx.1 hx.2.1) (Nat.le_trans hy.1 hy.2.1) hmk
theorem open_boolS {H : Type} {enc : TypeId × Value → H} {W : World} {a : Option Addr} {l c : Nat} {d : DataW H} {p : List MemPlace}
    (h : DataW.Trod enc Tryd.prog W 0 (fun _ => true) true 22 (.slice a l c) d p) : ∃ z : Nat → Bool, Sl W a l c (fun i => .bool (z i)) := by
  obtain ⟨fuel, hf⟩ := h
  rcases open_bools Tryd.underlying22 Tryd.underlying4 (by kernel_rfl) hf with ⟨hcs, _⟩ | ⟨x, l', c', zs, hcs, _, hl, hm, _, hcell⟩
  · simp [Value.cells] at hcs
    obtain ⟨rfl, rfl, rfl⟩ := hcs
    exact ⟨fun _ => false, Nat.le_refl _, Nat.zero_le _, fun h => by omega⟩
  · simp [Value.cells] at hcs
    obtain ⟨rfl, rfl, rfl⟩ := hcs
    refine ⟨zs, hl, hm, fun hp => ?_⟩
    obtain ⟨b, off, spot⟩ := x
    have hc := hcell 0 (by omega)
    have hspot : spot = none := by simpa [Addr.add] using World.cell?_spot hc
    subst hspot
    refine ⟨b, off, rfl, fun i hi => ?_⟩
    have := hcell i (by omega)
    unfold Addr.add at this
    split at this
    · next e => subst e; exact this
    · exact this

set_option maxRecDepth 100000 in
theorem fitPattern_lifted (os : Os) (started : os.Started) (H : Type) (enc : TypeId × Value → H) :
    ReturnsInHanded {} Tryd.checked os 3 .any (fun w args => (Rows.fitPatternSpec.pre enc Tryd.prog Tryd.f3 [] false w args ∧ laidMetH Tryd.prog laid3 w) ∧ sizedMet enc Tryd.prog Tryd.f3 (OpenSpec.ofChange Rows.fitPatternSpec) false w args) (Rows.fitPatternSpec.post enc Tryd.prog Tryd.f3 false true false false) := by
  refine returnsInHanded_of_change_and (C := Tryd.checked) (X := fun w _ => laidMetH Tryd.prog laid3 w) (fun _ _ _ hh h => h.of_heap hh) Tryd.own started (by kernel_rfl) Tryd.func3
    (ChangeSpec.witness_shaped (enc := enc) (C := Tryd.checked) (os := os) (X := fun w _ => laidMetH Tryd.prog laid3 w) false (World.doorLaid Tryd.prog 24 os) #[.slice none 0 0, .slice none 0 0, .slice none 0 0] 8 rfl (World.shaped_of_RefB (by kernel_rfl) (by kernel_rfl)) (by kernel_rfl) (by kernel_rfl) (by kernel_rfl) (door_met os _)) ?_
  intro W base args ds gs before hval0 hW _ _ hL _
  have hval : ∀ (j : Nat) t v, Tryd.f3.params[j]? = some t → args[j]? = some v → Value.okWide Tryd.prog W .any base t v := hval0
  have hW' := hW
  obtain ⟨p, q, hA0, hV, rfl, hfz, hnd⟩ := hW
  have hA : DataW.TrodAll enc Tryd.prog W 0 (fun _ => true) true Tryd.f3.params.toList args.toList ds p := hA0
  rw [Tryd.params3] at hA hval
  obtain ⟨v0, vs0, x0, ds0, p0, q0, hargs, rfl, rfl, h0, r0⟩ := trodAll_cons hA
  obtain ⟨v1, vs1, x1, ds1, p1, q1, rfl, rfl, rfl, h1, r1⟩ := trodAll_cons r0
  obtain ⟨v2, vs2, x2, ds2, p2, q2, rfl, rfl, rfl, h2, r2⟩ := trodAll_cons r1
  obtain ⟨rfl, rfl, rfl⟩ := trodAll_nil r2
  obtain rfl : args = #[v0, v1, v2] := by cases args; simp_all
  obtain ⟨rfl, rfl⟩ := trodVars_none hV
  have k0 := h0
  have lt0 : ∀ x ∈ p0, x.block < W.heap.size := by obtain ⟨m, hm⟩ := k0; exact DataW.trod_lt m _ _ _ hm
  obtain ⟨a0, n0, c0, rfl⟩ := okWide_slice Tryd.underlying22 (hval 0 22 v0 rfl rfl); obtain ⟨x0', hr0⟩ := open_boolS h0
  have k1 := h1
  have lt1 : ∀ x ∈ p1, x.block < W.heap.size := by obtain ⟨m, hm⟩ := k1; exact DataW.trod_lt m _ _ _ hm
  obtain ⟨a1, n1, c1, rfl⟩ := okWide_slice Tryd.underlying22 (hval 1 22 v1 rfl rfl); obtain ⟨x1', hr1⟩ := open_boolS h1
  have k2 := h2
  have lt2 : ∀ x ∈ p2, x.block < W.heap.size := by obtain ⟨m, hm⟩ := k2; exact DataW.trod_lt m _ _ _ hm
  obtain ⟨a2, n2, c2, rfl⟩ := okWide_slice Tryd.underlying23 (hval 2 23 v2 rfl rfl); obtain ⟨q2', ln2, ld2, hr2⟩ := open_ru h2
  clear hA0 hval0
  have htab := tabW_of hL
  refine (pat_any (N := W.heap.size) a0 a1 a2 n0 n1 n2 c0 c1 c2 x0' x1' q2' ln2 ld2 W (Nat.le_refl _) hr2 hr0 hr1 htab).mono fun e W' ⟨he, bel⟩ => ?_
  subst he
  exact ⟨_, rfl, _, _, _, [], _, [], hW', trodAll_mk1 (shut_bool Tryd.underlying4 _), (trodAll_cons_mk (Below.trod Tryd.laidOut (by kernel_rfl) (of_decide_eq_true (by kernel_rfl)) k0 bel lt0) (trodAll_cons_mk (Below.trod Tryd.laidOut (by kernel_rfl) (of_decide_eq_true (by kernel_rfl)) k1 bel lt1) (trodAll_cons_mk (Below.trod Tryd.laidOut (by kernel_rfl) (of_decide_eq_true (by kernel_rfl)) k2 bel lt2) trodAll_mk0))), rfl, bel.frame _, fun h => by cases h⟩

theorem fitPattern_said : Rows.FitPatternSaid :=
  OpenClaim.holds_of_wide 3 Tryd.f3 rfl rfl rfl rfl rfl rfl rfl ⟨rfl, rfl, rfl, rfl, rfl⟩ rfl rfl rfl rfl rfl (by kernel_rfl) Tryd.func3 (by kernel_rfl)
    (of_decide_eq_true (by kernel_rfl)) (by unfold Func.isWrapper; first | (rw [if_pos (by decide +kernel)]; kernel_rfl) | (rw [if_neg (by decide +kernel)]; exact ⟨rfl, rfl⟩))
    (fun os started H enc _ => fitPattern_lifted os started H enc)
theorem fitPattern_plain (f : FuncId) (fn : Func) (hf : Tryd.pinned.checked.prog.funcNamed "examboard/examboardlaw31.FitPattern" = some f) (hfn : Tryd.pinned.checked.prog.funcs[f]? = some fn) :
    false = Tryd.pinned.checked.prog.looks [] ∧ ∀ (j : Nat) t, fn.params[j]? = some t → Tryd.pinned.checked.prog.wantsStandIn t = false := by
  obtain rfl : f = 3 := Option.some.inj ((show Tryd.prog.funcNamed "examboard/examboardlaw31.FitPattern" = some 3 by kernel_rfl).symm.trans hf) |>.symm
  obtain rfl : fn = Tryd.f3 := (Option.some.inj (Tryd.func3.symm.trans hfn)).symm
  refine ⟨by kernel_rfl, fun j t ht => ?_⟩
  rw [Tryd.params3] at ht
  have hm := Array.mem_of_getElem? ht
  simp only [List.mem_toArray, List.mem_cons, List.not_mem_nil, or_false] at hm
  rcases hm with rfl | rfl | rfl <;> (show Tryd.prog.wantsStandIn _ = false) <;> kernel_rfl
theorem fitPattern_card : Rows.FitPatternCardSaid :=
  Claim7.holds_tied_plain_at .later [] _ _ _ _ fitPattern_said (fun _ h => by cases h) (by kernel_rfl) (fun _ h => by cases h) fitPattern_row_tie rfl ⟨rfl, rfl⟩ (by kernel_rfl) rfl fitPattern_plain (by kernel_rfl)
#print axioms fitPattern_card

end Go.Proofs.YtjobopafcgnljaaDoor
