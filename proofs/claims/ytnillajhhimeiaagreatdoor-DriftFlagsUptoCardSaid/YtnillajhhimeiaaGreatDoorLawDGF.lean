import Derived.Test.YtnillajhhimeiaaGreatDoorLawDG
import Derived.Test.YtnillajhhimeiaaGreatDoorFrT
import Derived.Test.YtnillajhhimeiaaGreatDoorCards
import Derived.Test.YtnillajhhimeiaaGreatDoorTie
import Derived.ProofKit
import Derived.LaidMore
import Derived.OpenShut
import Derived.Stop.Joined
import Derived.Lib.LaidTab
import Derived.SevenTiedAt
import Derived.Deep.DeepHandedRow
namespace Go.Proofs.YtnillajhhimeiaaGreatDoor
open Go.RowKit Go.ChangeShapes Go.WideShapes Go.ChangeAt Go.Deep
theorem Tryz.gTab : Tryz.prog.globalNamed "internal/strconv.uint64pow10" = some 0 := by kernel_rfl
theorem Tryz.gTabType : (Tryz.prog.globals[0]?).map (·.type) = some 140 := by kernel_rfl
theorem Tryz.cellsTab : Tryz.prog.cellsOf 140 = 20 := by kernel_rfl
theorem Tryz.cellsU64 : Tryz.prog.cellsOf 89 = 1 := by kernel_rfl
theorem pow_data : (Rows.laid_internal_strconv_uint64pow10 : DataW Unit) = Lib.tabData .u64 Lib.pow10Tab := by kernel_rfl
def laid3 : List (String × DataW Unit) := [("math/bits.deBruijn32tab", Rows.laid_math_bits_deBruijn32tab), ("math/bits.deBruijn64tab", Rows.laid_math_bits_deBruijn64tab), ("internal/strconv.uint64pow10", Rows.laid_internal_strconv_uint64pow10)]
theorem tabW_of {W : World} (h : laidMetH Tryz.prog laid3 W) : TabW W := by
  rw [MakeChecks.laidMetH_plain _ _ _ (by kernel_rfl)] at h
  obtain ⟨ps, ⟨g0, t0, cs0, f0, p0, q0, hg0, ht0, hv0, hd0, ⟨g1, t1, cs1, f1, p1, q1, hg1, ht1, hv1, hd1, ⟨g2, t2, cs2, f2, p2, q2, hg2, ht2, hv2, hd2, _, _⟩, _⟩, _⟩, _, _⟩ := h
  obtain rfl := Option.some.inj (Tryz.gTab.symm.trans hg2)
  obtain rfl := Option.some.inj (Tryz.gTabType.symm.trans ht2)
  unfold TabW Lib.TabIs
  rw [pow_data] at hd2
  rw [hv2, ← Lib.cells_of_tab Tryz.underlying140 Tryz.underlying89 Tryz.cellsU64 Tryz.cellsTab hd2]
theorem door_met (os : Os) (args : Array Value) : laidMetH Tryz.prog laid3 ((World.doorLaid Tryz.prog 24 os).forCall (fun _ _ => 0) ⟨#[], args, []⟩).memory :=
  laidMetH_of_parts3 (fuel := 8) (laidMet_of_run' 8 (by kernel_rfl) (by kernel_rfl)) (by kernel_rfl) (by kernel_rfl)
theorem dflg_any (a : Option Addr) (n cap : Nat) (t : Nat → Nat → Int) (s2 : Bool) (a2 d2 : Option Addr) (na2 ca2 nd2 cd2 : Nat) (al : Rat) (w : World) (h : Ts w a n cap t) (h2 : Rt w.heap.size w s2 a2 na2 ca2 d2 nd2 cd2 al 2097152) (htab : TabW w) :
    Calls Tryz.prog 5 #[.slice a n cap, .agg #[.bool s2, .slice a2 na2 ca2, .slice d2 nd2 cd2]] w fun e w' => e = .returned (.bool true) ∧ Below w.heap.size w w' := by
  by_cases h0 : flgC t n al = 0
  · exact dflg_ok (N := w.heap.size) a n cap t s2 a2 d2 na2 ca2 nd2 cd2 2097152 al w (Nat.le_refl _) h h2 (Nat.le_refl _) htab h0
  · exact dflg_bad (N := w.heap.size) a n cap t s2 a2 d2 na2 ca2 nd2 cd2 2097152 al w (Nat.le_refl _) h h2 (Nat.le_refl _) htab _ rfl h0
set_option maxRecDepth 100000 in
theorem driftFlags_contract (H : Type) (enc : TypeId × Value → H) (W : World) (base : Nat) (args : Array Value) (ds gs : List (DataW H)) (before : List MemPlace)
    (hval0 : ∀ (j : Nat) t v, Tryz.f5.params[j]? = some t → args[j]? = some v → Value.okWide Tryz.prog W .any base t v)
    (hW : DataW.Whole enc Tryz.prog Tryz.f5.params.toList Rows.driftFlagsSpec.vars false W args.toList ds gs before) (hL : laidMetH Tryz.prog laid3 W) (hk : Rows.uptoSmall H (ds ++ gs) = true) :
    Calls Tryz.prog 5 args W fun e W' => ∃ v, e = .returned v ∧ Rows.driftFlagsSpec.post enc Tryz.prog Tryz.f5 false true false false W args v W' := by
  have hval : ∀ (j : Nat) t v, Tryz.f5.params[j]? = some t → args[j]? = some v → Value.okWide Tryz.prog W .any base t v := hval0
  have hW' := hW
  obtain ⟨p, q, hA0, hV, rfl, hfz, hnd⟩ := hW
  have hA : DataW.TrodAll enc Tryz.prog W 0 (fun _ => true) true Tryz.f5.params.toList args.toList ds p := hA0
  rw [Tryz.params5] at hA hval
  obtain ⟨v0, vs0, x0, ds0, p0, q0, hargs, rfl, rfl, h0, r0⟩ := trodAll_cons hA
  obtain ⟨v1, vs1, x1, ds1, p1, q1, rfl, rfl, rfl, h1, r1⟩ := trodAll_cons r0
  obtain ⟨rfl, rfl, rfl⟩ := trodAll_nil r1
  obtain rfl : args = #[v0, v1] := by cases args; simp_all
  obtain ⟨rfl, rfl⟩ := trodVars_none hV
  have hbulk := of_decide_eq_true hk
  simp only [List.append_nil, Rows.uptoBulkAll] at hbulk
  have k0 := h0
  have lt0 : ∀ x ∈ p0, x.block < W.heap.size := by obtain ⟨m, hm⟩ := k0; exact DataW.trod_lt m _ _ _ hm
  obtain ⟨a0, n0, c0, rfl⟩ := okWide_slice Tryz.underlying44 (hval 0 44 v0 rfl rfl)
  obtain ⟨t0, hr0⟩ := open_tables h0
  have k1 := h1
  have lt1 : ∀ x ∈ p1, x.block < W.heap.size := by obtain ⟨m, hm⟩ := k1; exact DataW.trod_lt m _ _ _ hm
  obtain ⟨s1, a1, n1, c1, d1, nd1, cd1, q1', rfl, hr1⟩ := open_ratb (hval 1 29 v1 rfl rfl) h1 (by omega)
  clear hA0 hval0
  have htab := tabW_of hL
  refine (dflg_any a0 n0 c0 t0 s1 a1 d1 n1 c1 nd1 cd1 q1' W hr0 hr1 htab).mono fun e W' ⟨he, bel⟩ => ?_
  subst he
  exact ⟨_, rfl, _, _, _, [], _, [], hW', trodAll_mk1 (shut_bool Tryz.underlying4 _), (trodAll_cons_mk (Below.trod Tryz.laidOut (by kernel_rfl) (of_decide_eq_true (by kernel_rfl)) k0 bel lt0) (trodAll_cons_mk (Below.trod Tryz.laidOut (by kernel_rfl) (of_decide_eq_true (by kernel_rfl)) k1 bel lt1) trodAll_mk0)), rfl, bel.frame _, fun h => by cases h⟩
theorem driftFlags_reads (os : Os) {H : Type} (enc : TypeId × Value → H) : ∃ places, DataW.whole enc Tryz.prog ((World.doorLaid Tryz.prog 24 os).forCall (fun _ _ => 0) ⟨#[], #[.slice none 0 0, .agg #[.bool false, .slice none 0 0, .slice none 0 0]], []⟩).memory Tryz.f5.params.toList Rows.driftFlagsSpec.vars false #[.slice none 0 0, .agg #[.bool false, .slice none 0 0, .slice none 0 0]].toList 8 = some ([.nil, .agg [.agg [.lit (.bool false), .nil], .nil]], [], places) :=
  ⟨[], by kernel_rfl⟩
set_option maxRecDepth 100000 in
theorem driftFlags_liftedUpto (os : Os) (started : os.Started) (H : Type) (enc : TypeId × Value → H) (F : Stop.Interp) :
    ReturnsInHanded {} Tryz.checked os 5 .any ((Rows.OpenSpec.upto Rows.driftFlagsSpec).preRow enc Tryz.prog Tryz.f5 Rows.driftFlagsUptoRow.domain false Rows.driftFlagsUptoRow.laid) (((Rows.OpenSpec.upto Rows.driftFlagsSpec).at F).post enc Tryz.prog Tryz.f5 false true false false) := by
  obtain ⟨places, hx⟩ := driftFlags_reads os enc
  refine returnsInHanded_of_row (C := Tryz.checked) (s := Rows.OpenSpec.upto Rows.driftFlagsSpec) Tryz.own started (by kernel_rfl) Tryz.func5
    (witness_row_at (enc := enc) (C := Tryz.checked) false (World.doorLaid Tryz.prog 24 os) #[.slice none 0 0, .agg #[.bool false, .slice none 0 0, .slice none 0 0]] rfl (by kernel_rfl) (by kernel_rfl) (by kernel_rfl) (OpenSpec.preRow_of_cond 8 hx (by kernel_rfl) (fun k hk => by cases hk; kernel_rfl) (by kernel_rfl) (door_met os _))) ?_
  intro W base args ds gs before hval hW _ hcond _ hL _ _
  exact driftFlags_contract H enc W base args ds gs before hval hW hL (hcond _ rfl)
theorem driftFlags_saidUpto : Rows.DriftFlagsUptoSaid :=
  OpenClaim.holds_of_cond 5 Tryz.f5 rfl rfl rfl rfl rfl rfl rfl ⟨rfl, rfl, rfl, rfl, rfl⟩ rfl rfl rfl rfl rfl (by kernel_rfl) Tryz.func5 (by kernel_rfl)
    (of_decide_eq_true (by kernel_rfl)) (by unfold Func.isWrapper; first | (rw [if_pos (by decide +kernel)]; kernel_rfl) | (rw [if_neg (by decide +kernel)]; exact ⟨rfl, rfl⟩))
    (fun os started H enc _ F => by rw [OpenClaim.pre_eq_preRow]; exact driftFlags_liftedUpto os started H enc F)
theorem driftFlags_plain (f : FuncId) (fn : Func) (hf : Tryz.pinned.checked.prog.funcNamed "examboard/examboardlaw29.DriftFlags" = some f) (hfn : Tryz.pinned.checked.prog.funcs[f]? = some fn) :
    false = Tryz.pinned.checked.prog.looks [] ∧ ∀ (j : Nat) t, fn.params[j]? = some t → Tryz.pinned.checked.prog.wantsStandIn t = false := by
  obtain rfl : f = 5 := Option.some.inj ((show Tryz.prog.funcNamed "examboard/examboardlaw29.DriftFlags" = some 5 by kernel_rfl).symm.trans hf) |>.symm
  obtain rfl : fn = Tryz.f5 := (Option.some.inj (Tryz.func5.symm.trans hfn)).symm
  refine ⟨by kernel_rfl, fun j t ht => ?_⟩
  rw [Tryz.params5] at ht
  have hm := Array.mem_of_getElem? ht
  simp only [List.mem_toArray, List.mem_cons, List.not_mem_nil, or_false] at hm
  rcases hm with rfl | rfl <;> (show Tryz.prog.wantsStandIn _ = false) <;> kernel_rfl
theorem driftFlags_card : Rows.DriftFlagsUptoCardSaid :=
  Claim7.holds_tied_plain_at .later [] _ _ _ _ driftFlags_saidUpto (fun _ h => by cases h) (by kernel_rfl) (fun _ h => by cases h) driftFlagsUpto_row_tie rfl ⟨rfl, rfl⟩ (by kernel_rfl) rfl driftFlags_plain (by kernel_rfl)
#print axioms driftFlags_card
end Go.Proofs.YtnillajhhimeiaaGreatDoor
