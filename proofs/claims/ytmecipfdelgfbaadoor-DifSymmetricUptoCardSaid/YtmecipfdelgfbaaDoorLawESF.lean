/- DifSymmetric returns true for every input of bulk at most 1048576, the three tables lying as the program's text lays them (tied). -/
import Derived.Test.YtmecipfdelgfbaaDoorLawES
import Derived.Test.YtmecipfdelgfbaaDoorFrW
import Derived.Test.YtmecipfdelgfbaaDoorCards
import Derived.Test.YtmecipfdelgfbaaDoorTie
import Derived.ProofKit
import Derived.LaidMore
import Derived.OpenShut
import Derived.Stop.Joined
import Derived.Lib.LaidTab
import Derived.SevenTiedAt
import Derived.Deep.DeepHandedRow
namespace Go.Proofs.YtmecipfdelgfbaaDoor
open Go.RowKit Go.ChangeShapes Go.WideShapes Go.ChangeAt Go.Deep

theorem Tryd.gTab : Tryd.prog.globalNamed "internal/strconv.uint64pow10" = some 0 := by kernel_rfl
theorem Tryd.gTabType : (Tryd.prog.globals[0]?).map (·.type) = some 139 := by kernel_rfl
theorem Tryd.cellsTab : Tryd.prog.cellsOf 139 = 20 := by kernel_rfl
theorem Tryd.cellsU64 : Tryd.prog.cellsOf 101 = 1 := by kernel_rfl
theorem pow_data : (Rows.laid_internal_strconv_uint64pow10 : DataW Unit) = Lib.tabData .u64 Lib.pow10Tab := by kernel_rfl
def laid3 : List (String × DataW Unit) := [("math/bits.deBruijn32tab", Rows.laid_math_bits_deBruijn32tab), ("math/bits.deBruijn64tab", Rows.laid_math_bits_deBruijn64tab), ("internal/strconv.uint64pow10", Rows.laid_internal_strconv_uint64pow10)]
/-- what the row's list gives: the table of powers of ten -/
theorem tabW_of {W : World} (h : laidMetH Tryd.prog laid3 W) : TabW W := by
  rw [MakeChecks.laidMetH_plain _ _ _ (by kernel_rfl)] at h
  obtain ⟨ps, ⟨g0, t0, cs0, f0, p0, q0, hg0, ht0, hv0, hd0, ⟨g1, t1, cs1, f1, p1, q1, hg1, ht1, hv1, hd1, ⟨g2, t2, cs2, f2, p2, q2, hg2, ht2, hv2, hd2, _, _⟩, _⟩, _⟩, _, _⟩ := h
  obtain rfl := Option.some.inj (Tryd.gTab.symm.trans hg2)
  obtain rfl := Option.some.inj (Tryd.gTabType.symm.trans ht2)
  unfold TabW Lib.TabIs
  rw [pow_data] at hd2
  rw [hv2, ← Lib.cells_of_tab Tryd.underlying139 Tryd.underlying101 Tryd.cellsU64 Tryd.cellsTab hd2]
/-- the door's own heap meets the condition -/
theorem door_met (os : Os) (args : Array Value) : laidMetH Tryd.prog laid3 ((World.doorLaid Tryd.prog 24 os).forCall (fun _ _ => 0) ⟨#[], args, []⟩).memory :=
  laidMetH_of_parts3 (fuel := 8) (laidMet_of_run' 8 (by kernel_rfl) (by kernel_rfl)) (by kernel_rfl) (by kernel_rfl)

theorem esym_any (a : Option Addr) (n cap : Nat) (t : Nat → Nat → Int) (s2 : Bool) (a2 d2 : Option Addr) (na2 ca2 nd2 cd2 : Nat) (al : Rat) (w : World) (h : Ts w a n cap t) (h2 : Rt w.heap.size w s2 a2 na2 ca2 d2 nd2 cd2 al 2097152) (htab : TabW w) :
    Calls Tryd.prog 3 #[.slice a n cap, .agg #[.bool s2, .slice a2 na2 ca2, .slice d2 nd2 cd2]] w fun e w' => e = .returned (.bool true) ∧ Below w.heap.size w w' :=
  difSym_walk (N := w.heap.size) a n cap t s2 a2 d2 na2 ca2 nd2 cd2 2097152 al w (Nat.le_refl _) h h2 (Nat.le_refl _) htab _ rfl

set_option maxRecDepth 100000 in
theorem difSymmetric_contract (H : Type) (enc : TypeId × Value → H) (W : World) (base : Nat) (args : Array Value) (ds gs : List (DataW H)) (before : List MemPlace)
    (hval0 : ∀ (j : Nat) t v, Tryd.f3.params[j]? = some t → args[j]? = some v → Value.okWide Tryd.prog W .any base t v)
    (hW : DataW.Whole enc Tryd.prog Tryd.f3.params.toList Rows.difSymmetricSpec.vars false W args.toList ds gs before) (hL : laidMetH Tryd.prog laid3 W) (hk : Rows.uptoSmall H (ds ++ gs) = true) :
    Calls Tryd.prog 3 args W fun e W' => ∃ v, e = .returned v ∧ Rows.difSymmetricSpec.post enc Tryd.prog Tryd.f3 false true false false W args v W' := by
  have hval : ∀ (j : Nat) t v, Tryd.f3.params[j]? = some t → args[j]? = some v → Value.okWide Tryd.prog W .any base t v := hval0
  have hW' := hW
  obtain ⟨p, q, hA0, hV, rfl, hfz, hnd⟩ := hW
  have hA : DataW.TrodAll enc Tryd.prog W 0 (fun _ => true) true Tryd.f3.params.toList args.toList ds p := hA0
  rw [Tryd.params3] at hA hval
  obtain ⟨v0, vs0, x0, ds0, p0, q0, hargs, rfl, rfl, h0, r0⟩ := trodAll_cons hA
  obtain ⟨v1, vs1, x1, ds1, p1, q1, rfl, rfl, rfl, h1, r1⟩ := trodAll_cons r0
  obtain ⟨rfl, rfl, rfl⟩ := trodAll_nil r1
  obtain rfl : args = #[v0, v1] := by cases args; simp_all
  obtain ⟨rfl, rfl⟩ := trodVars_none hV
  have hbulk := of_decide_eq_true hk
  simp only [List.append_nil, Rows.uptoBulkAll] at hbulk
  have k0 := h0
  have lt0 : ∀ x ∈ p0, x.block < W.heap.size := by obtain ⟨m, hm⟩ := k0; exact DataW.trod_lt m _ _ _ hm
  obtain ⟨a0, n0, c0, rfl⟩ := okWide_slice Tryd.underlying22 (hval 0 22 v0 rfl rfl)
  obtain ⟨t0, hr0⟩ := open_tables h0
  have k1 := h1
  have lt1 : ∀ x ∈ p1, x.block < W.heap.size := by obtain ⟨m, hm⟩ := k1; exact DataW.trod_lt m _ _ _ hm
  obtain ⟨s1, a1, n1, c1, d1, nd1, cd1, q1', rfl, hr1⟩ := open_ratb (hval 1 28 v1 rfl rfl) h1 (by omega)
  clear hA0 hval0
  have htab := tabW_of hL
  refine (esym_any a0 n0 c0 t0 s1 a1 d1 n1 c1 nd1 cd1 q1' W hr0 hr1 htab).mono fun e W' ⟨he, bel⟩ => ?_
  subst he
  exact ⟨_, rfl, _, _, _, [], _, [], hW', trodAll_mk1 (shut_bool Tryd.underlying4 _), (trodAll_cons_mk (Below.trod Tryd.laidOut (by kernel_rfl) (of_decide_eq_true (by kernel_rfl)) k0 bel lt0) (trodAll_cons_mk (Below.trod Tryd.laidOut (by kernel_rfl) (of_decide_eq_true (by kernel_rfl)) k1 bel lt1) trodAll_mk0)), rfl, bel.frame _, fun h => by cases h⟩

theorem difSymmetric_reads (os : Os) {H : Type} (enc : TypeId × Value → H) : ∃ places, DataW.whole enc Tryd.prog ((World.doorLaid Tryd.prog 24 os).forCall (fun _ _ => 0) ⟨#[], #[.slice none 0 0, .agg #[.bool false, .slice none 0 0, .slice none 0 0]], []⟩).memory Tryd.f3.params.toList Rows.difSymmetricSpec.vars false #[.slice none 0 0, .agg #[.bool false, .slice none 0 0, .slice none 0 0]].toList 8 = some ([.nil, .agg [.agg [.lit (.bool false), .nil], .nil]], [], places) :=
  ⟨[], by kernel_rfl⟩

set_option maxRecDepth 100000 in
theorem difSymmetric_liftedUpto (os : Os) (started : os.Started) (H : Type) (enc : TypeId × Value → H) (F : Stop.Interp) :
    ReturnsInHanded {} Tryd.checked os 3 .any ((Rows.OpenSpec.upto Rows.difSymmetricSpec).preRow enc Tryd.prog Tryd.f3 Rows.difSymmetricUptoRow.domain false Rows.difSymmetricUptoRow.laid) (((Rows.OpenSpec.upto Rows.difSymmetricSpec).at F).post enc Tryd.prog Tryd.f3 false true false false) := by
  obtain ⟨places, hx⟩ := difSymmetric_reads os enc
  refine returnsInHanded_of_row (C := Tryd.checked) (s := Rows.OpenSpec.upto Rows.difSymmetricSpec) Tryd.own started (by kernel_rfl) Tryd.func3
    (witness_row_at (enc := enc) (C := Tryd.checked) false (World.doorLaid Tryd.prog 24 os) #[.slice none 0 0, .agg #[.bool false, .slice none 0 0, .slice none 0 0]] rfl (by kernel_rfl) (by kernel_rfl) (by kernel_rfl) (OpenSpec.preRow_of_cond 8 hx (by kernel_rfl) (fun k hk => by cases hk; kernel_rfl) (by kernel_rfl) (door_met os _))) ?_
  intro W base args ds gs before hval hW _ hcond _ hL _ _
  exact difSymmetric_contract H enc W base args ds gs before hval hW hL (hcond _ rfl)

theorem difSymmetric_saidUpto : Rows.DifSymmetricUptoSaid :=
  OpenClaim.holds_of_cond 3 Tryd.f3 rfl rfl rfl rfl rfl rfl rfl ⟨rfl, rfl, rfl, rfl, rfl⟩ rfl rfl rfl rfl rfl (by kernel_rfl) Tryd.func3 (by kernel_rfl)
    (of_decide_eq_true (by kernel_rfl)) (by unfold Func.isWrapper; first | (rw [if_pos (by decide +kernel)]; kernel_rfl) | (rw [if_neg (by decide +kernel)]; exact ⟨rfl, rfl⟩))
    (fun os started H enc _ F => by rw [OpenClaim.pre_eq_preRow]; exact difSymmetric_liftedUpto os started H enc F)
theorem difSymmetric_plain (f : FuncId) (fn : Func) (hf : Tryd.pinned.checked.prog.funcNamed "examboard/examboardlaw30.DifSymmetric" = some f) (hfn : Tryd.pinned.checked.prog.funcs[f]? = some fn) :
    false = Tryd.pinned.checked.prog.looks [] ∧ ∀ (j : Nat) t, fn.params[j]? = some t → Tryd.pinned.checked.prog.wantsStandIn t = false := by
  obtain rfl : f = 3 := Option.some.inj ((show Tryd.prog.funcNamed "examboard/examboardlaw30.DifSymmetric" = some 3 by kernel_rfl).symm.trans hf) |>.symm
  obtain rfl : fn = Tryd.f3 := (Option.some.inj (Tryd.func3.symm.trans hfn)).symm
  refine ⟨by kernel_rfl, fun j t ht => ?_⟩
  rw [Tryd.params3] at ht
  have hm := Array.mem_of_getElem? ht
  simp only [List.mem_toArray, List.mem_cons, List.not_mem_nil, or_false] at hm
  rcases hm with rfl | rfl <;> (show Tryd.prog.wantsStandIn _ = false) <;> kernel_rfl
theorem difSymmetric_card : Rows.DifSymmetricUptoCardSaid :=
  Claim7.holds_tied_plain_at .later [] _ _ _ _ difSymmetric_saidUpto (fun _ h => by cases h) (by kernel_rfl) (fun _ h => by cases h) difSymmetricUpto_row_tie rfl ⟨rfl, rfl⟩ (by kernel_rfl) rfl difSymmetric_plain (by kernel_rfl)
#print axioms difSymmetric_card

end Go.Proofs.YtmecipfdelgfbaaDoor
