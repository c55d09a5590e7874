import Derived.Test.YtnillajhhimeiaaGreatDoorLawDT
import Derived.Test.YtnillajhhimeiaaGreatDoorFrD
import Derived.Test.YtnillajhhimeiaaGreatDoorCards
import Derived.Test.YtnillajhhimeiaaGreatDoorTie
import Derived.ProofKit
import Derived.LaidMore
import Derived.OpenShut
import Derived.Stop.Joined
import Derived.Lib.LaidTab
import Derived.SevenTiedAt
import Derived.Deep.DeepHandedRow
namespace Go.Proofs.YtnillajhhimeiaaGreatDoor
open Go.RowKit Go.ChangeShapes Go.WideShapes Go.ChangeAt Go.Deep
theorem Tryz.gTab : Tryz.prog.globalNamed "internal/strconv.uint64pow10" = some 0 := by kernel_rfl
theorem Tryz.gTabType : (Tryz.prog.globals[0]?).map (·.type) = some 140 := by kernel_rfl
theorem Tryz.cellsTab : Tryz.prog.cellsOf 140 = 20 := by kernel_rfl
theorem Tryz.cellsU64 : Tryz.prog.cellsOf 89 = 1 := by kernel_rfl
theorem pow_data : (Rows.laid_internal_strconv_uint64pow10 : DataW Unit) = Lib.tabData .u64 Lib.pow10Tab := by kernel_rfl
def laid3 : List (String × DataW Unit) := [("math/bits.deBruijn32tab",Rows.laid_math_bits_deBruijn32tab),("math/bits.deBruijn64tab",Rows.laid_math_bits_deBruijn64tab),("internal/strconv.uint64pow10",Rows.laid_internal_strconv_uint64pow10)]
theorem tabW_of {W : World} (h : laidMetH Tryz.prog laid3 W) : TabW W := by
  rw [MakeChecks.laidMetH_plain _ _ _ (by kernel_rfl)] at h
  obtain ⟨ps,⟨g0,t0,cs0,f0,p0,q0,hg0,ht0,hv0,hd0,⟨g1,t1,cs1,f1,p1,q1,hg1,ht1,hv1,hd1,⟨g2,t2,cs2,f2,p2,q2,hg2,ht2,hv2,hd2,_,_⟩,_⟩,_⟩,_,_⟩ := h
  obtain rfl := Option.some.inj (Tryz.gTab.symm.trans hg2)
  obtain rfl := Option.some.inj (Tryz.gTabType.symm.trans ht2)
  unfold TabW Lib.TabIs
  rw [pow_data] at hd2
  rw [hv2,← Lib.cells_of_tab Tryz.underlying140 Tryz.underlying89 Tryz.cellsU64 Tryz.cellsTab hd2]
theorem door_met (os : Os) (args : Array Value) : laidMetH Tryz.prog laid3 ((World.doorLaid Tryz.prog 24 os).forCall (fun _ _ => 0) ⟨#[],args,[]⟩).memory :=
  laidMetH_of_parts3 (fuel := 8) (laidMet_of_run' 8 (by kernel_rfl) (by kernel_rfl)) (by kernel_rfl) (by kernel_rfl)
theorem dtst_any (a b c d x y : Int) (w : World) (htab : TabW w) :
    Calls Tryz.prog 3 #[.agg #[.int .i64 a,.int .i64 b,.int .i64 c,.int .i64 d],.int .i64 x,.int .i64 y] w fun e w' => e = .returned (.bool true) ∧ Below w.heap.size w w' := by
  have hw := Nat.le_refl w.heap.size
  rcases Bool.eq_false_or_eq_true (vldT a b c d) with hv | hv
  · obtain ⟨h0,h1,h2,h3⟩ := vldT_iff.1 hv
    obtain ⟨a,rfl⟩ : ∃ k : Nat,a = (k : Int) := ⟨a.toNat,by omega⟩
    obtain ⟨b,rfl⟩ : ∃ k : Nat,b = (k : Int) := ⟨b.toNat,by omega⟩
    obtain ⟨c,rfl⟩ : ∃ k : Nat,c = (k : Int) := ⟨c.toNat,by omega⟩
    obtain ⟨d,rfl⟩ : ∃ k : Nat,d = (k : Int) := ⟨d.toNat,by omega⟩
    by_cases hs : x < 0 ∨ 60 < x ∨ y < 0 ∨ 60 < y
    · exact dtst_yn (N := w.heap.size) a b c d (by omega) (by omega) (by omega) (by omega) x y hs w hw htab
    · obtain ⟨x,rfl⟩ : ∃ k : Nat,x = (k : Int) := ⟨x.toNat,by omega⟩
      obtain ⟨y,rfl⟩ : ∃ k : Nat,y = (k : Int) := ⟨y.toNat,by omega⟩
      exact dtst_yy (N := w.heap.size) a b c d (by omega) (by omega) (by omega) (by omega) x y (by omega) (by omega) w hw htab
  · by_cases hs : x < 0 ∨ 60 < x ∨ y < 0 ∨ 60 < y
    · exact dtst_nn (N := w.heap.size) a b c d hv x y hs w hw htab
    · obtain ⟨x,rfl⟩ : ∃ k : Nat,x = (k : Int) := ⟨x.toNat,by omega⟩
      obtain ⟨y,rfl⟩ : ∃ k : Nat,y = (k : Int) := ⟨y.toNat,by omega⟩
      exact dtst_ny (N := w.heap.size) a b c d hv x y (by omega) (by omega) w hw htab
set_option maxRecDepth 100000 in
theorem driftTests_lifted (os : Os) (started : os.Started) (H : Type) (enc : TypeId × Value → H) :
    ReturnsInHanded {} Tryz.checked os 3 .any (fun w args => (Rows.driftTestsSpec.pre enc Tryz.prog Tryz.f3 [] false w args ∧ laidMetH Tryz.prog laid3 w) ∧ sizedMet enc Tryz.prog Tryz.f3 (OpenSpec.ofChange Rows.driftTestsSpec) false w args) (Rows.driftTestsSpec.post enc Tryz.prog Tryz.f3 false true false false) := by
  refine returnsInHanded_of_change_and (C := Tryz.checked) (X := fun w _ => laidMetH Tryz.prog laid3 w) (fun _ _ _ hh h => h.of_heap hh) Tryz.own started (by kernel_rfl) Tryz.func3
    (ChangeSpec.witness_shaped (enc := enc) (C := Tryz.checked) (os := os) (X := fun w _ => laidMetH Tryz.prog laid3 w) false (World.doorLaid Tryz.prog 24 os) #[.agg #[.int .i64 0,.int .i64 0,.int .i64 0,.int .i64 0],.int .i64 0,.int .i64 0] 8 rfl (World.shaped_of_RefB (by kernel_rfl) (by kernel_rfl)) (by kernel_rfl) (by kernel_rfl) (by kernel_rfl) (door_met os _)) ?_
  intro W base args ds gs before hval0 hW _ _ hL _
  have hval : ∀ (j : Nat) t v,Tryz.f3.params[j]? = some t → args[j]? = some v → Value.okWide Tryz.prog W .any base t v := hval0
  have hW' := hW
  obtain ⟨p,q,hA0,hV,rfl,hfz,hnd⟩ := hW
  have hA : DataW.TrodAll enc Tryz.prog W 0 (fun _ => true) true Tryz.f3.params.toList args.toList ds p := hA0
  rw [Tryz.params3] at hA hval
  obtain ⟨v0,vs0,x0,ds0,p0,q0,hargs,rfl,rfl,h0,r0⟩ := trodAll_cons hA
  obtain ⟨v1,vs1,x1,ds1,p1,q1,rfl,rfl,rfl,h1,r1⟩ := trodAll_cons r0
  obtain ⟨v2,vs2,x2,ds2,p2,q2,rfl,rfl,rfl,h2,r2⟩ := trodAll_cons r1
  obtain ⟨rfl,rfl,rfl⟩ := trodAll_nil r2
  obtain rfl : args = #[v0,v1,v2] := by cases args;simp_all
  obtain ⟨rfl,rfl⟩ := trodVars_none hV
  have k0 := h0
  have lt0 : ∀ x ∈ p0,x.block < W.heap.size := by obtain ⟨m,hm⟩ := k0;exact DataW.trod_lt m _ _ _ hm
  obtain ⟨a0,b0,c0,d0,rfl⟩ := open_table (hval 0 23 v0 rfl rfl) h0
  obtain ⟨a1,rfl,rfl,rfl,w1⟩ := open_int Tryz.underlying3 (hval 1 3 v1 rfl rfl) h1
  obtain ⟨a2,rfl,rfl,rfl,w2⟩ := open_int Tryz.underlying3 (hval 2 3 v2 rfl rfl) h2
  clear hA0 hval0
  have htab := tabW_of hL
  refine (dtst_any a0 b0 c0 d0 a1 a2 W htab).mono fun e W' ⟨he,bel⟩ => ?_
  subst he
  exact ⟨_,rfl,_,_,_,[],_,[],hW',trodAll_mk1 (shut_bool Tryz.underlying4 _),(trodAll_cons_mk (Below.trod Tryz.laidOut (by kernel_rfl) (of_decide_eq_true (by kernel_rfl)) k0 bel lt0) (trodAll_cons_mk (shut_int Tryz.underlying3 w1) (trodAll_cons_mk (shut_int Tryz.underlying3 w2) trodAll_mk0))),rfl,bel.frame _,fun h => by cases h⟩
theorem driftTests_said : Rows.DriftTestsSaid :=
  OpenClaim.holds_of_wide 3 Tryz.f3 rfl rfl rfl rfl rfl rfl rfl ⟨rfl,rfl,rfl,rfl,rfl⟩ rfl rfl rfl rfl rfl (by kernel_rfl) Tryz.func3 (by kernel_rfl)
    (of_decide_eq_true (by kernel_rfl)) (by unfold Func.isWrapper;first | (rw [if_pos (by decide +kernel)];kernel_rfl) | (rw [if_neg (by decide +kernel)];exact ⟨rfl,rfl⟩))
    (fun os started H enc _ => driftTests_lifted os started H enc)
theorem driftTests_plain (f : FuncId) (fn : Func) (hf : Tryz.pinned.checked.prog.funcNamed "examboard/examboardlaw29.DriftTests" = some f) (hfn : Tryz.pinned.checked.prog.funcs[f]? = some fn) :
    false = Tryz.pinned.checked.prog.looks [] ∧ ∀ (j : Nat) t,fn.params[j]? = some t → Tryz.pinned.checked.prog.wantsStandIn t = false := by
  obtain rfl : f = 3 := Option.some.inj ((show Tryz.prog.funcNamed "examboard/examboardlaw29.DriftTests" = some 3 by kernel_rfl).symm.trans hf) |>.symm
  obtain rfl : fn = Tryz.f3 := (Option.some.inj (Tryz.func3.symm.trans hfn)).symm
  refine ⟨by kernel_rfl,fun j t ht => ?_⟩
  rw [Tryz.params3] at ht
  have hm := Array.mem_of_getElem? ht
  simp only [List.mem_toArray,List.mem_cons,List.not_mem_nil,or_false] at hm
  rcases hm with rfl | rfl | rfl <;> (show Tryz.prog.wantsStandIn _ = false) <;> kernel_rfl
theorem driftTests_card : Rows.DriftTestsCardSaid :=
  Claim7.holds_tied_plain_at .later [] _ _ _ _ driftTests_said (fun _ h => by cases h) (by kernel_rfl) (fun _ h => by cases h) driftTests_row_tie rfl ⟨rfl,rfl⟩ (by kernel_rfl) rfl driftTests_plain (by kernel_rfl)
#print axioms driftTests_card
end Go.Proofs.YtnillajhhimeiaaGreatDoor
