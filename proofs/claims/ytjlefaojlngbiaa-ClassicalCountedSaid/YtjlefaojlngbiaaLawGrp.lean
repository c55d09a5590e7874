/- ClassicalGroups returns true for every input: the counts of the options by groups are those of the reference. No condition. -/
import Derived.Test.YtjlefaojlngbiaaGrpD
import Derived.Test.YtjlefaojlngbiaaRows
import Derived.ProofKit
import Derived.OpenShut
import Derived.Carry
import Derived.Deep.Slices
import Derived.Lib.SmallJoins
namespace Go.Proofs.Ytjlefaojlngbiaa
open Go.RowKit Go.ChangeShapes Go.WideShapes Go.ChangeAt Go.Deep

theorem gC_zero {no nt : Nat} {tot : Nat → Int} {n most : Int} (h : gC no nt tot n most = 0) : 1 ≤ n ∧ n ≤ 5 ∧ 1 ≤ most ∧ most ≤ 10 ∧ no = nt ∧ 0 < no ∧ no ≤ 200 ∧ inRb tot nt = true := by
  unfold gC at h
  by_cases a1 : n < 1 ∨ 5 < n ∨ most < 1 ∨ 10 < most
  · rw [if_pos a1] at h; omega
  rw [if_neg a1] at h
  by_cases a2 : 200 < no ∨ 200 < nt
  · rw [if_pos a2] at h; omega
  rw [if_neg a2] at h
  by_cases a3 : inRb tot nt = false
  · rw [if_pos a3] at h; omega
  rw [if_neg a3] at h
  by_cases a4 : no ≠ nt
  · rw [if_pos a4] at h; omega
  rw [if_neg a4] at h
  by_cases a5 : no = 0
  · rw [if_pos a5] at h; omega
  refine ⟨by omega, by omega, by omega, by omega, by omega, by omega, by omega, ?_⟩
  simpa using a3

set_option maxHeartbeats 8000000 in
set_option maxRecDepth 100000 in
theorem groups_walk (a b : Option Addr) (no co nt ct : Nat) (opt tot : Nat → Int) (n most : Int) (w : World) (hA : Is w a no co opt) (hB : Is w b nt ct tot) :
    Calls Try.prog 3 #[.slice a no co, .slice b nt ct, .int .i64 n, .int .i64 most] w fun e w' => e = .returned (.bool true) ∧ Below w.heap.size w w' := by
  have HM1 := Lib.hid (many_any a no co opt w hA)
  have HM2 := Lib.hid (many_any b nt ct tot w hB)
  have HA := Lib.hid hA
  have HB := Lib.hid hB
  clear hA hB
  by_cases m1 : 40 < no ∧ no ≤ 200
  · rw [decide_eq_true m1] at HM1
    clear m1
    go_enter Try.func3, Try.ntmps3
    go_wp2_with (go_at_call 5; with_reducible refine HM1.out.mono ?_; rintro e w1 ⟨rfl, rfl⟩)
    go_ret
    exact ⟨rfl, Below.refl _ _⟩
  rw [decide_eq_false m1] at HM1
  by_cases m2 : 40 < nt ∧ nt ≤ 200
  · rw [decide_eq_true m2] at HM2
    clear m1 m2
    go_enter Try.func3, Try.ntmps3
    go_wp2_with (first | (go_at_call 5; with_reducible refine HM1.out.mono ?_; rintro e w1 ⟨rfl, rfl⟩) | (go_at_call 5; with_reducible refine HM2.out.mono ?_; rintro e w1 ⟨rfl, rfl⟩))
    go_ret
    exact ⟨rfl, Below.refl _ _⟩
  rw [decide_eq_false m2] at HM2
  by_cases hc : gC no nt tot n most = 0
  · obtain ⟨z1, z2, z3, z4, rfl, z6, z7, z8⟩ := gC_zero hc
    obtain ⟨n, rfl⟩ : ∃ k : Nat, n = (k : Int) := ⟨n.toNat, by omega⟩
    obtain ⟨most, rfl⟩ : ∃ k : Nat, most = (k : Int) := ⟨most.toNat, by omega⟩
    have h40 : no ≤ 40 := by omega
    have G := Lib.hid (groups_ok a b no co ct n most opt tot w HA.out HB.out z8 z6 (by omega) (by omega) (by omega) (by omega) (by omega))
    have X := Lib.hid (fun w' hb => xgroups_ok a b no co ct n most opt tot w' (HA.out.below hb) (HB.out.below hb) z8 z6 (by omega) (by omega) (by omega) (by omega) (by omega))
    have hn5 : n ≤ 5 := by omega
    have hm10 : most ≤ 10 := by omega
    clear hc m1 m2 z1 z2 z3 z4 z6 z7 z8 h40
    have mixed : Try.prog.follows Departure.mixedOrders = true := by kernel_rfl
    go_enter Try.func3, Try.ntmps3
    go_wp2_with (first | (go_at_call 5; with_reducible refine HM1.out.mono ?_; rintro e w1 ⟨rfl, rfl⟩) | (go_at_call 5; with_reducible refine HM2.out.mono ?_; rintro e w1 ⟨rfl, rfl⟩))
    refine G.out.mono ?_
    rintro e w1 ⟨p, rfl, htb, hb⟩
    have T1 := Lib.hid htb
    have BL1 := Lib.hid hb
    clear htb hb G
    go_wp2_with fail
    refine (X.out w1 BL1.out).mono ?_
    rintro e w2 ⟨p2, cap, rfl, htb, hb⟩
    have T2 := Lib.hid htb
    have BL2 := Lib.hid (BL1.out.trans (hb.mono BL1.out.size))
    have T3 := Lib.hid (T1.out.below hb)
    clear htb hb X T1 BL1 HM1 HM2
    go_wp2_with fail
    go_loopw [13, 14] (fun i _ wr => ∃ g : Nat, g ≤ n ∧ i = .int .i64 g ∧ Below w2.heap.size w2 wr) (fun i _ _ => n - (intOf i).toNat)
    case atStart => exact ⟨0, Nat.zero_le _, rfl, Below.refl _ _⟩
    case round =>
      obtain ⟨g, hg, rfl, hbel⟩ := hrel
      have HW := Lib.hid hbel
      clear hbel
      by_cases hgn : g < n
      · have hgz : (g : Int) < (n : Int) := by omega
        have A := Lib.hid (T3.out.below HW.out)
        have C := Lib.hid (T2.out.below HW.out)
        obtain ⟨tb, rb, rfl, hA⟩ := A.out.2.2 (by omega)
        obtain ⟨tc, rc, rfl, hC⟩ := C.out.2.2 (by omega)
        have a1 := (hA g hgn).1
        have a2 := (hC g hgn).1
        have FA := Lib.hid (hA g hgn).2
        have FC := Lib.hid (hC g hgn).2
        have cp := C.out.1
        clear hA hC A C
        go_wp2_with fail
        go_big_region_o
        have HW1 := Lib.hid (show Below w2.heap.size w2 wr.drew from HW.out.drew)
        have b1 : wr.drew.cell? ⟨tb, g, none⟩ = some (.slice (some ⟨rb g, 0, none⟩) most most) := a1
        have b2 : wr.drew.cell? ⟨tc, g, none⟩ = some (.slice (some ⟨rc g, 0, none⟩) most most) := a2
        have GA : Hid (∀ o, o < most → wr.drew.cell? ⟨rb g, o, none⟩ = some (.int .i64 (cG tot opt no n g o : Nat))) := Lib.hid (fun o ho => FA.out o ho)
        have GC : Hid (∀ o, o < most → wr.drew.cell? ⟨rc g, o, none⟩ = some (.int .i64 (cG tot opt no n g o : Nat))) := Lib.hid (fun o ho => FC.out o ho)
        clear a1 a2 FA FC HW
        generalize wr.drew = w4 at HW1 b1 b2 GA GC ⊢
        go_wp2_with fail
        go_loopw [14] (fun j wq => ∃ o : Nat, o ≤ most ∧ j = .int .i64 o ∧ Below w4.heap.size w4 wq) (fun j _ => most - (intOf j).toNat)
        case atStart => exact ⟨0, Nat.zero_le _, rfl, Below.refl _ _⟩
        case round =>
          obtain ⟨o, ho, rfl, hbel⟩ := hrel
          have HQ := Lib.hid hbel
          have c1 := cell_keep b1 hbel
          have c2 := cell_keep b2 hbel
          clear hbel
          by_cases hom : o < most
          · have hoz : (o : Int) < (most : Int) := by omega
            have c3 := cell_keep (GA.out o hom) HQ.out
            have c4 := cell_keep (GC.out o hom) HQ.out
            obtain ⟨q, eq⟩ : ∃ q, cG tot opt no n g o = q := ⟨_, rfl⟩
            rw [eq] at c3 c4
            clear eq
            go_wp2_with fail
            go_big_region_o
            have HQ1 := Lib.hid (show Below w4.heap.size w4 wr.drew from HQ.out.drew)
            clear c1 c2 c3 c4 HQ
            generalize wr.drew = w5 at HQ1 ⊢
            go_wp2_with fail
            go_roundw
            case rel => exact ⟨o + 1, by omega, by go_num, HQ1.out⟩
            case measure => (first | (simp [intOf]; done) | (simp [intOf]; omega))
          · have hoz : ¬ (o : Int) < (most : Int) := by omega
            have HQ1 := Lib.hid (HW1.out.trans (HQ.out.mono HW1.out.size))
            go_wp2_with fail
            go_roundw
            case rel => exact ⟨g + 1, by omega, by go_num, HQ1.out⟩
            case measure => (first | (simp [intOf]; done) | (simp [intOf]; omega))
      · have hgz : ¬ (g : Int) < (n : Int) := by omega
        go_wp2_with fail
        go_ret
        exact ⟨rfl, BL2.out.trans (HW.out.mono BL2.out.size)⟩
  · have G := Lib.hid (groups_bad a b no co nt ct opt tot n most w HA.out HB.out hc)
    have X := Lib.hid (fun w' hb => xgroups_bad a b no co nt ct opt tot n most w' (HA.out.below hb) (HB.out.below hb) hc)
    obtain ⟨c, ec⟩ : ∃ c, gC no nt tot n most = c := ⟨_, rfl⟩
    rw [ec] at G X
    clear ec hc m1 m2
    go_enter Try.func3, Try.ntmps3
    go_wp2_with (first | (go_at_call 5; with_reducible refine HM1.out.mono ?_; rintro e w1 ⟨rfl, rfl⟩) | (go_at_call 5; with_reducible refine HM2.out.mono ?_; rintro e w1 ⟨rfl, rfl⟩))
    refine G.out.mono ?_
    rintro e w1 ⟨rfl, hb⟩
    have BL1 := Lib.hid hb
    clear hb G
    go_wp2_with fail
    refine (X.out w1 BL1.out).mono ?_
    rintro e w2 ⟨rfl, hb⟩
    have BL2 := Lib.hid (BL1.out.trans (hb.mono BL1.out.size))
    clear hb X BL1 HM1 HM2
    go_wp2_with fail
    refine wp_loop_rounds 1 ?_
    rw [rounds_succ]
    go_wp2_with fail
    go_ret
    exact ⟨rfl, BL2.out⟩

theorem Try.own : ownKnob Try.prog.godebug = none := by kernel_rfl
theorem Try.laidOut : laidOutB Try.prog = true := by kernel_rfl
theorem Try.cellsInts : Try.prog.cellsOf 22 = 1 := by kernel_rfl
theorem Try.cellsI : Try.prog.cellsOf 3 = 1 := by kernel_rfl
section
variable {H : Type} {enc : TypeId × Value → H} {W : World} {fuel : Nat}
theorem add_none (b off i : Nat) : (⟨b, off, none⟩ : Addr).add i = ⟨b, off + i, none⟩ := by
  unfold Addr.add; split <;> simp_all
theorem open_ints1 {a : Option Addr} {n cap : Nat} {d : DataW H} {p : List MemPlace} (h : DataW.Trod enc Try.prog W 0 (fun _ => true) true 22 (.slice a n cap) d p) : ∃ z, Is W a n cap z := by
  obtain ⟨fuel, hf⟩ := h
  have hf2 : DataW.trod enc Try.prog W 0 (fun _ => true) true fuel 22 [.slice a n cap] = some (d, p) := by simpa [Value.cells] using hf
  rcases open_ints Try.underlying22 Try.underlying3 Try.cellsI hf2 with ⟨hcs, _⟩ | ⟨a', len, cap', zs, hcs, _, hl, hm, hzl, _, hcell, hwf⟩
  · simp at hcs
    obtain ⟨rfl, rfl, rfl⟩ := hcs
    exact ⟨fun _ => 0, Nat.le_refl _, Nat.zero_le _, fun h => by omega⟩
  · simp at hcs hzl
    obtain ⟨rfl, rfl, rfl⟩ := hcs
    refine ⟨fun i => zs.getD i 0, hl, hm, fun hn => ?_⟩
    obtain ⟨b, off, spot⟩ := a'
    have hspot : spot = none := by simpa [Addr.add] using World.cell?_spot (hcell 0 (by omega))
    subst hspot
    refine ⟨b, off, rfl, fun i hi => ?_⟩
    have h1 := hcell i (by omega)
    rw [add_none] at h1
    exact h1
end

set_option maxRecDepth 100000 in
theorem classicalGroups_lifted (os : Os) (started : os.Started) (H : Type) (enc : TypeId × Value → H) :
    ReturnsInHanded {} Try.checked os 3 .any (Rows.classicalGroupsSpec.pre6 enc Try.prog Try.f3 Rows.classicalGroupsRow.domain false) (Rows.classicalGroupsSpec.post enc Try.prog Try.f3 false true false false) := by
  refine returnsInHanded_of_change (C := Try.checked) Try.own started (by kernel_rfl) Try.func3
    (ChangeSpec.witness6 (enc := enc) (C := Try.checked) false ⟨#[], #[.slice none 0 0, .slice none 0 0, .int .i64 0, .int .i64 0], []⟩ 8 (by kernel_rfl) (by kernel_rfl) (by kernel_rfl) (by kernel_rfl)) ?_
  intro W base args ds gs before hval0 hW hcnd _
  have hval : ∀ (j : Nat) t v, Try.f3.params[j]? = some t → args[j]? = some v → Value.okWide Try.prog W .any base t v := hval0
  have hW' := hW
  obtain ⟨p, q, hA0, hV, rfl, hfz, hnd⟩ := hW
  have hA : DataW.TrodAll enc Try.prog W 0 (fun _ => true) true Try.f3.params.toList args.toList ds p := hA0
  rw [Try.params3] at hA hval
  obtain ⟨v0, vs0, x0, ds0, p0, q0, hargs, rfl, rfl, h0, r0⟩ := trodAll_cons hA
  obtain ⟨v1, vs1, x1, ds1, p1, q1, rfl, rfl, rfl, h1, r1⟩ := trodAll_cons r0
  obtain ⟨v2, vs2, x2, ds2, p2, q2, rfl, rfl, rfl, h2, r2⟩ := trodAll_cons r1
  obtain ⟨v3, vs3, x3, ds3, p3, q3, rfl, rfl, rfl, h3, r3⟩ := trodAll_cons r2
  obtain ⟨rfl, rfl, rfl⟩ := trodAll_nil r3
  obtain rfl : args = #[v0, v1, v2, v3] := by cases args; simp_all
  obtain ⟨rfl, rfl⟩ := trodVars_none hV
  have k0 := h0
  have lt0 : ∀ x ∈ p0, x.block < W.heap.size := by obtain ⟨m, hm⟩ := k0; exact DataW.trod_lt m _ _ _ hm
  obtain ⟨a0, n0, c0, rfl⟩ := okWide_slice Try.underlying22 (hval 0 22 v0 rfl rfl); obtain ⟨z0, hz0⟩ := open_ints1 h0
  have k1 := h1
  have lt1 : ∀ x ∈ p1, x.block < W.heap.size := by obtain ⟨m, hm⟩ := k1; exact DataW.trod_lt m _ _ _ hm
  obtain ⟨a1, n1, c1, rfl⟩ := okWide_slice Try.underlying22 (hval 1 22 v1 rfl rfl); obtain ⟨z1, hz1⟩ := open_ints1 h1
  obtain ⟨a2, rfl, rfl, rfl, w2⟩ := open_int Try.underlying3 (hval 2 3 v2 rfl rfl) h2
  obtain ⟨a3, rfl, rfl, rfl, w3⟩ := open_int Try.underlying3 (hval 3 3 v3 rfl rfl) h3
  clear hA0 hval0
  refine (groups_walk a0 a1 n0 c0 n1 c1 z0 z1 a2 a3 W hz0 hz1).mono fun e W' ⟨he, bel⟩ => ?_
  subst he
  exact ⟨_, rfl, _, _, _, [], _, [], hW', trodAll_mk1 (shut_bool Try.underlying4 _), (trodAll_cons_mk (Below.trod Try.laidOut (by kernel_rfl) (of_decide_eq_true (by kernel_rfl)) k0 bel lt0) (trodAll_cons_mk (Below.trod Try.laidOut (by kernel_rfl) (of_decide_eq_true (by kernel_rfl)) k1 bel lt1) (trodAll_cons_mk (shut_int Try.underlying3 w2) (trodAll_cons_mk (shut_int Try.underlying3 w3) trodAll_mk0)))), rfl, bel.frame _, fun h => by cases h⟩

theorem classicalGroups_holds : Rows.ClassicalGroupsSaid :=
  OpenClaim.holds_of_wide 3 Try.f3 rfl rfl rfl rfl rfl rfl rfl ⟨rfl, rfl, rfl, rfl, rfl⟩ rfl rfl rfl rfl rfl (by kernel_rfl) Try.func3 (by kernel_rfl)
    (of_decide_eq_true (by kernel_rfl)) (by unfold Func.isWrapper; first | (rw [if_pos (by decide +kernel)]; kernel_rfl) | (rw [if_neg (by decide +kernel)]; exact ⟨rfl, rfl⟩))
    (fun os started H enc _ => classicalGroups_lifted os started H enc)
#print axioms classicalGroups_holds

end Go.Proofs.Ytjlefaojlngbiaa
