/- ClassicalLinear returns true for every input; no condition beyond what the row lists. -/
import Derived.Test.YtbjgnpgachdlaaaDoorClsG
import Derived.Test.YtbjgnpgachdlaaaDoorClsI
import Derived.Test.YtbjgnpgachdlaaaDoorPrC
import Derived.Test.YtbjgnpgachdlaaaDoorFr
import Derived.Deep.AppendLies
import Derived.Deep.RegionLaw
namespace Go.Proofs.YtbjgnpgachdlaaaDoor
open Go.RowKit Go.ChangeShapes Go.WideShapes Go.ChangeAt Go.Deep

set_option maxRecDepth 100000 in
set_option maxHeartbeats 4000000 in
theorem lin_out {N : Nat} (ax ay az : Option Addr) (nx cx0 ny cy0 nz cz0 : Nat) (x y z : Nat → Int) (c : Int) (w : World) (_hN : N ≤ w.heap.size) (hx : Is w ax nx cx0 x) (hy : Is w ay ny cy0 y) (hz : Is w az nz cz0 z) (hbad : nx < 1 ∨ 40 < nx ∨ ny ≠ nx ∨ nz ≠ nx ∨ c < -1000 ∨ 1000 < c) :
    Calls Tryd.prog 3 #[.slice ax nx cx0, .slice ay ny cy0, .slice az nz cz0, .int .i64 c] w fun e w' => e = .returned (.bool true) ∧ Below w.heap.size w w' := by
  have bx1 := hx.1
  have bx2 := hx.2.1
  have by1 := hy.1
  have by2 := hy.2.1
  have bz1 := hz.1
  have bz2 := hz.2.1
  unfold maxLen at bx2 by2 bz2
  clear hx hy hz
  by_cases h1 : nx < 1
  · have d1 : decide ((nx : Int) < 1) = true := by simp; omega
    clear hbad
    go_enter Tryd.func3, Tryd.ntmps3
    go_wp2_with fail
    go_ret
    exact ⟨rfl, Below.refl _ _⟩
  · have d1 : decide ((nx : Int) < 1) = false := by simp; omega
    by_cases h2 : 40 < nx
    · have d2 : decide (40 < (nx : Int)) = true := by simp; omega
      clear hbad
      go_enter Tryd.func3, Tryd.ntmps3
      go_wp2_with fail
      go_ret
      exact ⟨rfl, Below.refl _ _⟩
    · have d2 : decide (40 < (nx : Int)) = false := by simp; omega
      by_cases h3 : ny ≠ nx
      · have d3 : ((ny : Int) != (nx : Int)) = true := by simp; omega
        clear hbad
        go_enter Tryd.func3, Tryd.ntmps3
        go_wp2_with fail
        go_ret
        exact ⟨rfl, Below.refl _ _⟩
      · have d3 : ((ny : Int) != (nx : Int)) = false := by simp; omega
        by_cases h4 : nz ≠ nx
        · have d4 : ((nz : Int) != (nx : Int)) = true := by simp; omega
          clear hbad
          go_enter Tryd.func3, Tryd.ntmps3
          go_wp2_with fail
          go_ret
          exact ⟨rfl, Below.refl _ _⟩
        · have d4 : ((nz : Int) != (nx : Int)) = false := by simp; omega
          by_cases h5 : c < -1000
          · have d5 : decide (c < -1000) = true := by simpa using h5
            clear hbad
            go_enter Tryd.func3, Tryd.ntmps3
            go_wp2_with fail
            go_ret
            exact ⟨rfl, Below.refl _ _⟩
          · have d5 : decide (c < -1000) = false := by simpa using h5
            have d6 : decide (1000 < c) = true := by simp; omega
            clear hbad
            go_enter Tryd.func3, Tryd.ntmps3
            go_wp2_with fail
            go_ret
            exact ⟨rfl, Below.refl _ _⟩

set_option maxRecDepth 100000 in
set_option maxHeartbeats 16000000 in
theorem lin_main {N : Nat} (ax ay az : Option Addr) (n cx0 cy0 cz0 : Nat) (x y z : Nat → Int) (c : Int) (w : World) (hN : N ≤ w.heap.size) (hx : Is w ax n cx0 x) (hy : Is w ay n cy0 y) (hz : Is w az n cz0 z) (n0 : 0 < n) (n40 : n ≤ 40) (c1 : -1000 ≤ c) (c2 : c ≤ 1000) (htab : TabW w) :
    Calls Tryd.prog 3 #[.slice ax n cx0, .slice ay n cy0, .slice az n cz0, .int .i64 c] w fun e w' => e = .returned (.bool true) ∧ Below w.heap.size w w' := by
  obtain ⟨bx, ox, rfl, hcx⟩ := hx.2.2 n0
  obtain ⟨b_y, oy, rfl, hcy⟩ := hy.2.2 n0
  obtain ⟨bz, oz, rfl, hcz⟩ := hz.2.2 n0
  have HCx := Lib.hid hcx
  have HCy := Lib.hid hcy
  have HCz := Lib.hid hcz
  have bx1 := hx.1
  have bx2 := hx.2.1
  have by1 := hy.1
  have by2 := hy.2.1
  have bz1 := hz.1
  have bz2 := hz.2.1
  unfold maxLen at bx2 by2 bz2
  have HIX := Lib.hid hx
  have HIY := Lib.hid hy
  have HIZ := Lib.hid hz
  have HTab := Lib.hid htab
  clear hx hy hz hcx hcy hcz htab
  have d1 : decide ((n : Int) < 1) = false := by simp; omega
  have d2 : decide (40 < (n : Int)) = false := by simp; omega
  have d3 : ((n : Int) != (n : Int)) = false := by simp
  have d5 : decide (c < -1000) = false := by simp; omega
  have d6 : decide (1000 < c) = false := by simp; omega
  obtain ⟨i0, hi, hz0, hz1, hz2⟩ := info_parts Tryd.infoInt
  go_enter Tryd.func3, Tryd.ntmps3
  go_wp2_with fail
  go_loopw [10, 11, 12] (fun s m i wt => ∃ p : Nat, p ≤ n ∧ i = .int .i64 p ∧ wt.ownsRow w.heap.size 3 1 s p (ints (fun j => x j + y j) p) ∧ wt.ownsRow w.heap.size 3 1 m p (ints (fun j => x j + c) p) ∧ Apart s m ∧ Below w.heap.size w wt ∧ w.heap.size ≤ wt.heap.size ∧ Hid (∀ j, j < p → (-1000 ≤ x j ∧ x j ≤ 1000) ∧ (-1000 ≤ y j ∧ y j ≤ 1000) ∧ (-1000 ≤ z j ∧ z j ≤ 1000))) (fun _ _ i _ => n - (intOf i).toNat)
  case atStart => exact ⟨0, Nat.zero_le _, rfl, World.ownsRow_nil _ _ _ _, World.ownsRow_nil _ _ _ _, (fun k hk => by cases hk), Below.refl _ _, Nat.le_refl _, (fun j hj => by omega)⟩
  case round =>
    obtain ⟨p, hp, rfl, hos, hom, hap, hbt, hbz, hgd⟩ := hrel
    have HOS := Lib.hid hos
    have HOM := Lib.hid hom
    have HAP := Lib.hid hap
    have HBT := Lib.hid hbt
    clear hos hom hap hbt
    by_cases hpn : p < n
    · have HX := Lib.hid (HCx.out p hpn)
      have HY := Lib.hid (HCy.out p hpn)
      have HZ := Lib.hid (HCz.out p hpn)
      have kx := cell_mono HX.out HBT.out
      have ky := cell_mono HY.out HBT.out
      have kz := cell_mono HZ.out HBT.out
      by_cases q0 : x p < -1000
      · have d0 : decide (x p < -1000) = true := by simpa using q0
        go_wp2_with fail
        go_ret
        exact ⟨rfl, HBT.out⟩
      · have d0 : decide (x p < -1000) = false := by simpa using q0
        by_cases q1 : 1000 < x p
        · have d1 : decide (1000 < x p) = true := by simpa using q1
          go_wp2_with fail
          go_ret
          exact ⟨rfl, HBT.out⟩
        · have d1 : decide (1000 < x p) = false := by simpa using q1
          by_cases q2 : y p < -1000
          · have d2 : decide (y p < -1000) = true := by simpa using q2
            go_wp2_with fail
            go_ret
            exact ⟨rfl, HBT.out⟩
          · have d2 : decide (y p < -1000) = false := by simpa using q2
            by_cases q3 : 1000 < y p
            · have d3 : decide (1000 < y p) = true := by simpa using q3
              go_wp2_with fail
              go_ret
              exact ⟨rfl, HBT.out⟩
            · have d3 : decide (1000 < y p) = false := by simpa using q3
              by_cases q4 : z p < -1000
              · have d4 : decide (z p < -1000) = true := by simpa using q4
                go_wp2_with fail
                go_ret
                exact ⟨rfl, HBT.out⟩
              · have d4 : decide (z p < -1000) = false := by simpa using q4
                by_cases q5 : 1000 < z p
                · have d5 : decide (1000 < z p) = true := by simpa using q5
                  go_wp2_with fail
                  go_ret
                  exact ⟨rfl, HBT.out⟩
                · have d5 : decide (1000 < z p) = false := by simpa using q5
                  have hwr : IntKind.i64.wrap (x p + y p) = x p + y p := by rw [IntKind.wrap_i64]; omega
                  have HWR := Lib.hid hwr
                  clear hwr
                  go_wp2_with fail
                  go_region_law (refine step_append_lies _ rfl (.tmp 96) (.tmp 106) 22 rfl w.heap.size 3 i0 (.int .i64 0) 1 8 Tryd.underInts hi hz0 hz1 hz2 rfl (by decide) _ _ _ (by simp [Act.eval]) (HOS.out.drew.alloc _) ⟨wr.heap.size, 0, none⟩ 1 1 [.int .i64 (IntKind.i64.wrap (x p + y p))] (by simp [Act.eval]) rfl (by exact cell_one_new wr _ _) (by intro u hu; simp at hu; subst hu; rfl) (by decide) (by unfold maxLen; omega) (by omega) (by simp; omega) _ rfl ?_; intro g1 cp1 w1 hs1 hg1 hat1 _; rw [HWR.out] at hs1 hg1 hat1; have R1 := Lib.hid (own_step HOS.out HOM.out HAP.out HBT.out hbz hs1 (show (wr.alloc _).grownBy w1 _ from ⟨hg1.os, hg1.tape, hg1.output, hg1.size, hg1.block⟩) (by rcases hat1 with e | e; (· exact .inl e.symm); (· subst e; exact .inr rfl))); clear hs1 hg1 hat1)
                  all_goals
                    have hbz1 := R1.out.2.2.2.2
                    have kx1 := cell_mono HX.out R1.out.2.2.2.1
                    have HOM1 := Lib.hid R1.out.2.1
                    clear kx ky kz
                    go_wp2_with (at_builtin; refine wpList_append_own_at _ rfl (.tmp 108) (.tmp 115) 22 rfl w.heap.size 3 i0 (.int .i64 0) 1 8 Tryd.underInts hi hz0 hz1 hz2 rfl (by decide) _ _ _ rfl (HOM1.out.alloc _) ⟨w1.heap.size, 0, none⟩ 1 1 [.int .i64 (x p + c)] rfl rfl (cell_one_new _ _ _) (by intro u hu; simp at hu; subst hu; rfl) (by unfold maxLen; omega) (by omega) (by simp; omega) ?_; intro m2 w2 hm2 hg2 _ hat2; have R2 := Lib.hid (own_step R1.out.2.1 R1.out.1 R1.out.2.2.1.symm R1.out.2.2.2.1 R1.out.2.2.2.2 hm2 hg2 hat2); clear hm2 hg2 hat2)
                    go_roundw
                    case rel => exact ⟨p + 1, by omega, by go_num, by rw [ints_succ]; exact R2.out.2.1, by rw [ints_succ]; exact R2.out.1, R2.out.2.2.1.symm, R2.out.2.2.2.1, R2.out.2.2.2.2, (fun j hj => by by_cases e : j = p; (· subst e; omega); (· exact hgd.out j (by omega)))⟩
                    case measure => simp [intOf]; omega
    · obtain rfl : n = p := by omega
      obtain ⟨w3, rfl⟩ : ∃ w3 : World, w3 = wr := ⟨_, rfl⟩
      obtain ⟨as_, caps, rfl, his⟩ := Is.of_owns HOS.out
      obtain ⟨am, capm, rfl, him⟩ := Is.of_owns HOM.out
      have HS3 := Lib.hid his
      have HM3 := Lib.hid him
      have HX3 := Lib.hid (HIX.out.below HBT.out)
      have HY3 := Lib.hid (HIY.out.below HBT.out)
      have HZ3 := Lib.hid (HIZ.out.below HBT.out)
      have HT3 := Lib.hid (HTab.out.below HBT.out)
      clear his him HOS HOM HAP
      have rx := Lib.hid (show InR x n from fun i hi => by have := (hgd.out i hi).1; omega)
      have ry := Lib.hid (show InR y n from fun i hi => by have := (hgd.out i hi).2.1; omega)
      have rz := Lib.hid (show InR z n from fun i hi => by have := (hgd.out i hi).2.2; omega)
      have rs := Lib.hid (show InR (fun j => x j + y j) n from fun i hi => by have := hgd.out i hi; show _ ≤ x i + y i ∧ x i + y i ≤ _; omega)
      have rm := Lib.hid (show InR (fun j => x j + c) n from fun i hi => by have := hgd.out i hi; show _ ≤ x i + c ∧ x i + c ≤ _; omega)
      obtain ⟨pa, hpa⟩ : ∃ q, cov x z n = q := ⟨_, rfl⟩
      obtain ⟨pb, hpb⟩ : ∃ q, cov y z n = q := ⟨_, rfl⟩
      obtain ⟨pc, hpc⟩ : ∃ q, cov (fun j => x j + y j) z n = q := ⟨_, rfl⟩
      obtain ⟨pv, hpv⟩ : ∃ q, cov x x n = q := ⟨_, rfl⟩
      have HPd := Lib.hid (show cov z (fun j => x j + c) n = pa by rw [cov_comm, cov_shift x z c n n0, hpa])
      have HAdd := Lib.hid (show pa + pb = pc by rw [← hpa, ← hpb, ← hpc, cov_add])
      have hsg := sign_nonneg pv (by rw [← hpv]; exact cov_self x n n0)
      have hsg2 : decide ((0 : Rat) ≤ pv) = true := decide_eq_true (by rw [← hpv]; exact cov_self x n n0)
      have za := Lib.hid (show rsz pa ≤ 7 by rw [← hpa]; exact rsz_cov rx.out.big rz.out.big (by omega))
      have zb := Lib.hid (show rsz pb ≤ 7 by rw [← hpb]; exact rsz_cov ry.out.big rz.out.big (by omega))
      have zv := Lib.hid (show rsz pv ≤ 7 by rw [← hpv]; exact rsz_cov rx.out.big rx.out.big (by omega))
      have HPa := Lib.hid hpa
      have HPb := Lib.hid hpb
      have HPc := Lib.hid hpc
      have HPv := Lib.hid hpv
      clear hpa hpb hpc hpv hgd
      have hN0 : N ≤ w3.heap.size := by omega
      have hN1 := hN0
      clear hN
      have hN := hN1
      clear hN1
      have hs0 : w3.heap.size ≤ w3.heap.size := Nat.le_refl _
      have HB := Lib.hid (Below.refl w3.heap.size w3)
      go_wp2_with fail
      refine (Covariance_ok (N := N) _ _ _ _ _ x z _ hN (HX3.out.below HB.out) (HZ3.out.below HB.out) rx.out rz.out n0 (by omega) pa HPa.out).mono ?_
      rintro e wA ⟨ra, ca, ra2, ca2, rfl, hn, hn', hb⟩
      have hN_wA : N ≤ wA.heap.size := Nat.le_trans hN hb.size
      have hs_wA : w3.heap.size ≤ wA.heap.size := hb.size
      have hs0_wA : w3.heap.size ≤ wA.heap.size := Nat.le_trans hs0 hb.size
      have HB_wA := Lib.hid (HB.out.trans (hb.mono hs0))
      clear hb
      clear HB hN hs0
      have hN := hN_wA
      have HB := HB_wA
      have hs0 := hs0_wA
      clear hN_wA HB_wA hs0_wA
      have HA1 := Lib.hid hn
      clear hn
      have HA2 := Lib.hid hn'
      clear hn'
      go_wp2_with fail
      refine calls_name fun WA hW => ?_
      have hN_WA : N ≤ WA.heap.size := by rw [← hW]; (first | omega | (simp; done) | (simp; omega))
      have hs_WA : wA.heap.size ≤ WA.heap.size := by rw [← hW]; (first | omega | (simp; done) | (simp; omega))
      have hs0_WA : w3.heap.size ≤ WA.heap.size := by rw [← hW]; (first | omega | (simp; done) | (simp; omega))
      have hl_A_WA : wA.heap.size < WA.heap.size := by rw [← hW]; (first | omega | (simp; done) | (simp; omega))
      have k_A_0_WA : WA.cell? ⟨wA.heap.size, 0, none⟩ = some (.bool (decide ((pa).num < 0))) := by rw [← hW]; (first | (go_simp; done) | (simp; done) | (simp [go_sem]; done) | (simp [go_sem]; done))
      have k_A_1_WA : WA.cell? ⟨wA.heap.size, 1, none⟩ = some (.slice ra (nlen (pa).num.natAbs) ca) := by rw [← hW]; (first | (go_simp; done) | (simp; done) | (simp [go_sem]; done) | (simp [go_sem]; done))
      have k_A_2_WA : WA.cell? ⟨wA.heap.size, 2, none⟩ = some (.slice ra2 (nlen (pa).den) ca2) := by rw [← hW]; (first | (go_simp; done) | (simp; done) | (simp [go_sem]; done) | (simp [go_sem]; done))
      have f_A_WA : ∀ o, WA.frozen? ⟨wA.heap.size, o, none⟩ = false := by intro o; rw [← hW]; (first | (go_simp; done) | (simp; done) | (simp [go_sem]; done) | (simp [go_sem]; done))
      have HX_A_WA := Lib.hid (show Bn WA (wA.heap.size) by rw [← hW]; (repeat' (first | with_reducible exact Kp.refl _ _ | with_reducible apply Kp.alloc | with_reducible apply Kp.drew | (with_reducible refine Kp.put ?_ ?_ ?_ _; rotate_left; (focus (first | omega | (simp; done) | (simp; omega))); rotate_left) | (with_reducible refine Bn.new _ _ _ _ ?_ ?_; (focus (first | omega | (simp; done) | (simp; omega))); decide) | with_reducible apply Bn.alloc | with_reducible apply Bn.drew | with_reducible apply Bn.set)))
      have HK_WA := Lib.hid (show Kp N wA WA by rw [← hW]; (repeat' (first | with_reducible exact Kp.refl _ _ | with_reducible apply Kp.alloc | with_reducible apply Kp.drew | (with_reducible refine Kp.put ?_ ?_ ?_ _; rotate_left; (focus (first | omega | (simp; done) | (simp; omega))); rotate_left) | (with_reducible refine Bn.new _ _ _ _ ?_ ?_; (focus (first | omega | (simp; done) | (simp; omega))); decide) | with_reducible apply Bn.alloc | with_reducible apply Bn.drew | with_reducible apply Bn.set)))
      have HA1_WA := Lib.hid (HA1.out.keep HK_WA.out)
      have HA2_WA := Lib.hid (HA2.out.keep HK_WA.out)
      have HB_WA := Lib.hid (show Below w3.heap.size w3 WA by rw [← hW]; (repeat' (first | with_reducible exact Below.refl _ _ | with_reducible exact HB.out | (with_reducible refine Below.alloc ?_ ?_ _; rotate_left; (focus (first | omega | (simp; done) | (simp; omega)))) | with_reducible apply Below.drew | (with_reducible refine Below.setCell ?_ ?_ _; rotate_left; (focus (first | omega | (simp; done) | (simp; omega)))))))
      clear hW HK_WA
      clear HA1 HA2 HB hN hs0
      have hN := hN_WA
      have HB := HB_WA
      have hs0 := hs0_WA
      have hl_A := hl_A_WA
      have f_A := f_A_WA
      have HX_A := HX_A_WA
      have k_A_0 := k_A_0_WA
      have k_A_1 := k_A_1_WA
      have k_A_2 := k_A_2_WA
      have HA1 := HA1_WA
      have HA2 := HA2_WA
      clear hN_WA HB_WA hs0_WA hl_A_WA f_A_WA HX_A_WA k_A_0_WA k_A_1_WA k_A_2_WA HA1_WA HA2_WA
      refine (Covariance_ok (N := N) _ _ _ _ _ y z _ hN (HY3.out.below HB.out) (HZ3.out.below HB.out) ry.out rz.out n0 (by omega) pb HPb.out).mono ?_
      rintro e wB ⟨rb, cb, rb2, cb2, rfl, hn, hn', hb⟩
      have hN_wB : N ≤ wB.heap.size := Nat.le_trans hN hb.size
      have hs_wB : WA.heap.size ≤ wB.heap.size := hb.size
      have hs0_wB : w3.heap.size ≤ wB.heap.size := Nat.le_trans hs0 hb.size
      have hl_A_wB : wA.heap.size < wB.heap.size := Nat.lt_of_lt_of_le hl_A hb.size
      have k_A_0_wB : wB.cell? ⟨wA.heap.size, 0, none⟩ = some (.bool (decide ((pa).num < 0))) := (hb.cell (p := ⟨wA.heap.size, 0, none⟩) hl_A).trans k_A_0
      have k_A_1_wB : wB.cell? ⟨wA.heap.size, 1, none⟩ = some (.slice ra (nlen (pa).num.natAbs) ca) := (hb.cell (p := ⟨wA.heap.size, 1, none⟩) hl_A).trans k_A_1
      have k_A_2_wB : wB.cell? ⟨wA.heap.size, 2, none⟩ = some (.slice ra2 (nlen (pa).den) ca2) := (hb.cell (p := ⟨wA.heap.size, 2, none⟩) hl_A).trans k_A_2
      have f_A_wB : ∀ o, wB.frozen? ⟨wA.heap.size, o, none⟩ = false := fun o => (hb.frozen (p := ⟨wA.heap.size, o, none⟩) hl_A).trans (f_A o)
      have HX_A_wB := Lib.hid (HX_A.out.below hb)
      have HA1_wB := Lib.hid (HA1.out.below hb)
      have HA2_wB := Lib.hid (HA2.out.below hb)
      have HB_wB := Lib.hid (HB.out.trans (hb.mono hs0))
      clear hb
      clear hl_A f_A HX_A k_A_0 k_A_1 k_A_2 HA1 HA2 HB hN hs0
      have hN := hN_wB
      have HB := HB_wB
      have hs0 := hs0_wB
      have hl_A := hl_A_wB
      have f_A := f_A_wB
      have HX_A := HX_A_wB
      have k_A_0 := k_A_0_wB
      have k_A_1 := k_A_1_wB
      have k_A_2 := k_A_2_wB
      have HA1 := HA1_wB
      have HA2 := HA2_wB
      clear hN_wB HB_wB hs0_wB hl_A_wB f_A_wB HX_A_wB k_A_0_wB k_A_1_wB k_A_2_wB HA1_wB HA2_wB
      have HB1 := Lib.hid hn
      clear hn
      have HB2 := Lib.hid hn'
      clear hn'
      go_wp2_with fail
      refine calls_name fun WB hW => ?_
      have hN_WB : N ≤ WB.heap.size := by rw [← hW]; (first | omega | (simp; done) | (simp; omega))
      have hs_WB : wB.heap.size ≤ WB.heap.size := by rw [← hW]; (first | omega | (simp; done) | (simp; omega))
      have hs0_WB : w3.heap.size ≤ WB.heap.size := by rw [← hW]; (first | omega | (simp; done) | (simp; omega))
      have hd_A_B : wA.heap.size < wB.heap.size := by omega
      have hl_A_WB : wA.heap.size < WB.heap.size := by rw [← hW]; (first | omega | (simp; done) | (simp; omega))
      have k_A_0_WB : WB.cell? ⟨wA.heap.size, 0, none⟩ = some (.bool (decide ((pa).num < 0))) := by rw [← hW]; (first | with_reducible exact k_A_0 | (simp [go_sem, k_A_0]; done) | (simp [go_sem, k_A_0, hl_A]; done) | (go_simp; done) | (simp [go_sem, k_A_0, k_A_1, k_A_2, f_A, hl_A]; done))
      have k_A_1_WB : WB.cell? ⟨wA.heap.size, 1, none⟩ = some (.slice ra (nlen (pa).num.natAbs) ca) := by rw [← hW]; (first | with_reducible exact k_A_1 | (simp [go_sem, k_A_1]; done) | (simp [go_sem, k_A_1, hl_A]; done) | (go_simp; done) | (simp [go_sem, k_A_0, k_A_1, k_A_2, f_A, hl_A]; done))
      have k_A_2_WB : WB.cell? ⟨wA.heap.size, 2, none⟩ = some (.slice ra2 (nlen (pa).den) ca2) := by rw [← hW]; (first | with_reducible exact k_A_2 | (simp [go_sem, k_A_2]; done) | (simp [go_sem, k_A_2, hl_A]; done) | (go_simp; done) | (simp [go_sem, k_A_0, k_A_1, k_A_2, f_A, hl_A]; done))
      have f_A_WB : ∀ o, WB.frozen? ⟨wA.heap.size, o, none⟩ = false := by intro o; rw [← hW]; (first | with_reducible exact f_A o | (simp [go_sem, f_A]; done) | (simp [go_sem, f_A, hl_A]; done) | (go_simp; done) | (simp [go_sem, k_A_0, k_A_1, k_A_2, f_A, hl_A]; done))
      have HX_A_WB := Lib.hid (show Bn WB (wA.heap.size) by rw [← hW]; (repeat' (first | with_reducible exact Kp.refl _ _ | with_reducible exact HX_A.out | with_reducible apply Kp.alloc | with_reducible apply Kp.drew | (with_reducible refine Kp.put ?_ ?_ ?_ _; rotate_left; (focus (first | omega | (simp; done) | (simp; omega))); rotate_left) | (with_reducible refine Bn.new _ _ _ _ ?_ ?_; (focus (first | omega | (simp; done) | (simp; omega))); decide) | with_reducible apply Bn.alloc | with_reducible apply Bn.drew | with_reducible apply Bn.set)))
      have hl_B_WB : wB.heap.size < WB.heap.size := by rw [← hW]; (first | omega | (simp; done) | (simp; omega))
      have k_B_0_WB : WB.cell? ⟨wB.heap.size, 0, none⟩ = some (.bool (decide ((pb).num < 0))) := by rw [← hW]; (first | (go_simp; done) | (simp; done) | (simp [go_sem]; done) | (simp [go_sem, k_A_0, k_A_1, k_A_2, f_A, hl_A]; done))
      have k_B_1_WB : WB.cell? ⟨wB.heap.size, 1, none⟩ = some (.slice rb (nlen (pb).num.natAbs) cb) := by rw [← hW]; (first | (go_simp; done) | (simp; done) | (simp [go_sem]; done) | (simp [go_sem, k_A_0, k_A_1, k_A_2, f_A, hl_A]; done))
      have k_B_2_WB : WB.cell? ⟨wB.heap.size, 2, none⟩ = some (.slice rb2 (nlen (pb).den) cb2) := by rw [← hW]; (first | (go_simp; done) | (simp; done) | (simp [go_sem]; done) | (simp [go_sem, k_A_0, k_A_1, k_A_2, f_A, hl_A]; done))
      have f_B_WB : ∀ o, WB.frozen? ⟨wB.heap.size, o, none⟩ = false := by intro o; rw [← hW]; (first | (go_simp; done) | (simp; done) | (simp [go_sem]; done) | (simp [go_sem, k_A_0, k_A_1, k_A_2, f_A, hl_A]; done))
      have HX_B_WB := Lib.hid (show Bn WB (wB.heap.size) by rw [← hW]; (repeat' (first | with_reducible exact Kp.refl _ _ | with_reducible exact HX_A.out | with_reducible apply Kp.alloc | with_reducible apply Kp.drew | (with_reducible refine Kp.put ?_ ?_ ?_ _; rotate_left; (focus (first | omega | (simp; done) | (simp; omega))); rotate_left) | (with_reducible refine Bn.new _ _ _ _ ?_ ?_; (focus (first | omega | (simp; done) | (simp; omega))); decide) | with_reducible apply Bn.alloc | with_reducible apply Bn.drew | with_reducible apply Bn.set)))
      have HK_WB := Lib.hid (show Kp N wB WB by rw [← hW]; (repeat' (first | with_reducible exact Kp.refl _ _ | with_reducible exact HX_A.out | with_reducible apply Kp.alloc | with_reducible apply Kp.drew | (with_reducible refine Kp.put ?_ ?_ ?_ _; rotate_left; (focus (first | omega | (simp; done) | (simp; omega))); rotate_left) | (with_reducible refine Bn.new _ _ _ _ ?_ ?_; (focus (first | omega | (simp; done) | (simp; omega))); decide) | with_reducible apply Bn.alloc | with_reducible apply Bn.drew | with_reducible apply Bn.set)))
      have HA1_WB := Lib.hid (HA1.out.keep HK_WB.out)
      have HA2_WB := Lib.hid (HA2.out.keep HK_WB.out)
      have HB1_WB := Lib.hid (HB1.out.keep HK_WB.out)
      have HB2_WB := Lib.hid (HB2.out.keep HK_WB.out)
      have HB_WB := Lib.hid (show Below w3.heap.size w3 WB by rw [← hW]; (repeat' (first | with_reducible exact Below.refl _ _ | with_reducible exact HB.out | (with_reducible refine Below.alloc ?_ ?_ _; rotate_left; (focus (first | omega | (simp; done) | (simp; omega)))) | with_reducible apply Below.drew | (with_reducible refine Below.setCell ?_ ?_ _; rotate_left; (focus (first | omega | (simp; done) | (simp; omega)))))))
      clear hW HK_WB
      clear hl_A f_A HX_A k_A_0 k_A_1 k_A_2 HA1 HA2 HB1 HB2 HB hN hs0
      have hN := hN_WB
      have HB := HB_WB
      have hs0 := hs0_WB
      have hl_A := hl_A_WB
      have f_A := f_A_WB
      have HX_A := HX_A_WB
      have k_A_0 := k_A_0_WB
      have k_A_1 := k_A_1_WB
      have k_A_2 := k_A_2_WB
      have hl_B := hl_B_WB
      have f_B := f_B_WB
      have HX_B := HX_B_WB
      have k_B_0 := k_B_0_WB
      have k_B_1 := k_B_1_WB
      have k_B_2 := k_B_2_WB
      have HA1 := HA1_WB
      have HA2 := HA2_WB
      have HB1 := HB1_WB
      have HB2 := HB2_WB
      clear hN_WB HB_WB hs0_WB hl_A_WB f_A_WB HX_A_WB k_A_0_WB k_A_1_WB k_A_2_WB hl_B_WB f_B_WB HX_B_WB k_B_0_WB k_B_1_WB k_B_2_WB HA1_WB HA2_WB HB1_WB HB2_WB
      refine (Covariance_ok (N := N) _ _ _ _ _ (fun j => x j + y j) z _ hN (HS3.out.below HB.out) (HZ3.out.below HB.out) rs.out rz.out n0 (by omega) pc HPc.out).mono ?_
      rintro e wC ⟨rc, cc, rc2, cc2, rfl, hn, hn', hb⟩
      have hN_wC : N ≤ wC.heap.size := Nat.le_trans hN hb.size
      have hs_wC : WB.heap.size ≤ wC.heap.size := hb.size
      have hs0_wC : w3.heap.size ≤ wC.heap.size := Nat.le_trans hs0 hb.size
      have hl_A_wC : wA.heap.size < wC.heap.size := Nat.lt_of_lt_of_le hl_A hb.size
      have k_A_0_wC : wC.cell? ⟨wA.heap.size, 0, none⟩ = some (.bool (decide ((pa).num < 0))) := (hb.cell (p := ⟨wA.heap.size, 0, none⟩) hl_A).trans k_A_0
      have k_A_1_wC : wC.cell? ⟨wA.heap.size, 1, none⟩ = some (.slice ra (nlen (pa).num.natAbs) ca) := (hb.cell (p := ⟨wA.heap.size, 1, none⟩) hl_A).trans k_A_1
      have k_A_2_wC : wC.cell? ⟨wA.heap.size, 2, none⟩ = some (.slice ra2 (nlen (pa).den) ca2) := (hb.cell (p := ⟨wA.heap.size, 2, none⟩) hl_A).trans k_A_2
      have f_A_wC : ∀ o, wC.frozen? ⟨wA.heap.size, o, none⟩ = false := fun o => (hb.frozen (p := ⟨wA.heap.size, o, none⟩) hl_A).trans (f_A o)
      have HX_A_wC := Lib.hid (HX_A.out.below hb)
      have hl_B_wC : wB.heap.size < wC.heap.size := Nat.lt_of_lt_of_le hl_B hb.size
      have k_B_0_wC : wC.cell? ⟨wB.heap.size, 0, none⟩ = some (.bool (decide ((pb).num < 0))) := (hb.cell (p := ⟨wB.heap.size, 0, none⟩) hl_B).trans k_B_0
      have k_B_1_wC : wC.cell? ⟨wB.heap.size, 1, none⟩ = some (.slice rb (nlen (pb).num.natAbs) cb) := (hb.cell (p := ⟨wB.heap.size, 1, none⟩) hl_B).trans k_B_1
      have k_B_2_wC : wC.cell? ⟨wB.heap.size, 2, none⟩ = some (.slice rb2 (nlen (pb).den) cb2) := (hb.cell (p := ⟨wB.heap.size, 2, none⟩) hl_B).trans k_B_2
      have f_B_wC : ∀ o, wC.frozen? ⟨wB.heap.size, o, none⟩ = false := fun o => (hb.frozen (p := ⟨wB.heap.size, o, none⟩) hl_B).trans (f_B o)
      have HX_B_wC := Lib.hid (HX_B.out.below hb)
      have HA1_wC := Lib.hid (HA1.out.below hb)
      have HA2_wC := Lib.hid (HA2.out.below hb)
      have HB1_wC := Lib.hid (HB1.out.below hb)
      have HB2_wC := Lib.hid (HB2.out.below hb)
      have HB_wC := Lib.hid (HB.out.trans (hb.mono hs0))
      clear hb
      clear hl_A f_A HX_A k_A_0 k_A_1 k_A_2 hl_B f_B HX_B k_B_0 k_B_1 k_B_2 HA1 HA2 HB1 HB2 HB hN hs0
      have hN := hN_wC
      have HB := HB_wC
      have hs0 := hs0_wC
      have hl_A := hl_A_wC
      have f_A := f_A_wC
      have HX_A := HX_A_wC
      have k_A_0 := k_A_0_wC
      have k_A_1 := k_A_1_wC
      have k_A_2 := k_A_2_wC
      have hl_B := hl_B_wC
      have f_B := f_B_wC
      have HX_B := HX_B_wC
      have k_B_0 := k_B_0_wC
      have k_B_1 := k_B_1_wC
      have k_B_2 := k_B_2_wC
      have HA1 := HA1_wC
      have HA2 := HA2_wC
      have HB1 := HB1_wC
      have HB2 := HB2_wC
      clear hN_wC HB_wC hs0_wC hl_A_wC f_A_wC HX_A_wC k_A_0_wC k_A_1_wC k_A_2_wC hl_B_wC f_B_wC HX_B_wC k_B_0_wC k_B_1_wC k_B_2_wC HA1_wC HA2_wC HB1_wC HB2_wC
      have HC1 := Lib.hid hn
      clear hn
      have HC2 := Lib.hid hn'
      clear hn'
      go_wp2_with fail
      refine calls_name fun WC hW => ?_
      have hN_WC : N ≤ WC.heap.size := by rw [← hW]; (first | omega | (simp; done) | (simp; omega))
      have hs_WC : wC.heap.size ≤ WC.heap.size := by rw [← hW]; (first | omega | (simp; done) | (simp; omega))
      have hs0_WC : w3.heap.size ≤ WC.heap.size := by rw [← hW]; (first | omega | (simp; done) | (simp; omega))
      have hd_A_C : wA.heap.size < wC.heap.size := by omega
      have hd_B_C : wB.heap.size < wC.heap.size := by omega
      have hl_A_WC : wA.heap.size < WC.heap.size := by rw [← hW]; (first | omega | (simp; done) | (simp; omega))
      have k_A_0_WC : WC.cell? ⟨wA.heap.size, 0, none⟩ = some (.bool (decide ((pa).num < 0))) := by rw [← hW]; (first | with_reducible exact k_A_0 | (simp [go_sem, k_A_0]; done) | (simp [go_sem, k_A_0, hl_A]; done) | (go_simp; done) | (simp [go_sem, k_A_0, k_A_1, k_A_2, k_B_0, k_B_1, k_B_2, f_A, f_B, hl_A, hl_B]; done))
      have k_A_1_WC : WC.cell? ⟨wA.heap.size, 1, none⟩ = some (.slice ra (nlen (pa).num.natAbs) ca) := by rw [← hW]; (first | with_reducible exact k_A_1 | (simp [go_sem, k_A_1]; done) | (simp [go_sem, k_A_1, hl_A]; done) | (go_simp; done) | (simp [go_sem, k_A_0, k_A_1, k_A_2, k_B_0, k_B_1, k_B_2, f_A, f_B, hl_A, hl_B]; done))
      have k_A_2_WC : WC.cell? ⟨wA.heap.size, 2, none⟩ = some (.slice ra2 (nlen (pa).den) ca2) := by rw [← hW]; (first | with_reducible exact k_A_2 | (simp [go_sem, k_A_2]; done) | (simp [go_sem, k_A_2, hl_A]; done) | (go_simp; done) | (simp [go_sem, k_A_0, k_A_1, k_A_2, k_B_0, k_B_1, k_B_2, f_A, f_B, hl_A, hl_B]; done))
      have f_A_WC : ∀ o, WC.frozen? ⟨wA.heap.size, o, none⟩ = false := by intro o; rw [← hW]; (first | with_reducible exact f_A o | (simp [go_sem, f_A]; done) | (simp [go_sem, f_A, hl_A]; done) | (go_simp; done) | (simp [go_sem, k_A_0, k_A_1, k_A_2, k_B_0, k_B_1, k_B_2, f_A, f_B, hl_A, hl_B]; done))
      have HX_A_WC := Lib.hid (show Bn WC (wA.heap.size) by rw [← hW]; (repeat' (first | with_reducible exact Kp.refl _ _ | with_reducible exact HX_A.out | with_reducible exact HX_B.out | with_reducible apply Kp.alloc | with_reducible apply Kp.drew | (with_reducible refine Kp.put ?_ ?_ ?_ _; rotate_left; (focus (first | omega | (simp; done) | (simp; omega))); rotate_left) | (with_reducible refine Bn.new _ _ _ _ ?_ ?_; (focus (first | omega | (simp; done) | (simp; omega))); decide) | with_reducible apply Bn.alloc | with_reducible apply Bn.drew | with_reducible apply Bn.set)))
      have hl_B_WC : wB.heap.size < WC.heap.size := by rw [← hW]; (first | omega | (simp; done) | (simp; omega))
      have k_B_0_WC : WC.cell? ⟨wB.heap.size, 0, none⟩ = some (.bool (decide ((pb).num < 0))) := by rw [← hW]; (first | with_reducible exact k_B_0 | (simp [go_sem, k_B_0]; done) | (simp [go_sem, k_B_0, hl_B]; done) | (go_simp; done) | (simp [go_sem, k_A_0, k_A_1, k_A_2, k_B_0, k_B_1, k_B_2, f_A, f_B, hl_A, hl_B]; done))
      have k_B_1_WC : WC.cell? ⟨wB.heap.size, 1, none⟩ = some (.slice rb (nlen (pb).num.natAbs) cb) := by rw [← hW]; (first | with_reducible exact k_B_1 | (simp [go_sem, k_B_1]; done) | (simp [go_sem, k_B_1, hl_B]; done) | (go_simp; done) | (simp [go_sem, k_A_0, k_A_1, k_A_2, k_B_0, k_B_1, k_B_2, f_A, f_B, hl_A, hl_B]; done))
      have k_B_2_WC : WC.cell? ⟨wB.heap.size, 2, none⟩ = some (.slice rb2 (nlen (pb).den) cb2) := by rw [← hW]; (first | with_reducible exact k_B_2 | (simp [go_sem, k_B_2]; done) | (simp [go_sem, k_B_2, hl_B]; done) | (go_simp; done) | (simp [go_sem, k_A_0, k_A_1, k_A_2, k_B_0, k_B_1, k_B_2, f_A, f_B, hl_A, hl_B]; done))
      have f_B_WC : ∀ o, WC.frozen? ⟨wB.heap.size, o, none⟩ = false := by intro o; rw [← hW]; (first | with_reducible exact f_B o | (simp [go_sem, f_B]; done) | (simp [go_sem, f_B, hl_B]; done) | (go_simp; done) | (simp [go_sem, k_A_0, k_A_1, k_A_2, k_B_0, k_B_1, k_B_2, f_A, f_B, hl_A, hl_B]; done))
      have HX_B_WC := Lib.hid (show Bn WC (wB.heap.size) by rw [← hW]; (repeat' (first | with_reducible exact Kp.refl _ _ | with_reducible exact HX_A.out | with_reducible exact HX_B.out | with_reducible apply Kp.alloc | with_reducible apply Kp.drew | (with_reducible refine Kp.put ?_ ?_ ?_ _; rotate_left; (focus (first | omega | (simp; done) | (simp; omega))); rotate_left) | (with_reducible refine Bn.new _ _ _ _ ?_ ?_; (focus (first | omega | (simp; done) | (simp; omega))); decide) | with_reducible apply Bn.alloc | with_reducible apply Bn.drew | with_reducible apply Bn.set)))
      have hl_C_WC : wC.heap.size < WC.heap.size := by rw [← hW]; (first | omega | (simp; done) | (simp; omega))
      have k_C_0_WC : WC.cell? ⟨wC.heap.size, 0, none⟩ = some (.bool (decide ((pc).num < 0))) := by rw [← hW]; (first | (go_simp; done) | (simp; done) | (simp [go_sem]; done) | (simp [go_sem, k_A_0, k_A_1, k_A_2, k_B_0, k_B_1, k_B_2, f_A, f_B, hl_A, hl_B]; done))
      have k_C_1_WC : WC.cell? ⟨wC.heap.size, 1, none⟩ = some (.slice rc (nlen (pc).num.natAbs) cc) := by rw [← hW]; (first | (go_simp; done) | (simp; done) | (simp [go_sem]; done) | (simp [go_sem, k_A_0, k_A_1, k_A_2, k_B_0, k_B_1, k_B_2, f_A, f_B, hl_A, hl_B]; done))
      have k_C_2_WC : WC.cell? ⟨wC.heap.size, 2, none⟩ = some (.slice rc2 (nlen (pc).den) cc2) := by rw [← hW]; (first | (go_simp; done) | (simp; done) | (simp [go_sem]; done) | (simp [go_sem, k_A_0, k_A_1, k_A_2, k_B_0, k_B_1, k_B_2, f_A, f_B, hl_A, hl_B]; done))
      have f_C_WC : ∀ o, WC.frozen? ⟨wC.heap.size, o, none⟩ = false := by intro o; rw [← hW]; (first | (go_simp; done) | (simp; done) | (simp [go_sem]; done) | (simp [go_sem, k_A_0, k_A_1, k_A_2, k_B_0, k_B_1, k_B_2, f_A, f_B, hl_A, hl_B]; done))
      have HX_C_WC := Lib.hid (show Bn WC (wC.heap.size) by rw [← hW]; (repeat' (first | with_reducible exact Kp.refl _ _ | with_reducible exact HX_A.out | with_reducible exact HX_B.out | with_reducible apply Kp.alloc | with_reducible apply Kp.drew | (with_reducible refine Kp.put ?_ ?_ ?_ _; rotate_left; (focus (first | omega | (simp; done) | (simp; omega))); rotate_left) | (with_reducible refine Bn.new _ _ _ _ ?_ ?_; (focus (first | omega | (simp; done) | (simp; omega))); decide) | with_reducible apply Bn.alloc | with_reducible apply Bn.drew | with_reducible apply Bn.set)))
      have HK_WC := Lib.hid (show Kp N wC WC by rw [← hW]; (repeat' (first | with_reducible exact Kp.refl _ _ | with_reducible exact HX_A.out | with_reducible exact HX_B.out | with_reducible apply Kp.alloc | with_reducible apply Kp.drew | (with_reducible refine Kp.put ?_ ?_ ?_ _; rotate_left; (focus (first | omega | (simp; done) | (simp; omega))); rotate_left) | (with_reducible refine Bn.new _ _ _ _ ?_ ?_; (focus (first | omega | (simp; done) | (simp; omega))); decide) | with_reducible apply Bn.alloc | with_reducible apply Bn.drew | with_reducible apply Bn.set)))
      have HA1_WC := Lib.hid (HA1.out.keep HK_WC.out)
      have HA2_WC := Lib.hid (HA2.out.keep HK_WC.out)
      have HB1_WC := Lib.hid (HB1.out.keep HK_WC.out)
      have HB2_WC := Lib.hid (HB2.out.keep HK_WC.out)
      have HC1_WC := Lib.hid (HC1.out.keep HK_WC.out)
      have HC2_WC := Lib.hid (HC2.out.keep HK_WC.out)
      have HB_WC := Lib.hid (show Below w3.heap.size w3 WC by rw [← hW]; (repeat' (first | with_reducible exact Below.refl _ _ | with_reducible exact HB.out | (with_reducible refine Below.alloc ?_ ?_ _; rotate_left; (focus (first | omega | (simp; done) | (simp; omega)))) | with_reducible apply Below.drew | (with_reducible refine Below.setCell ?_ ?_ _; rotate_left; (focus (first | omega | (simp; done) | (simp; omega)))))))
      clear hW HK_WC
      clear hl_A f_A HX_A k_A_0 k_A_1 k_A_2 hl_B f_B HX_B k_B_0 k_B_1 k_B_2 HA1 HA2 HB1 HB2 HC1 HC2 HB hN hs0
      have hN := hN_WC
      have HB := HB_WC
      have hs0 := hs0_WC
      have hl_A := hl_A_WC
      have f_A := f_A_WC
      have HX_A := HX_A_WC
      have k_A_0 := k_A_0_WC
      have k_A_1 := k_A_1_WC
      have k_A_2 := k_A_2_WC
      have hl_B := hl_B_WC
      have f_B := f_B_WC
      have HX_B := HX_B_WC
      have k_B_0 := k_B_0_WC
      have k_B_1 := k_B_1_WC
      have k_B_2 := k_B_2_WC
      have hl_C := hl_C_WC
      have f_C := f_C_WC
      have HX_C := HX_C_WC
      have k_C_0 := k_C_0_WC
      have k_C_1 := k_C_1_WC
      have k_C_2 := k_C_2_WC
      have HA1 := HA1_WC
      have HA2 := HA2_WC
      have HB1 := HB1_WC
      have HB2 := HB2_WC
      have HC1 := HC1_WC
      have HC2 := HC2_WC
      clear hN_WC HB_WC hs0_WC hl_A_WC f_A_WC HX_A_WC k_A_0_WC k_A_1_WC k_A_2_WC hl_B_WC f_B_WC HX_B_WC k_B_0_WC k_B_1_WC k_B_2_WC hl_C_WC f_C_WC HX_C_WC k_C_0_WC k_C_1_WC k_C_2_WC HA1_WC HA2_WC HB1_WC HB2_WC HC1_WC HC2_WC
      refine (Covariance_ok (N := N) _ _ _ _ _ z (fun j => x j + c) _ hN (HZ3.out.below HB.out) (HM3.out.below HB.out) rz.out rm.out n0 (by omega) pa HPd.out).mono ?_
      rintro e wD ⟨rd, cd, rd2, cd2, rfl, hn, hn', hb⟩
      have hN_wD : N ≤ wD.heap.size := Nat.le_trans hN hb.size
      have hs_wD : WC.heap.size ≤ wD.heap.size := hb.size
      have hs0_wD : w3.heap.size ≤ wD.heap.size := Nat.le_trans hs0 hb.size
      have hl_A_wD : wA.heap.size < wD.heap.size := Nat.lt_of_lt_of_le hl_A hb.size
      have k_A_0_wD : wD.cell? ⟨wA.heap.size, 0, none⟩ = some (.bool (decide ((pa).num < 0))) := (hb.cell (p := ⟨wA.heap.size, 0, none⟩) hl_A).trans k_A_0
      have k_A_1_wD : wD.cell? ⟨wA.heap.size, 1, none⟩ = some (.slice ra (nlen (pa).num.natAbs) ca) := (hb.cell (p := ⟨wA.heap.size, 1, none⟩) hl_A).trans k_A_1
      have k_A_2_wD : wD.cell? ⟨wA.heap.size, 2, none⟩ = some (.slice ra2 (nlen (pa).den) ca2) := (hb.cell (p := ⟨wA.heap.size, 2, none⟩) hl_A).trans k_A_2
      have f_A_wD : ∀ o, wD.frozen? ⟨wA.heap.size, o, none⟩ = false := fun o => (hb.frozen (p := ⟨wA.heap.size, o, none⟩) hl_A).trans (f_A o)
      have HX_A_wD := Lib.hid (HX_A.out.below hb)
      have hl_B_wD : wB.heap.size < wD.heap.size := Nat.lt_of_lt_of_le hl_B hb.size
      have k_B_0_wD : wD.cell? ⟨wB.heap.size, 0, none⟩ = some (.bool (decide ((pb).num < 0))) := (hb.cell (p := ⟨wB.heap.size, 0, none⟩) hl_B).trans k_B_0
      have k_B_1_wD : wD.cell? ⟨wB.heap.size, 1, none⟩ = some (.slice rb (nlen (pb).num.natAbs) cb) := (hb.cell (p := ⟨wB.heap.size, 1, none⟩) hl_B).trans k_B_1
      have k_B_2_wD : wD.cell? ⟨wB.heap.size, 2, none⟩ = some (.slice rb2 (nlen (pb).den) cb2) := (hb.cell (p := ⟨wB.heap.size, 2, none⟩) hl_B).trans k_B_2
      have f_B_wD : ∀ o, wD.frozen? ⟨wB.heap.size, o, none⟩ = false := fun o => (hb.frozen (p := ⟨wB.heap.size, o, none⟩) hl_B).trans (f_B o)
      have HX_B_wD := Lib.hid (HX_B.out.below hb)
      have hl_C_wD : wC.heap.size < wD.heap.size := Nat.lt_of_lt_of_le hl_C hb.size
      have k_C_0_wD : wD.cell? ⟨wC.heap.size, 0, none⟩ = some (.bool (decide ((pc).num < 0))) := (hb.cell (p := ⟨wC.heap.size, 0, none⟩) hl_C).trans k_C_0
      have k_C_1_wD : wD.cell? ⟨wC.heap.size, 1, none⟩ = some (.slice rc (nlen (pc).num.natAbs) cc) := (hb.cell (p := ⟨wC.heap.size, 1, none⟩) hl_C).trans k_C_1
      have k_C_2_wD : wD.cell? ⟨wC.heap.size, 2, none⟩ = some (.slice rc2 (nlen (pc).den) cc2) := (hb.cell (p := ⟨wC.heap.size, 2, none⟩) hl_C).trans k_C_2
      have f_C_wD : ∀ o, wD.frozen? ⟨wC.heap.size, o, none⟩ = false := fun o => (hb.frozen (p := ⟨wC.heap.size, o, none⟩) hl_C).trans (f_C o)
      have HX_C_wD := Lib.hid (HX_C.out.below hb)
      have HA1_wD := Lib.hid (HA1.out.below hb)
      have HA2_wD := Lib.hid (HA2.out.below hb)
      have HB1_wD := Lib.hid (HB1.out.below hb)
      have HB2_wD := Lib.hid (HB2.out.below hb)
      have HC1_wD := Lib.hid (HC1.out.below hb)
      have HC2_wD := Lib.hid (HC2.out.below hb)
      have HB_wD := Lib.hid (HB.out.trans (hb.mono hs0))
      clear hb
      clear hl_A f_A HX_A k_A_0 k_A_1 k_A_2 hl_B f_B HX_B k_B_0 k_B_1 k_B_2 hl_C f_C HX_C k_C_0 k_C_1 k_C_2 HA1 HA2 HB1 HB2 HC1 HC2 HB hN hs0
      have hN := hN_wD
      have HB := HB_wD
      have hs0 := hs0_wD
      have hl_A := hl_A_wD
      have f_A := f_A_wD
      have HX_A := HX_A_wD
      have k_A_0 := k_A_0_wD
      have k_A_1 := k_A_1_wD
      have k_A_2 := k_A_2_wD
      have hl_B := hl_B_wD
      have f_B := f_B_wD
      have HX_B := HX_B_wD
      have k_B_0 := k_B_0_wD
      have k_B_1 := k_B_1_wD
      have k_B_2 := k_B_2_wD
      have hl_C := hl_C_wD
      have f_C := f_C_wD
      have HX_C := HX_C_wD
      have k_C_0 := k_C_0_wD
      have k_C_1 := k_C_1_wD
      have k_C_2 := k_C_2_wD
      have HA1 := HA1_wD
      have HA2 := HA2_wD
      have HB1 := HB1_wD
      have HB2 := HB2_wD
      have HC1 := HC1_wD
      have HC2 := HC2_wD
      clear hN_wD HB_wD hs0_wD hl_A_wD f_A_wD HX_A_wD k_A_0_wD k_A_1_wD k_A_2_wD hl_B_wD f_B_wD HX_B_wD k_B_0_wD k_B_1_wD k_B_2_wD hl_C_wD f_C_wD HX_C_wD k_C_0_wD k_C_1_wD k_C_2_wD HA1_wD HA2_wD HB1_wD HB2_wD HC1_wD HC2_wD
      have HD1 := Lib.hid hn
      clear hn
      have HD2 := Lib.hid hn'
      clear hn'
      go_wp2_with fail
      refine calls_name fun WD hW => ?_
      have hN_WD : N ≤ WD.heap.size := by rw [← hW]; (first | omega | (simp; done) | (simp; omega))
      have hs_WD : wD.heap.size ≤ WD.heap.size := by rw [← hW]; (first | omega | (simp; done) | (simp; omega))
      have hs0_WD : w3.heap.size ≤ WD.heap.size := by rw [← hW]; (first | omega | (simp; done) | (simp; omega))
      have hd_A_D : wA.heap.size < wD.heap.size := by omega
      have hd_B_D : wB.heap.size < wD.heap.size := by omega
      have hd_C_D : wC.heap.size < wD.heap.size := by omega
      have hl_A_WD : wA.heap.size < WD.heap.size := by rw [← hW]; (first | omega | (simp; done) | (simp; omega))
      have k_A_0_WD : WD.cell? ⟨wA.heap.size, 0, none⟩ = some (.bool (decide ((pa).num < 0))) := by rw [← hW]; (first | with_reducible exact k_A_0 | (simp [go_sem, k_A_0]; done) | (simp [go_sem, k_A_0, hl_A]; done) | (go_simp; done) | (simp [go_sem, k_A_0, k_A_1, k_A_2, k_B_0, k_B_1, k_B_2, k_C_0, k_C_1, k_C_2, f_A, f_B, f_C, hl_A, hl_B, hl_C]; done))
      have k_A_1_WD : WD.cell? ⟨wA.heap.size, 1, none⟩ = some (.slice ra (nlen (pa).num.natAbs) ca) := by rw [← hW]; (first | with_reducible exact k_A_1 | (simp [go_sem, k_A_1]; done) | (simp [go_sem, k_A_1, hl_A]; done) | (go_simp; done) | (simp [go_sem, k_A_0, k_A_1, k_A_2, k_B_0, k_B_1, k_B_2, k_C_0, k_C_1, k_C_2, f_A, f_B, f_C, hl_A, hl_B, hl_C]; done))
      have k_A_2_WD : WD.cell? ⟨wA.heap.size, 2, none⟩ = some (.slice ra2 (nlen (pa).den) ca2) := by rw [← hW]; (first | with_reducible exact k_A_2 | (simp [go_sem, k_A_2]; done) | (simp [go_sem, k_A_2, hl_A]; done) | (go_simp; done) | (simp [go_sem, k_A_0, k_A_1, k_A_2, k_B_0, k_B_1, k_B_2, k_C_0, k_C_1, k_C_2, f_A, f_B, f_C, hl_A, hl_B, hl_C]; done))
      have f_A_WD : ∀ o, WD.frozen? ⟨wA.heap.size, o, none⟩ = false := by intro o; rw [← hW]; (first | with_reducible exact f_A o | (simp [go_sem, f_A]; done) | (simp [go_sem, f_A, hl_A]; done) | (go_simp; done) | (simp [go_sem, k_A_0, k_A_1, k_A_2, k_B_0, k_B_1, k_B_2, k_C_0, k_C_1, k_C_2, f_A, f_B, f_C, hl_A, hl_B, hl_C]; done))
      have HX_A_WD := Lib.hid (show Bn WD (wA.heap.size) by rw [← hW]; (repeat' (first | with_reducible exact Kp.refl _ _ | with_reducible exact HX_A.out | with_reducible exact HX_B.out | with_reducible exact HX_C.out | with_reducible apply Kp.alloc | with_reducible apply Kp.drew | (with_reducible refine Kp.put ?_ ?_ ?_ _; rotate_left; (focus (first | omega | (simp; done) | (simp; omega))); rotate_left) | (with_reducible refine Bn.new _ _ _ _ ?_ ?_; (focus (first | omega | (simp; done) | (simp; omega))); decide) | with_reducible apply Bn.alloc | with_reducible apply Bn.drew | with_reducible apply Bn.set)))
      have hl_B_WD : wB.heap.size < WD.heap.size := by rw [← hW]; (first | omega | (simp; done) | (simp; omega))
      have k_B_0_WD : WD.cell? ⟨wB.heap.size, 0, none⟩ = some (.bool (decide ((pb).num < 0))) := by rw [← hW]; (first | with_reducible exact k_B_0 | (simp [go_sem, k_B_0]; done) | (simp [go_sem, k_B_0, hl_B]; done) | (go_simp; done) | (simp [go_sem, k_A_0, k_A_1, k_A_2, k_B_0, k_B_1, k_B_2, k_C_0, k_C_1, k_C_2, f_A, f_B, f_C, hl_A, hl_B, hl_C]; done))
      have k_B_1_WD : WD.cell? ⟨wB.heap.size, 1, none⟩ = some (.slice rb (nlen (pb).num.natAbs) cb) := by rw [← hW]; (first | with_reducible exact k_B_1 | (simp [go_sem, k_B_1]; done) | (simp [go_sem, k_B_1, hl_B]; done) | (go_simp; done) | (simp [go_sem, k_A_0, k_A_1, k_A_2, k_B_0, k_B_1, k_B_2, k_C_0, k_C_1, k_C_2, f_A, f_B, f_C, hl_A, hl_B, hl_C]; done))
      have k_B_2_WD : WD.cell? ⟨wB.heap.size, 2, none⟩ = some (.slice rb2 (nlen (pb).den) cb2) := by rw [← hW]; (first | with_reducible exact k_B_2 | (simp [go_sem, k_B_2]; done) | (simp [go_sem, k_B_2, hl_B]; done) | (go_simp; done) | (simp [go_sem, k_A_0, k_A_1, k_A_2, k_B_0, k_B_1, k_B_2, k_C_0, k_C_1, k_C_2, f_A, f_B, f_C, hl_A, hl_B, hl_C]; done))
      have f_B_WD : ∀ o, WD.frozen? ⟨wB.heap.size, o, none⟩ = false := by intro o; rw [← hW]; (first | with_reducible exact f_B o | (simp [go_sem, f_B]; done) | (simp [go_sem, f_B, hl_B]; done) | (go_simp; done) | (simp [go_sem, k_A_0, k_A_1, k_A_2, k_B_0, k_B_1, k_B_2, k_C_0, k_C_1, k_C_2, f_A, f_B, f_C, hl_A, hl_B, hl_C]; done))
      have HX_B_WD := Lib.hid (show Bn WD (wB.heap.size) by rw [← hW]; (repeat' (first | with_reducible exact Kp.refl _ _ | with_reducible exact HX_A.out | with_reducible exact HX_B.out | with_reducible exact HX_C.out | with_reducible apply Kp.alloc | with_reducible apply Kp.drew | (with_reducible refine Kp.put ?_ ?_ ?_ _; rotate_left; (focus (first | omega | (simp; done) | (simp; omega))); rotate_left) | (with_reducible refine Bn.new _ _ _ _ ?_ ?_; (focus (first | omega | (simp; done) | (simp; omega))); decide) | with_reducible apply Bn.alloc | with_reducible apply Bn.drew | with_reducible apply Bn.set)))
      have hl_C_WD : wC.heap.size < WD.heap.size := by rw [← hW]; (first | omega | (simp; done) | (simp; omega))
      have k_C_0_WD : WD.cell? ⟨wC.heap.size, 0, none⟩ = some (.bool (decide ((pc).num < 0))) := by rw [← hW]; (first | with_reducible exact k_C_0 | (simp [go_sem, k_C_0]; done) | (simp [go_sem, k_C_0, hl_C]; done) | (go_simp; done) | (simp [go_sem, k_A_0, k_A_1, k_A_2, k_B_0, k_B_1, k_B_2, k_C_0, k_C_1, k_C_2, f_A, f_B, f_C, hl_A, hl_B, hl_C]; done))
      have k_C_1_WD : WD.cell? ⟨wC.heap.size, 1, none⟩ = some (.slice rc (nlen (pc).num.natAbs) cc) := by rw [← hW]; (first | with_reducible exact k_C_1 | (simp [go_sem, k_C_1]; done) | (simp [go_sem, k_C_1, hl_C]; done) | (go_simp; done) | (simp [go_sem, k_A_0, k_A_1, k_A_2, k_B_0, k_B_1, k_B_2, k_C_0, k_C_1, k_C_2, f_A, f_B, f_C, hl_A, hl_B, hl_C]; done))
      have k_C_2_WD : WD.cell? ⟨wC.heap.size, 2, none⟩ = some (.slice rc2 (nlen (pc).den) cc2) := by rw [← hW]; (first | with_reducible exact k_C_2 | (simp [go_sem, k_C_2]; done) | (simp [go_sem, k_C_2, hl_C]; done) | (go_simp; done) | (simp [go_sem, k_A_0, k_A_1, k_A_2, k_B_0, k_B_1, k_B_2, k_C_0, k_C_1, k_C_2, f_A, f_B, f_C, hl_A, hl_B, hl_C]; done))
      have f_C_WD : ∀ o, WD.frozen? ⟨wC.heap.size, o, none⟩ = false := by intro o; rw [← hW]; (first | with_reducible exact f_C o | (simp [go_sem, f_C]; done) | (simp [go_sem, f_C, hl_C]; done) | (go_simp; done) | (simp [go_sem, k_A_0, k_A_1, k_A_2, k_B_0, k_B_1, k_B_2, k_C_0, k_C_1, k_C_2, f_A, f_B, f_C, hl_A, hl_B, hl_C]; done))
      have HX_C_WD := Lib.hid (show Bn WD (wC.heap.size) by rw [← hW]; (repeat' (first | with_reducible exact Kp.refl _ _ | with_reducible exact HX_A.out | with_reducible exact HX_B.out | with_reducible exact HX_C.out | with_reducible apply Kp.alloc | with_reducible apply Kp.drew | (with_reducible refine Kp.put ?_ ?_ ?_ _; rotate_left; (focus (first | omega | (simp; done) | (simp; omega))); rotate_left) | (with_reducible refine Bn.new _ _ _ _ ?_ ?_; (focus (first | omega | (simp; done) | (simp; omega))); decide) | with_reducible apply Bn.alloc | with_reducible apply Bn.drew | with_reducible apply Bn.set)))
      have hl_D_WD : wD.heap.size < WD.heap.size := by rw [← hW]; (first | omega | (simp; done) | (simp; omega))
      have k_D_0_WD : WD.cell? ⟨wD.heap.size, 0, none⟩ = some (.bool (decide ((pa).num < 0))) := by rw [← hW]; (first | (go_simp; done) | (simp; done) | (simp [go_sem]; done) | (simp [go_sem, k_A_0, k_A_1, k_A_2, k_B_0, k_B_1, k_B_2, k_C_0, k_C_1, k_C_2, f_A, f_B, f_C, hl_A, hl_B, hl_C]; done))
      have k_D_1_WD : WD.cell? ⟨wD.heap.size, 1, none⟩ = some (.slice rd (nlen (pa).num.natAbs) cd) := by rw [← hW]; (first | (go_simp; done) | (simp; done) | (simp [go_sem]; done) | (simp [go_sem, k_A_0, k_A_1, k_A_2, k_B_0, k_B_1, k_B_2, k_C_0, k_C_1, k_C_2, f_A, f_B, f_C, hl_A, hl_B, hl_C]; done))
      have k_D_2_WD : WD.cell? ⟨wD.heap.size, 2, none⟩ = some (.slice rd2 (nlen (pa).den) cd2) := by rw [← hW]; (first | (go_simp; done) | (simp; done) | (simp [go_sem]; done) | (simp [go_sem, k_A_0, k_A_1, k_A_2, k_B_0, k_B_1, k_B_2, k_C_0, k_C_1, k_C_2, f_A, f_B, f_C, hl_A, hl_B, hl_C]; done))
      have f_D_WD : ∀ o, WD.frozen? ⟨wD.heap.size, o, none⟩ = false := by intro o; rw [← hW]; (first | (go_simp; done) | (simp; done) | (simp [go_sem]; done) | (simp [go_sem, k_A_0, k_A_1, k_A_2, k_B_0, k_B_1, k_B_2, k_C_0, k_C_1, k_C_2, f_A, f_B, f_C, hl_A, hl_B, hl_C]; done))
      have HX_D_WD := Lib.hid (show Bn WD (wD.heap.size) by rw [← hW]; (repeat' (first | with_reducible exact Kp.refl _ _ | with_reducible exact HX_A.out | with_reducible exact HX_B.out | with_reducible exact HX_C.out | with_reducible apply Kp.alloc | with_reducible apply Kp.drew | (with_reducible refine Kp.put ?_ ?_ ?_ _; rotate_left; (focus (first | omega | (simp; done) | (simp; omega))); rotate_left) | (with_reducible refine Bn.new _ _ _ _ ?_ ?_; (focus (first | omega | (simp; done) | (simp; omega))); decide) | with_reducible apply Bn.alloc | with_reducible apply Bn.drew | with_reducible apply Bn.set)))
      have HK_WD := Lib.hid (show Kp N wD WD by rw [← hW]; (repeat' (first | with_reducible exact Kp.refl _ _ | with_reducible exact HX_A.out | with_reducible exact HX_B.out | with_reducible exact HX_C.out | with_reducible apply Kp.alloc | with_reducible apply Kp.drew | (with_reducible refine Kp.put ?_ ?_ ?_ _; rotate_left; (focus (first | omega | (simp; done) | (simp; omega))); rotate_left) | (with_reducible refine Bn.new _ _ _ _ ?_ ?_; (focus (first | omega | (simp; done) | (simp; omega))); decide) | with_reducible apply Bn.alloc | with_reducible apply Bn.drew | with_reducible apply Bn.set)))
      have HA1_WD := Lib.hid (HA1.out.keep HK_WD.out)
      have HA2_WD := Lib.hid (HA2.out.keep HK_WD.out)
      have HB1_WD := Lib.hid (HB1.out.keep HK_WD.out)
      have HB2_WD := Lib.hid (HB2.out.keep HK_WD.out)
      have HC1_WD := Lib.hid (HC1.out.keep HK_WD.out)
      have HC2_WD := Lib.hid (HC2.out.keep HK_WD.out)
      have HD1_WD := Lib.hid (HD1.out.keep HK_WD.out)
      have HD2_WD := Lib.hid (HD2.out.keep HK_WD.out)
      have HB_WD := Lib.hid (show Below w3.heap.size w3 WD by rw [← hW]; (repeat' (first | with_reducible exact Below.refl _ _ | with_reducible exact HB.out | (with_reducible refine Below.alloc ?_ ?_ _; rotate_left; (focus (first | omega | (simp; done) | (simp; omega)))) | with_reducible apply Below.drew | (with_reducible refine Below.setCell ?_ ?_ _; rotate_left; (focus (first | omega | (simp; done) | (simp; omega)))))))
      clear hW HK_WD
      clear hl_A f_A HX_A k_A_0 k_A_1 k_A_2 hl_B f_B HX_B k_B_0 k_B_1 k_B_2 hl_C f_C HX_C k_C_0 k_C_1 k_C_2 HA1 HA2 HB1 HB2 HC1 HC2 HD1 HD2 HB hN hs0
      have hN := hN_WD
      have HB := HB_WD
      have hs0 := hs0_WD
      have hl_A := hl_A_WD
      have f_A := f_A_WD
      have HX_A := HX_A_WD
      have k_A_0 := k_A_0_WD
      have k_A_1 := k_A_1_WD
      have k_A_2 := k_A_2_WD
      have hl_B := hl_B_WD
      have f_B := f_B_WD
      have HX_B := HX_B_WD
      have k_B_0 := k_B_0_WD
      have k_B_1 := k_B_1_WD
      have k_B_2 := k_B_2_WD
      have hl_C := hl_C_WD
      have f_C := f_C_WD
      have HX_C := HX_C_WD
      have k_C_0 := k_C_0_WD
      have k_C_1 := k_C_1_WD
      have k_C_2 := k_C_2_WD
      have hl_D := hl_D_WD
      have f_D := f_D_WD
      have HX_D := HX_D_WD
      have k_D_0 := k_D_0_WD
      have k_D_1 := k_D_1_WD
      have k_D_2 := k_D_2_WD
      have HA1 := HA1_WD
      have HA2 := HA2_WD
      have HB1 := HB1_WD
      have HB2 := HB2_WD
      have HC1 := HC1_WD
      have HC2 := HC2_WD
      have HD1 := HD1_WD
      have HD2 := HD2_WD
      clear hN_WD HB_WD hs0_WD hl_A_WD f_A_WD HX_A_WD k_A_0_WD k_A_1_WD k_A_2_WD hl_B_WD f_B_WD HX_B_WD k_B_0_WD k_B_1_WD k_B_2_WD hl_C_WD f_C_WD HX_C_WD k_C_0_WD k_C_1_WD k_C_2_WD hl_D_WD f_D_WD HX_D_WD k_D_0_WD k_D_1_WD k_D_2_WD HA1_WD HA2_WD HB1_WD HB2_WD HC1_WD HC2_WD HD1_WD HD2_WD
      refine (Covariance_ok (N := N) _ _ _ _ _ x x _ hN (HX3.out.below HB.out) (HX3.out.below HB.out) rx.out rx.out n0 (by omega) pv HPv.out).mono ?_
      rintro e wV ⟨rv, cv, rv2, cv2, rfl, hn, hn', hb⟩
      have hN_wV : N ≤ wV.heap.size := Nat.le_trans hN hb.size
      have hs_wV : WD.heap.size ≤ wV.heap.size := hb.size
      have hs0_wV : w3.heap.size ≤ wV.heap.size := Nat.le_trans hs0 hb.size
      have hl_A_wV : wA.heap.size < wV.heap.size := Nat.lt_of_lt_of_le hl_A hb.size
      have k_A_0_wV : wV.cell? ⟨wA.heap.size, 0, none⟩ = some (.bool (decide ((pa).num < 0))) := (hb.cell (p := ⟨wA.heap.size, 0, none⟩) hl_A).trans k_A_0
      have k_A_1_wV : wV.cell? ⟨wA.heap.size, 1, none⟩ = some (.slice ra (nlen (pa).num.natAbs) ca) := (hb.cell (p := ⟨wA.heap.size, 1, none⟩) hl_A).trans k_A_1
      have k_A_2_wV : wV.cell? ⟨wA.heap.size, 2, none⟩ = some (.slice ra2 (nlen (pa).den) ca2) := (hb.cell (p := ⟨wA.heap.size, 2, none⟩) hl_A).trans k_A_2
      have f_A_wV : ∀ o, wV.frozen? ⟨wA.heap.size, o, none⟩ = false := fun o => (hb.frozen (p := ⟨wA.heap.size, o, none⟩) hl_A).trans (f_A o)
      have HX_A_wV := Lib.hid (HX_A.out.below hb)
      have hl_B_wV : wB.heap.size < wV.heap.size := Nat.lt_of_lt_of_le hl_B hb.size
      have k_B_0_wV : wV.cell? ⟨wB.heap.size, 0, none⟩ = some (.bool (decide ((pb).num < 0))) := (hb.cell (p := ⟨wB.heap.size, 0, none⟩) hl_B).trans k_B_0
      have k_B_1_wV : wV.cell? ⟨wB.heap.size, 1, none⟩ = some (.slice rb (nlen (pb).num.natAbs) cb) := (hb.cell (p := ⟨wB.heap.size, 1, none⟩) hl_B).trans k_B_1
      have k_B_2_wV : wV.cell? ⟨wB.heap.size, 2, none⟩ = some (.slice rb2 (nlen (pb).den) cb2) := (hb.cell (p := ⟨wB.heap.size, 2, none⟩) hl_B).trans k_B_2
      have f_B_wV : ∀ o, wV.frozen? ⟨wB.heap.size, o, none⟩ = false := fun o => (hb.frozen (p := ⟨wB.heap.size, o, none⟩) hl_B).trans (f_B o)
      have HX_B_wV := Lib.hid (HX_B.out.below hb)
      have hl_C_wV : wC.heap.size < wV.heap.size := Nat.lt_of_lt_of_le hl_C hb.size
      have k_C_0_wV : wV.cell? ⟨wC.heap.size, 0, none⟩ = some (.bool (decide ((pc).num < 0))) := (hb.cell (p := ⟨wC.heap.size, 0, none⟩) hl_C).trans k_C_0
      have k_C_1_wV : wV.cell? ⟨wC.heap.size, 1, none⟩ = some (.slice rc (nlen (pc).num.natAbs) cc) := (hb.cell (p := ⟨wC.heap.size, 1, none⟩) hl_C).trans k_C_1
      have k_C_2_wV : wV.cell? ⟨wC.heap.size, 2, none⟩ = some (.slice rc2 (nlen (pc).den) cc2) := (hb.cell (p := ⟨wC.heap.size, 2, none⟩) hl_C).trans k_C_2
      have f_C_wV : ∀ o, wV.frozen? ⟨wC.heap.size, o, none⟩ = false := fun o => (hb.frozen (p := ⟨wC.heap.size, o, none⟩) hl_C).trans (f_C o)
      have HX_C_wV := Lib.hid (HX_C.out.below hb)
      have hl_D_wV : wD.heap.size < wV.heap.size := Nat.lt_of_lt_of_le hl_D hb.size
      have k_D_0_wV : wV.cell? ⟨wD.heap.size, 0, none⟩ = some (.bool (decide ((pa).num < 0))) := (hb.cell (p := ⟨wD.heap.size, 0, none⟩) hl_D).trans k_D_0
      have k_D_1_wV : wV.cell? ⟨wD.heap.size, 1, none⟩ = some (.slice rd (nlen (pa).num.natAbs) cd) := (hb.cell (p := ⟨wD.heap.size, 1, none⟩) hl_D).trans k_D_1
      have k_D_2_wV : wV.cell? ⟨wD.heap.size, 2, none⟩ = some (.slice rd2 (nlen (pa).den) cd2) := (hb.cell (p := ⟨wD.heap.size, 2, none⟩) hl_D).trans k_D_2
      have f_D_wV : ∀ o, wV.frozen? ⟨wD.heap.size, o, none⟩ = false := fun o => (hb.frozen (p := ⟨wD.heap.size, o, none⟩) hl_D).trans (f_D o)
      have HX_D_wV := Lib.hid (HX_D.out.below hb)
      have HA1_wV := Lib.hid (HA1.out.below hb)
      have HA2_wV := Lib.hid (HA2.out.below hb)
      have HB1_wV := Lib.hid (HB1.out.below hb)
      have HB2_wV := Lib.hid (HB2.out.below hb)
      have HC1_wV := Lib.hid (HC1.out.below hb)
      have HC2_wV := Lib.hid (HC2.out.below hb)
      have HD1_wV := Lib.hid (HD1.out.below hb)
      have HD2_wV := Lib.hid (HD2.out.below hb)
      have HB_wV := Lib.hid (HB.out.trans (hb.mono hs0))
      clear hb
      clear hl_A f_A HX_A k_A_0 k_A_1 k_A_2 hl_B f_B HX_B k_B_0 k_B_1 k_B_2 hl_C f_C HX_C k_C_0 k_C_1 k_C_2 hl_D f_D HX_D k_D_0 k_D_1 k_D_2 HA1 HA2 HB1 HB2 HC1 HC2 HD1 HD2 HB hN hs0
      have hN := hN_wV
      have HB := HB_wV
      have hs0 := hs0_wV
      have hl_A := hl_A_wV
      have f_A := f_A_wV
      have HX_A := HX_A_wV
      have k_A_0 := k_A_0_wV
      have k_A_1 := k_A_1_wV
      have k_A_2 := k_A_2_wV
      have hl_B := hl_B_wV
      have f_B := f_B_wV
      have HX_B := HX_B_wV
      have k_B_0 := k_B_0_wV
      have k_B_1 := k_B_1_wV
      have k_B_2 := k_B_2_wV
      have hl_C := hl_C_wV
      have f_C := f_C_wV
      have HX_C := HX_C_wV
      have k_C_0 := k_C_0_wV
      have k_C_1 := k_C_1_wV
      have k_C_2 := k_C_2_wV
      have hl_D := hl_D_wV
      have f_D := f_D_wV
      have HX_D := HX_D_wV
      have k_D_0 := k_D_0_wV
      have k_D_1 := k_D_1_wV
      have k_D_2 := k_D_2_wV
      have HA1 := HA1_wV
      have HA2 := HA2_wV
      have HB1 := HB1_wV
      have HB2 := HB2_wV
      have HC1 := HC1_wV
      have HC2 := HC2_wV
      have HD1 := HD1_wV
      have HD2 := HD2_wV
      clear hN_wV HB_wV hs0_wV hl_A_wV f_A_wV HX_A_wV k_A_0_wV k_A_1_wV k_A_2_wV hl_B_wV f_B_wV HX_B_wV k_B_0_wV k_B_1_wV k_B_2_wV hl_C_wV f_C_wV HX_C_wV k_C_0_wV k_C_1_wV k_C_2_wV hl_D_wV f_D_wV HX_D_wV k_D_0_wV k_D_1_wV k_D_2_wV HA1_wV HA2_wV HB1_wV HB2_wV HC1_wV HC2_wV HD1_wV HD2_wV
      have HV1 := Lib.hid hn
      clear hn
      have HV2 := Lib.hid hn'
      clear hn'
      go_wp2_with fail
      refine calls_name fun WV hW => ?_
      have hN_WV : N ≤ WV.heap.size := by rw [← hW]; (first | omega | (simp; done) | (simp; omega))
      have hs_WV : wV.heap.size ≤ WV.heap.size := by rw [← hW]; (first | omega | (simp; done) | (simp; omega))
      have hs0_WV : w3.heap.size ≤ WV.heap.size := by rw [← hW]; (first | omega | (simp; done) | (simp; omega))
      have hd_A_V : wA.heap.size < wV.heap.size := by omega
      have hd_B_V : wB.heap.size < wV.heap.size := by omega
      have hd_C_V : wC.heap.size < wV.heap.size := by omega
      have hd_D_V : wD.heap.size < wV.heap.size := by omega
      have hl_A_WV : wA.heap.size < WV.heap.size := by rw [← hW]; (first | omega | (simp; done) | (simp; omega))
      have k_A_0_WV : WV.cell? ⟨wA.heap.size, 0, none⟩ = some (.bool (decide ((pa).num < 0))) := by rw [← hW]; (first | with_reducible exact k_A_0 | (simp [go_sem, k_A_0]; done) | (simp [go_sem, k_A_0, hl_A]; done) | (go_simp; done) | (simp [go_sem, k_A_0, k_A_1, k_A_2, k_B_0, k_B_1, k_B_2, k_C_0, k_C_1, k_C_2, k_D_0, k_D_1, k_D_2, f_A, f_B, f_C, f_D, hl_A, hl_B, hl_C, hl_D]; done))
      have k_A_1_WV : WV.cell? ⟨wA.heap.size, 1, none⟩ = some (.slice ra (nlen (pa).num.natAbs) ca) := by rw [← hW]; (first | with_reducible exact k_A_1 | (simp [go_sem, k_A_1]; done) | (simp [go_sem, k_A_1, hl_A]; done) | (go_simp; done) | (simp [go_sem, k_A_0, k_A_1, k_A_2, k_B_0, k_B_1, k_B_2, k_C_0, k_C_1, k_C_2, k_D_0, k_D_1, k_D_2, f_A, f_B, f_C, f_D, hl_A, hl_B, hl_C, hl_D]; done))
      have k_A_2_WV : WV.cell? ⟨wA.heap.size, 2, none⟩ = some (.slice ra2 (nlen (pa).den) ca2) := by rw [← hW]; (first | with_reducible exact k_A_2 | (simp [go_sem, k_A_2]; done) | (simp [go_sem, k_A_2, hl_A]; done) | (go_simp; done) | (simp [go_sem, k_A_0, k_A_1, k_A_2, k_B_0, k_B_1, k_B_2, k_C_0, k_C_1, k_C_2, k_D_0, k_D_1, k_D_2, f_A, f_B, f_C, f_D, hl_A, hl_B, hl_C, hl_D]; done))
      have f_A_WV : ∀ o, WV.frozen? ⟨wA.heap.size, o, none⟩ = false := by intro o; rw [← hW]; (first | with_reducible exact f_A o | (simp [go_sem, f_A]; done) | (simp [go_sem, f_A, hl_A]; done) | (go_simp; done) | (simp [go_sem, k_A_0, k_A_1, k_A_2, k_B_0, k_B_1, k_B_2, k_C_0, k_C_1, k_C_2, k_D_0, k_D_1, k_D_2, f_A, f_B, f_C, f_D, hl_A, hl_B, hl_C, hl_D]; done))
      have HX_A_WV := Lib.hid (show Bn WV (wA.heap.size) by rw [← hW]; (repeat' (first | with_reducible exact Kp.refl _ _ | with_reducible exact HX_A.out | with_reducible exact HX_B.out | with_reducible exact HX_C.out | with_reducible exact HX_D.out | with_reducible apply Kp.alloc | with_reducible apply Kp.drew | (with_reducible refine Kp.put ?_ ?_ ?_ _; rotate_left; (focus (first | omega | (simp; done) | (simp; omega))); rotate_left) | (with_reducible refine Bn.new _ _ _ _ ?_ ?_; (focus (first | omega | (simp; done) | (simp; omega))); decide) | with_reducible apply Bn.alloc | with_reducible apply Bn.drew | with_reducible apply Bn.set)))
      have hl_B_WV : wB.heap.size < WV.heap.size := by rw [← hW]; (first | omega | (simp; done) | (simp; omega))
      have k_B_0_WV : WV.cell? ⟨wB.heap.size, 0, none⟩ = some (.bool (decide ((pb).num < 0))) := by rw [← hW]; (first | with_reducible exact k_B_0 | (simp [go_sem, k_B_0]; done) | (simp [go_sem, k_B_0, hl_B]; done) | (go_simp; done) | (simp [go_sem, k_A_0, k_A_1, k_A_2, k_B_0, k_B_1, k_B_2, k_C_0, k_C_1, k_C_2, k_D_0, k_D_1, k_D_2, f_A, f_B, f_C, f_D, hl_A, hl_B, hl_C, hl_D]; done))
      have k_B_1_WV : WV.cell? ⟨wB.heap.size, 1, none⟩ = some (.slice rb (nlen (pb).num.natAbs) cb) := by rw [← hW]; (first | with_reducible exact k_B_1 | (simp [go_sem, k_B_1]; done) | (simp [go_sem, k_B_1, hl_B]; done) | (go_simp; done) | (simp [go_sem, k_A_0, k_A_1, k_A_2, k_B_0, k_B_1, k_B_2, k_C_0, k_C_1, k_C_2, k_D_0, k_D_1, k_D_2, f_A, f_B, f_C, f_D, hl_A, hl_B, hl_C, hl_D]; done))
      have k_B_2_WV : WV.cell? ⟨wB.heap.size, 2, none⟩ = some (.slice rb2 (nlen (pb).den) cb2) := by rw [← hW]; (first | with_reducible exact k_B_2 | (simp [go_sem, k_B_2]; done) | (simp [go_sem, k_B_2, hl_B]; done) | (go_simp; done) | (simp [go_sem, k_A_0, k_A_1, k_A_2, k_B_0, k_B_1, k_B_2, k_C_0, k_C_1, k_C_2, k_D_0, k_D_1, k_D_2, f_A, f_B, f_C, f_D, hl_A, hl_B, hl_C, hl_D]; done))
      have f_B_WV : ∀ o, WV.frozen? ⟨wB.heap.size, o, none⟩ = false := by intro o; rw [← hW]; (first | with_reducible exact f_B o | (simp [go_sem, f_B]; done) | (simp [go_sem, f_B, hl_B]; done) | (go_simp; done) | (simp [go_sem, k_A_0, k_A_1, k_A_2, k_B_0, k_B_1, k_B_2, k_C_0, k_C_1, k_C_2, k_D_0, k_D_1, k_D_2, f_A, f_B, f_C, f_D, hl_A, hl_B, hl_C, hl_D]; done))
      have HX_B_WV := Lib.hid (show Bn WV (wB.heap.size) by rw [← hW]; (repeat' (first | with_reducible exact Kp.refl _ _ | with_reducible exact HX_A.out | with_reducible exact HX_B.out | with_reducible exact HX_C.out | with_reducible exact HX_D.out | with_reducible apply Kp.alloc | with_reducible apply Kp.drew | (with_reducible refine Kp.put ?_ ?_ ?_ _; rotate_left; (focus (first | omega | (simp; done) | (simp; omega))); rotate_left) | (with_reducible refine Bn.new _ _ _ _ ?_ ?_; (focus (first | omega | (simp; done) | (simp; omega))); decide) | with_reducible apply Bn.alloc | with_reducible apply Bn.drew | with_reducible apply Bn.set)))
      have hl_C_WV : wC.heap.size < WV.heap.size := by rw [← hW]; (first | omega | (simp; done) | (simp; omega))
      have k_C_0_WV : WV.cell? ⟨wC.heap.size, 0, none⟩ = some (.bool (decide ((pc).num < 0))) := by rw [← hW]; (first | with_reducible exact k_C_0 | (simp [go_sem, k_C_0]; done) | (simp [go_sem, k_C_0, hl_C]; done) | (go_simp; done) | (simp [go_sem, k_A_0, k_A_1, k_A_2, k_B_0, k_B_1, k_B_2, k_C_0, k_C_1, k_C_2, k_D_0, k_D_1, k_D_2, f_A, f_B, f_C, f_D, hl_A, hl_B, hl_C, hl_D]; done))
      have k_C_1_WV : WV.cell? ⟨wC.heap.size, 1, none⟩ = some (.slice rc (nlen (pc).num.natAbs) cc) := by rw [← hW]; (first | with_reducible exact k_C_1 | (simp [go_sem, k_C_1]; done) | (simp [go_sem, k_C_1, hl_C]; done) | (go_simp; done) | (simp [go_sem, k_A_0, k_A_1, k_A_2, k_B_0, k_B_1, k_B_2, k_C_0, k_C_1, k_C_2, k_D_0, k_D_1, k_D_2, f_A, f_B, f_C, f_D, hl_A, hl_B, hl_C, hl_D]; done))
      have k_C_2_WV : WV.cell? ⟨wC.heap.size, 2, none⟩ = some (.slice rc2 (nlen (pc).den) cc2) := by rw [← hW]; (first | with_reducible exact k_C_2 | (simp [go_sem, k_C_2]; done) | (simp [go_sem, k_C_2, hl_C]; done) | (go_simp; done) | (simp [go_sem, k_A_0, k_A_1, k_A_2, k_B_0, k_B_1, k_B_2, k_C_0, k_C_1, k_C_2, k_D_0, k_D_1, k_D_2, f_A, f_B, f_C, f_D, hl_A, hl_B, hl_C, hl_D]; done))
      have f_C_WV : ∀ o, WV.frozen? ⟨wC.heap.size, o, none⟩ = false := by intro o; rw [← hW]; (first | with_reducible exact f_C o | (simp [go_sem, f_C]; done) | (simp [go_sem, f_C, hl_C]; done) | (go_simp; done) | (simp [go_sem, k_A_0, k_A_1, k_A_2, k_B_0, k_B_1, k_B_2, k_C_0, k_C_1, k_C_2, k_D_0, k_D_1, k_D_2, f_A, f_B, f_C, f_D, hl_A, hl_B, hl_C, hl_D]; done))
      have HX_C_WV := Lib.hid (show Bn WV (wC.heap.size) by rw [← hW]; (repeat' (first | with_reducible exact Kp.refl _ _ | with_reducible exact HX_A.out | with_reducible exact HX_B.out | with_reducible exact HX_C.out | with_reducible exact HX_D.out | with_reducible apply Kp.alloc | with_reducible apply Kp.drew | (with_reducible refine Kp.put ?_ ?_ ?_ _; rotate_left; (focus (first | omega | (simp; done) | (simp; omega))); rotate_left) | (with_reducible refine Bn.new _ _ _ _ ?_ ?_; (focus (first | omega | (simp; done) | (simp; omega))); decide) | with_reducible apply Bn.alloc | with_reducible apply Bn.drew | with_reducible apply Bn.set)))
      have hl_D_WV : wD.heap.size < WV.heap.size := by rw [← hW]; (first | omega | (simp; done) | (simp; omega))
      have k_D_0_WV : WV.cell? ⟨wD.heap.size, 0, none⟩ = some (.bool (decide ((pa).num < 0))) := by rw [← hW]; (first | with_reducible exact k_D_0 | (simp [go_sem, k_D_0]; done) | (simp [go_sem, k_D_0, hl_D]; done) | (go_simp; done) | (simp [go_sem, k_A_0, k_A_1, k_A_2, k_B_0, k_B_1, k_B_2, k_C_0, k_C_1, k_C_2, k_D_0, k_D_1, k_D_2, f_A, f_B, f_C, f_D, hl_A, hl_B, hl_C, hl_D]; done))
      have k_D_1_WV : WV.cell? ⟨wD.heap.size, 1, none⟩ = some (.slice rd (nlen (pa).num.natAbs) cd) := by rw [← hW]; (first | with_reducible exact k_D_1 | (simp [go_sem, k_D_1]; done) | (simp [go_sem, k_D_1, hl_D]; done) | (go_simp; done) | (simp [go_sem, k_A_0, k_A_1, k_A_2, k_B_0, k_B_1, k_B_2, k_C_0, k_C_1, k_C_2, k_D_0, k_D_1, k_D_2, f_A, f_B, f_C, f_D, hl_A, hl_B, hl_C, hl_D]; done))
      have k_D_2_WV : WV.cell? ⟨wD.heap.size, 2, none⟩ = some (.slice rd2 (nlen (pa).den) cd2) := by rw [← hW]; (first | with_reducible exact k_D_2 | (simp [go_sem, k_D_2]; done) | (simp [go_sem, k_D_2, hl_D]; done) | (go_simp; done) | (simp [go_sem, k_A_0, k_A_1, k_A_2, k_B_0, k_B_1, k_B_2, k_C_0, k_C_1, k_C_2, k_D_0, k_D_1, k_D_2, f_A, f_B, f_C, f_D, hl_A, hl_B, hl_C, hl_D]; done))
      have f_D_WV : ∀ o, WV.frozen? ⟨wD.heap.size, o, none⟩ = false := by intro o; rw [← hW]; (first | with_reducible exact f_D o | (simp [go_sem, f_D]; done) | (simp [go_sem, f_D, hl_D]; done) | (go_simp; done) | (simp [go_sem, k_A_0, k_A_1, k_A_2, k_B_0, k_B_1, k_B_2, k_C_0, k_C_1, k_C_2, k_D_0, k_D_1, k_D_2, f_A, f_B, f_C, f_D, hl_A, hl_B, hl_C, hl_D]; done))
      have HX_D_WV := Lib.hid (show Bn WV (wD.heap.size) by rw [← hW]; (repeat' (first | with_reducible exact Kp.refl _ _ | with_reducible exact HX_A.out | with_reducible exact HX_B.out | with_reducible exact HX_C.out | with_reducible exact HX_D.out | with_reducible apply Kp.alloc | with_reducible apply Kp.drew | (with_reducible refine Kp.put ?_ ?_ ?_ _; rotate_left; (focus (first | omega | (simp; done) | (simp; omega))); rotate_left) | (with_reducible refine Bn.new _ _ _ _ ?_ ?_; (focus (first | omega | (simp; done) | (simp; omega))); decide) | with_reducible apply Bn.alloc | with_reducible apply Bn.drew | with_reducible apply Bn.set)))
      have hl_V_WV : wV.heap.size < WV.heap.size := by rw [← hW]; (first | omega | (simp; done) | (simp; omega))
      have k_V_0_WV : WV.cell? ⟨wV.heap.size, 0, none⟩ = some (.bool (decide ((pv).num < 0))) := by rw [← hW]; (first | (go_simp; done) | (simp; done) | (simp [go_sem]; done) | (simp [go_sem, k_A_0, k_A_1, k_A_2, k_B_0, k_B_1, k_B_2, k_C_0, k_C_1, k_C_2, k_D_0, k_D_1, k_D_2, f_A, f_B, f_C, f_D, hl_A, hl_B, hl_C, hl_D]; done))
      have k_V_1_WV : WV.cell? ⟨wV.heap.size, 1, none⟩ = some (.slice rv (nlen (pv).num.natAbs) cv) := by rw [← hW]; (first | (go_simp; done) | (simp; done) | (simp [go_sem]; done) | (simp [go_sem, k_A_0, k_A_1, k_A_2, k_B_0, k_B_1, k_B_2, k_C_0, k_C_1, k_C_2, k_D_0, k_D_1, k_D_2, f_A, f_B, f_C, f_D, hl_A, hl_B, hl_C, hl_D]; done))
      have k_V_2_WV : WV.cell? ⟨wV.heap.size, 2, none⟩ = some (.slice rv2 (nlen (pv).den) cv2) := by rw [← hW]; (first | (go_simp; done) | (simp; done) | (simp [go_sem]; done) | (simp [go_sem, k_A_0, k_A_1, k_A_2, k_B_0, k_B_1, k_B_2, k_C_0, k_C_1, k_C_2, k_D_0, k_D_1, k_D_2, f_A, f_B, f_C, f_D, hl_A, hl_B, hl_C, hl_D]; done))
      have f_V_WV : ∀ o, WV.frozen? ⟨wV.heap.size, o, none⟩ = false := by intro o; rw [← hW]; (first | (go_simp; done) | (simp; done) | (simp [go_sem]; done) | (simp [go_sem, k_A_0, k_A_1, k_A_2, k_B_0, k_B_1, k_B_2, k_C_0, k_C_1, k_C_2, k_D_0, k_D_1, k_D_2, f_A, f_B, f_C, f_D, hl_A, hl_B, hl_C, hl_D]; done))
      have HX_V_WV := Lib.hid (show Bn WV (wV.heap.size) by rw [← hW]; (repeat' (first | with_reducible exact Kp.refl _ _ | with_reducible exact HX_A.out | with_reducible exact HX_B.out | with_reducible exact HX_C.out | with_reducible exact HX_D.out | with_reducible apply Kp.alloc | with_reducible apply Kp.drew | (with_reducible refine Kp.put ?_ ?_ ?_ _; rotate_left; (focus (first | omega | (simp; done) | (simp; omega))); rotate_left) | (with_reducible refine Bn.new _ _ _ _ ?_ ?_; (focus (first | omega | (simp; done) | (simp; omega))); decide) | with_reducible apply Bn.alloc | with_reducible apply Bn.drew | with_reducible apply Bn.set)))
      have HK_WV := Lib.hid (show Kp N wV WV by rw [← hW]; (repeat' (first | with_reducible exact Kp.refl _ _ | with_reducible exact HX_A.out | with_reducible exact HX_B.out | with_reducible exact HX_C.out | with_reducible exact HX_D.out | with_reducible apply Kp.alloc | with_reducible apply Kp.drew | (with_reducible refine Kp.put ?_ ?_ ?_ _; rotate_left; (focus (first | omega | (simp; done) | (simp; omega))); rotate_left) | (with_reducible refine Bn.new _ _ _ _ ?_ ?_; (focus (first | omega | (simp; done) | (simp; omega))); decide) | with_reducible apply Bn.alloc | with_reducible apply Bn.drew | with_reducible apply Bn.set)))
      have HA1_WV := Lib.hid (HA1.out.keep HK_WV.out)
      have HA2_WV := Lib.hid (HA2.out.keep HK_WV.out)
      have HB1_WV := Lib.hid (HB1.out.keep HK_WV.out)
      have HB2_WV := Lib.hid (HB2.out.keep HK_WV.out)
      have HC1_WV := Lib.hid (HC1.out.keep HK_WV.out)
      have HC2_WV := Lib.hid (HC2.out.keep HK_WV.out)
      have HD1_WV := Lib.hid (HD1.out.keep HK_WV.out)
      have HD2_WV := Lib.hid (HD2.out.keep HK_WV.out)
      have HV1_WV := Lib.hid (HV1.out.keep HK_WV.out)
      have HV2_WV := Lib.hid (HV2.out.keep HK_WV.out)
      have HB_WV := Lib.hid (show Below w3.heap.size w3 WV by rw [← hW]; (repeat' (first | with_reducible exact Below.refl _ _ | with_reducible exact HB.out | (with_reducible refine Below.alloc ?_ ?_ _; rotate_left; (focus (first | omega | (simp; done) | (simp; omega)))) | with_reducible apply Below.drew | (with_reducible refine Below.setCell ?_ ?_ _; rotate_left; (focus (first | omega | (simp; done) | (simp; omega)))))))
      clear hW HK_WV
      clear hl_A f_A HX_A k_A_0 k_A_1 k_A_2 hl_B f_B HX_B k_B_0 k_B_1 k_B_2 hl_C f_C HX_C k_C_0 k_C_1 k_C_2 hl_D f_D HX_D k_D_0 k_D_1 k_D_2 HA1 HA2 HB1 HB2 HC1 HC2 HD1 HD2 HV1 HV2 HB hN hs0
      have hN := hN_WV
      have HB := HB_WV
      have hs0 := hs0_WV
      have hl_A := hl_A_WV
      have f_A := f_A_WV
      have HX_A := HX_A_WV
      have k_A_0 := k_A_0_WV
      have k_A_1 := k_A_1_WV
      have k_A_2 := k_A_2_WV
      have hl_B := hl_B_WV
      have f_B := f_B_WV
      have HX_B := HX_B_WV
      have k_B_0 := k_B_0_WV
      have k_B_1 := k_B_1_WV
      have k_B_2 := k_B_2_WV
      have hl_C := hl_C_WV
      have f_C := f_C_WV
      have HX_C := HX_C_WV
      have k_C_0 := k_C_0_WV
      have k_C_1 := k_C_1_WV
      have k_C_2 := k_C_2_WV
      have hl_D := hl_D_WV
      have f_D := f_D_WV
      have HX_D := HX_D_WV
      have k_D_0 := k_D_0_WV
      have k_D_1 := k_D_1_WV
      have k_D_2 := k_D_2_WV
      have hl_V := hl_V_WV
      have f_V := f_V_WV
      have HX_V := HX_V_WV
      have k_V_0 := k_V_0_WV
      have k_V_1 := k_V_1_WV
      have k_V_2 := k_V_2_WV
      have HA1 := HA1_WV
      have HA2 := HA2_WV
      have HB1 := HB1_WV
      have HB2 := HB2_WV
      have HC1 := HC1_WV
      have HC2 := HC2_WV
      have HD1 := HD1_WV
      have HD2 := HD2_WV
      have HV1 := HV1_WV
      have HV2 := HV2_WV
      clear hN_WV HB_WV hs0_WV hl_A_WV f_A_WV HX_A_WV k_A_0_WV k_A_1_WV k_A_2_WV hl_B_WV f_B_WV HX_B_WV k_B_0_WV k_B_1_WV k_B_2_WV hl_C_WV f_C_WV HX_C_WV k_C_0_WV k_C_1_WV k_C_2_WV hl_D_WV f_D_WV HX_D_WV k_D_0_WV k_D_1_WV k_D_2_WV hl_V_WV f_V_WV HX_V_WV k_V_0_WV k_V_1_WV k_V_2_WV HA1_WV HA2_WV HB1_WV HB2_WV HC1_WV HC2_WV HD1_WV HD2_WV HV1_WV HV2_WV
      refine (ratPrint_any (N := N) _ _ _ _ _ _ _ 7 pv _ hN (Rt.of_norm HV1.out HV2.out 7 zv.out) (by omega) (HT3.out.below HB.out)).mono ?_
      rintro e wp ⟨l, rfl, l0, _, hb⟩
      have hN_wp : N ≤ wp.heap.size := Nat.le_trans hN hb.size
      have hs_wp : WV.heap.size ≤ wp.heap.size := hb.size
      have hs0_wp : w3.heap.size ≤ wp.heap.size := Nat.le_trans hs0 hb.size
      have hl_A_wp : wA.heap.size < wp.heap.size := Nat.lt_of_lt_of_le hl_A hb.size
      have k_A_0_wp : wp.cell? ⟨wA.heap.size, 0, none⟩ = some (.bool (decide ((pa).num < 0))) := (hb.cell (p := ⟨wA.heap.size, 0, none⟩) hl_A).trans k_A_0
      have k_A_1_wp : wp.cell? ⟨wA.heap.size, 1, none⟩ = some (.slice ra (nlen (pa).num.natAbs) ca) := (hb.cell (p := ⟨wA.heap.size, 1, none⟩) hl_A).trans k_A_1
      have k_A_2_wp : wp.cell? ⟨wA.heap.size, 2, none⟩ = some (.slice ra2 (nlen (pa).den) ca2) := (hb.cell (p := ⟨wA.heap.size, 2, none⟩) hl_A).trans k_A_2
      have f_A_wp : ∀ o, wp.frozen? ⟨wA.heap.size, o, none⟩ = false := fun o => (hb.frozen (p := ⟨wA.heap.size, o, none⟩) hl_A).trans (f_A o)
      have HX_A_wp := Lib.hid (HX_A.out.below hb)
      have hl_B_wp : wB.heap.size < wp.heap.size := Nat.lt_of_lt_of_le hl_B hb.size
      have k_B_0_wp : wp.cell? ⟨wB.heap.size, 0, none⟩ = some (.bool (decide ((pb).num < 0))) := (hb.cell (p := ⟨wB.heap.size, 0, none⟩) hl_B).trans k_B_0
      have k_B_1_wp : wp.cell? ⟨wB.heap.size, 1, none⟩ = some (.slice rb (nlen (pb).num.natAbs) cb) := (hb.cell (p := ⟨wB.heap.size, 1, none⟩) hl_B).trans k_B_1
      have k_B_2_wp : wp.cell? ⟨wB.heap.size, 2, none⟩ = some (.slice rb2 (nlen (pb).den) cb2) := (hb.cell (p := ⟨wB.heap.size, 2, none⟩) hl_B).trans k_B_2
      have f_B_wp : ∀ o, wp.frozen? ⟨wB.heap.size, o, none⟩ = false := fun o => (hb.frozen (p := ⟨wB.heap.size, o, none⟩) hl_B).trans (f_B o)
      have HX_B_wp := Lib.hid (HX_B.out.below hb)
      have hl_C_wp : wC.heap.size < wp.heap.size := Nat.lt_of_lt_of_le hl_C hb.size
      have k_C_0_wp : wp.cell? ⟨wC.heap.size, 0, none⟩ = some (.bool (decide ((pc).num < 0))) := (hb.cell (p := ⟨wC.heap.size, 0, none⟩) hl_C).trans k_C_0
      have k_C_1_wp : wp.cell? ⟨wC.heap.size, 1, none⟩ = some (.slice rc (nlen (pc).num.natAbs) cc) := (hb.cell (p := ⟨wC.heap.size, 1, none⟩) hl_C).trans k_C_1
      have k_C_2_wp : wp.cell? ⟨wC.heap.size, 2, none⟩ = some (.slice rc2 (nlen (pc).den) cc2) := (hb.cell (p := ⟨wC.heap.size, 2, none⟩) hl_C).trans k_C_2
      have f_C_wp : ∀ o, wp.frozen? ⟨wC.heap.size, o, none⟩ = false := fun o => (hb.frozen (p := ⟨wC.heap.size, o, none⟩) hl_C).trans (f_C o)
      have HX_C_wp := Lib.hid (HX_C.out.below hb)
      have hl_D_wp : wD.heap.size < wp.heap.size := Nat.lt_of_lt_of_le hl_D hb.size
      have k_D_0_wp : wp.cell? ⟨wD.heap.size, 0, none⟩ = some (.bool (decide ((pa).num < 0))) := (hb.cell (p := ⟨wD.heap.size, 0, none⟩) hl_D).trans k_D_0
      have k_D_1_wp : wp.cell? ⟨wD.heap.size, 1, none⟩ = some (.slice rd (nlen (pa).num.natAbs) cd) := (hb.cell (p := ⟨wD.heap.size, 1, none⟩) hl_D).trans k_D_1
      have k_D_2_wp : wp.cell? ⟨wD.heap.size, 2, none⟩ = some (.slice rd2 (nlen (pa).den) cd2) := (hb.cell (p := ⟨wD.heap.size, 2, none⟩) hl_D).trans k_D_2
      have f_D_wp : ∀ o, wp.frozen? ⟨wD.heap.size, o, none⟩ = false := fun o => (hb.frozen (p := ⟨wD.heap.size, o, none⟩) hl_D).trans (f_D o)
      have HX_D_wp := Lib.hid (HX_D.out.below hb)
      have hl_V_wp : wV.heap.size < wp.heap.size := Nat.lt_of_lt_of_le hl_V hb.size
      have k_V_0_wp : wp.cell? ⟨wV.heap.size, 0, none⟩ = some (.bool (decide ((pv).num < 0))) := (hb.cell (p := ⟨wV.heap.size, 0, none⟩) hl_V).trans k_V_0
      have k_V_1_wp : wp.cell? ⟨wV.heap.size, 1, none⟩ = some (.slice rv (nlen (pv).num.natAbs) cv) := (hb.cell (p := ⟨wV.heap.size, 1, none⟩) hl_V).trans k_V_1
      have k_V_2_wp : wp.cell? ⟨wV.heap.size, 2, none⟩ = some (.slice rv2 (nlen (pv).den) cv2) := (hb.cell (p := ⟨wV.heap.size, 2, none⟩) hl_V).trans k_V_2
      have f_V_wp : ∀ o, wp.frozen? ⟨wV.heap.size, o, none⟩ = false := fun o => (hb.frozen (p := ⟨wV.heap.size, o, none⟩) hl_V).trans (f_V o)
      have HX_V_wp := Lib.hid (HX_V.out.below hb)
      have HA1_wp := Lib.hid (HA1.out.below hb)
      have HA2_wp := Lib.hid (HA2.out.below hb)
      have HB1_wp := Lib.hid (HB1.out.below hb)
      have HB2_wp := Lib.hid (HB2.out.below hb)
      have HC1_wp := Lib.hid (HC1.out.below hb)
      have HC2_wp := Lib.hid (HC2.out.below hb)
      have HD1_wp := Lib.hid (HD1.out.below hb)
      have HD2_wp := Lib.hid (HD2.out.below hb)
      have HV1_wp := Lib.hid (HV1.out.below hb)
      have HV2_wp := Lib.hid (HV2.out.below hb)
      have HB_wp := Lib.hid (HB.out.trans (hb.mono hs0))
      clear hb
      clear hl_A f_A HX_A k_A_0 k_A_1 k_A_2 hl_B f_B HX_B k_B_0 k_B_1 k_B_2 hl_C f_C HX_C k_C_0 k_C_1 k_C_2 hl_D f_D HX_D k_D_0 k_D_1 k_D_2 hl_V f_V HX_V k_V_0 k_V_1 k_V_2 HA1 HA2 HB1 HB2 HC1 HC2 HD1 HD2 HV1 HV2 HB hN hs0
      have hN := hN_wp
      have HB := HB_wp
      have hs0 := hs0_wp
      have hl_A := hl_A_wp
      have f_A := f_A_wp
      have HX_A := HX_A_wp
      have k_A_0 := k_A_0_wp
      have k_A_1 := k_A_1_wp
      have k_A_2 := k_A_2_wp
      have hl_B := hl_B_wp
      have f_B := f_B_wp
      have HX_B := HX_B_wp
      have k_B_0 := k_B_0_wp
      have k_B_1 := k_B_1_wp
      have k_B_2 := k_B_2_wp
      have hl_C := hl_C_wp
      have f_C := f_C_wp
      have HX_C := HX_C_wp
      have k_C_0 := k_C_0_wp
      have k_C_1 := k_C_1_wp
      have k_C_2 := k_C_2_wp
      have hl_D := hl_D_wp
      have f_D := f_D_wp
      have HX_D := HX_D_wp
      have k_D_0 := k_D_0_wp
      have k_D_1 := k_D_1_wp
      have k_D_2 := k_D_2_wp
      have hl_V := hl_V_wp
      have f_V := f_V_wp
      have HX_V := HX_V_wp
      have k_V_0 := k_V_0_wp
      have k_V_1 := k_V_1_wp
      have k_V_2 := k_V_2_wp
      have HA1 := HA1_wp
      have HA2 := HA2_wp
      have HB1 := HB1_wp
      have HB2 := HB2_wp
      have HC1 := HC1_wp
      have HC2 := HC2_wp
      have HD1 := HD1_wp
      have HD2 := HD2_wp
      have HV1 := HV1_wp
      have HV2 := HV2_wp
      clear hN_wp HB_wp hs0_wp hl_A_wp f_A_wp HX_A_wp k_A_0_wp k_A_1_wp k_A_2_wp hl_B_wp f_B_wp HX_B_wp k_B_0_wp k_B_1_wp k_B_2_wp hl_C_wp f_C_wp HX_C_wp k_C_0_wp k_C_1_wp k_C_2_wp hl_D_wp f_D_wp HX_D_wp k_D_0_wp k_D_1_wp k_D_2_wp hl_V_wp f_V_wp HX_V_wp k_V_0_wp k_V_1_wp k_V_2_wp HA1_wp HA2_wp HB1_wp HB2_wp HC1_wp HC2_wp HD1_wp HD2_wp HV1_wp HV2_wp
      obtain ⟨sv, hsv⟩ : ∃ sv : ByteArray, (⟨l.toArray⟩ : ByteArray) = sv := ⟨_, rfl⟩
      rw [hsv]
      have hne : sv.toList ≠ [] := by rw [← hsv, ByteArray.toList_eq]; intro e; rw [show l = [] by simpa using e] at l0; exact absurd l0 (by decide)
      have hs1 : (sv.toList == []) = false := by simpa using hne
      have hs2 : sv.toList.isEmpty = false := by simpa using hne
      have hs3 : (sv.toList == ByteArray.toList ⟨#[]⟩) = false := by rw [ByteArray.toList_eq ⟨#[]⟩]; simpa using hne
      clear hsv
      go_wp2_with fail
      refine region_name fun WQ hW => ?_
      have hN_WQ : N ≤ WQ.heap.size := by rw [← hW]; (first | omega | (simp; done) | (simp; omega))
      have hs_WQ : wp.heap.size ≤ WQ.heap.size := by rw [← hW]; (first | omega | (simp; done) | (simp; omega))
      have hs0_WQ : w3.heap.size ≤ WQ.heap.size := by rw [← hW]; (first | omega | (simp; done) | (simp; omega))
      have hl_A_WQ : wA.heap.size < WQ.heap.size := by rw [← hW]; (first | omega | (simp; done) | (simp; omega))
      have k_A_0_WQ : WQ.cell? ⟨wA.heap.size, 0, none⟩ = some (.bool (decide ((pa).num < 0))) := by rw [← hW]; (first | with_reducible exact k_A_0 | (simp [go_sem, k_A_0]; done) | (simp [go_sem, k_A_0, hl_A]; done) | (go_simp; done) | (simp [go_sem, k_A_0, k_A_1, k_A_2, k_B_0, k_B_1, k_B_2, k_C_0, k_C_1, k_C_2, k_D_0, k_D_1, k_D_2, k_V_0, k_V_1, k_V_2, f_A, f_B, f_C, f_D, f_V, hl_A, hl_B, hl_C, hl_D, hl_V]; done))
      have k_A_1_WQ : WQ.cell? ⟨wA.heap.size, 1, none⟩ = some (.slice ra (nlen (pa).num.natAbs) ca) := by rw [← hW]; (first | with_reducible exact k_A_1 | (simp [go_sem, k_A_1]; done) | (simp [go_sem, k_A_1, hl_A]; done) | (go_simp; done) | (simp [go_sem, k_A_0, k_A_1, k_A_2, k_B_0, k_B_1, k_B_2, k_C_0, k_C_1, k_C_2, k_D_0, k_D_1, k_D_2, k_V_0, k_V_1, k_V_2, f_A, f_B, f_C, f_D, f_V, hl_A, hl_B, hl_C, hl_D, hl_V]; done))
      have k_A_2_WQ : WQ.cell? ⟨wA.heap.size, 2, none⟩ = some (.slice ra2 (nlen (pa).den) ca2) := by rw [← hW]; (first | with_reducible exact k_A_2 | (simp [go_sem, k_A_2]; done) | (simp [go_sem, k_A_2, hl_A]; done) | (go_simp; done) | (simp [go_sem, k_A_0, k_A_1, k_A_2, k_B_0, k_B_1, k_B_2, k_C_0, k_C_1, k_C_2, k_D_0, k_D_1, k_D_2, k_V_0, k_V_1, k_V_2, f_A, f_B, f_C, f_D, f_V, hl_A, hl_B, hl_C, hl_D, hl_V]; done))
      have f_A_WQ : ∀ o, WQ.frozen? ⟨wA.heap.size, o, none⟩ = false := by intro o; rw [← hW]; (first | with_reducible exact f_A o | (simp [go_sem, f_A]; done) | (simp [go_sem, f_A, hl_A]; done) | (go_simp; done) | (simp [go_sem, k_A_0, k_A_1, k_A_2, k_B_0, k_B_1, k_B_2, k_C_0, k_C_1, k_C_2, k_D_0, k_D_1, k_D_2, k_V_0, k_V_1, k_V_2, f_A, f_B, f_C, f_D, f_V, hl_A, hl_B, hl_C, hl_D, hl_V]; done))
      have HX_A_WQ := Lib.hid (show Bn WQ (wA.heap.size) by rw [← hW]; (repeat' (first | with_reducible exact Kp.refl _ _ | with_reducible exact HX_A.out | with_reducible exact HX_B.out | with_reducible exact HX_C.out | with_reducible exact HX_D.out | with_reducible exact HX_V.out | with_reducible apply Kp.alloc | with_reducible apply Kp.drew | (with_reducible refine Kp.put ?_ ?_ ?_ _; rotate_left; (focus (first | omega | (simp; done) | (simp; omega))); rotate_left) | (with_reducible refine Bn.new _ _ _ _ ?_ ?_; (focus (first | omega | (simp; done) | (simp; omega))); decide) | with_reducible apply Bn.alloc | with_reducible apply Bn.drew | with_reducible apply Bn.set)))
      have hl_B_WQ : wB.heap.size < WQ.heap.size := by rw [← hW]; (first | omega | (simp; done) | (simp; omega))
      have k_B_0_WQ : WQ.cell? ⟨wB.heap.size, 0, none⟩ = some (.bool (decide ((pb).num < 0))) := by rw [← hW]; (first | with_reducible exact k_B_0 | (simp [go_sem, k_B_0]; done) | (simp [go_sem, k_B_0, hl_B]; done) | (go_simp; done) | (simp [go_sem, k_A_0, k_A_1, k_A_2, k_B_0, k_B_1, k_B_2, k_C_0, k_C_1, k_C_2, k_D_0, k_D_1, k_D_2, k_V_0, k_V_1, k_V_2, f_A, f_B, f_C, f_D, f_V, hl_A, hl_B, hl_C, hl_D, hl_V]; done))
      have k_B_1_WQ : WQ.cell? ⟨wB.heap.size, 1, none⟩ = some (.slice rb (nlen (pb).num.natAbs) cb) := by rw [← hW]; (first | with_reducible exact k_B_1 | (simp [go_sem, k_B_1]; done) | (simp [go_sem, k_B_1, hl_B]; done) | (go_simp; done) | (simp [go_sem, k_A_0, k_A_1, k_A_2, k_B_0, k_B_1, k_B_2, k_C_0, k_C_1, k_C_2, k_D_0, k_D_1, k_D_2, k_V_0, k_V_1, k_V_2, f_A, f_B, f_C, f_D, f_V, hl_A, hl_B, hl_C, hl_D, hl_V]; done))
      have k_B_2_WQ : WQ.cell? ⟨wB.heap.size, 2, none⟩ = some (.slice rb2 (nlen (pb).den) cb2) := by rw [← hW]; (first | with_reducible exact k_B_2 | (simp [go_sem, k_B_2]; done) | (simp [go_sem, k_B_2, hl_B]; done) | (go_simp; done) | (simp [go_sem, k_A_0, k_A_1, k_A_2, k_B_0, k_B_1, k_B_2, k_C_0, k_C_1, k_C_2, k_D_0, k_D_1, k_D_2, k_V_0, k_V_1, k_V_2, f_A, f_B, f_C, f_D, f_V, hl_A, hl_B, hl_C, hl_D, hl_V]; done))
      have f_B_WQ : ∀ o, WQ.frozen? ⟨wB.heap.size, o, none⟩ = false := by intro o; rw [← hW]; (first | with_reducible exact f_B o | (simp [go_sem, f_B]; done) | (simp [go_sem, f_B, hl_B]; done) | (go_simp; done) | (simp [go_sem, k_A_0, k_A_1, k_A_2, k_B_0, k_B_1, k_B_2, k_C_0, k_C_1, k_C_2, k_D_0, k_D_1, k_D_2, k_V_0, k_V_1, k_V_2, f_A, f_B, f_C, f_D, f_V, hl_A, hl_B, hl_C, hl_D, hl_V]; done))
      have HX_B_WQ := Lib.hid (show Bn WQ (wB.heap.size) by rw [← hW]; (repeat' (first | with_reducible exact Kp.refl _ _ | with_reducible exact HX_A.out | with_reducible exact HX_B.out | with_reducible exact HX_C.out | with_reducible exact HX_D.out | with_reducible exact HX_V.out | with_reducible apply Kp.alloc | with_reducible apply Kp.drew | (with_reducible refine Kp.put ?_ ?_ ?_ _; rotate_left; (focus (first | omega | (simp; done) | (simp; omega))); rotate_left) | (with_reducible refine Bn.new _ _ _ _ ?_ ?_; (focus (first | omega | (simp; done) | (simp; omega))); decide) | with_reducible apply Bn.alloc | with_reducible apply Bn.drew | with_reducible apply Bn.set)))
      have hl_C_WQ : wC.heap.size < WQ.heap.size := by rw [← hW]; (first | omega | (simp; done) | (simp; omega))
      have k_C_0_WQ : WQ.cell? ⟨wC.heap.size, 0, none⟩ = some (.bool (decide ((pc).num < 0))) := by rw [← hW]; (first | with_reducible exact k_C_0 | (simp [go_sem, k_C_0]; done) | (simp [go_sem, k_C_0, hl_C]; done) | (go_simp; done) | (simp [go_sem, k_A_0, k_A_1, k_A_2, k_B_0, k_B_1, k_B_2, k_C_0, k_C_1, k_C_2, k_D_0, k_D_1, k_D_2, k_V_0, k_V_1, k_V_2, f_A, f_B, f_C, f_D, f_V, hl_A, hl_B, hl_C, hl_D, hl_V]; done))
      have k_C_1_WQ : WQ.cell? ⟨wC.heap.size, 1, none⟩ = some (.slice rc (nlen (pc).num.natAbs) cc) := by rw [← hW]; (first | with_reducible exact k_C_1 | (simp [go_sem, k_C_1]; done) | (simp [go_sem, k_C_1, hl_C]; done) | (go_simp; done) | (simp [go_sem, k_A_0, k_A_1, k_A_2, k_B_0, k_B_1, k_B_2, k_C_0, k_C_1, k_C_2, k_D_0, k_D_1, k_D_2, k_V_0, k_V_1, k_V_2, f_A, f_B, f_C, f_D, f_V, hl_A, hl_B, hl_C, hl_D, hl_V]; done))
      have k_C_2_WQ : WQ.cell? ⟨wC.heap.size, 2, none⟩ = some (.slice rc2 (nlen (pc).den) cc2) := by rw [← hW]; (first | with_reducible exact k_C_2 | (simp [go_sem, k_C_2]; done) | (simp [go_sem, k_C_2, hl_C]; done) | (go_simp; done) | (simp [go_sem, k_A_0, k_A_1, k_A_2, k_B_0, k_B_1, k_B_2, k_C_0, k_C_1, k_C_2, k_D_0, k_D_1, k_D_2, k_V_0, k_V_1, k_V_2, f_A, f_B, f_C, f_D, f_V, hl_A, hl_B, hl_C, hl_D, hl_V]; done))
      have f_C_WQ : ∀ o, WQ.frozen? ⟨wC.heap.size, o, none⟩ = false := by intro o; rw [← hW]; (first | with_reducible exact f_C o | (simp [go_sem, f_C]; done) | (simp [go_sem, f_C, hl_C]; done) | (go_simp; done) | (simp [go_sem, k_A_0, k_A_1, k_A_2, k_B_0, k_B_1, k_B_2, k_C_0, k_C_1, k_C_2, k_D_0, k_D_1, k_D_2, k_V_0, k_V_1, k_V_2, f_A, f_B, f_C, f_D, f_V, hl_A, hl_B, hl_C, hl_D, hl_V]; done))
      have HX_C_WQ := Lib.hid (show Bn WQ (wC.heap.size) by rw [← hW]; (repeat' (first | with_reducible exact Kp.refl _ _ | with_reducible exact HX_A.out | with_reducible exact HX_B.out | with_reducible exact HX_C.out | with_reducible exact HX_D.out | with_reducible exact HX_V.out | with_reducible apply Kp.alloc | with_reducible apply Kp.drew | (with_reducible refine Kp.put ?_ ?_ ?_ _; rotate_left; (focus (first | omega | (simp; done) | (simp; omega))); rotate_left) | (with_reducible refine Bn.new _ _ _ _ ?_ ?_; (focus (first | omega | (simp; done) | (simp; omega))); decide) | with_reducible apply Bn.alloc | with_reducible apply Bn.drew | with_reducible apply Bn.set)))
      have hl_D_WQ : wD.heap.size < WQ.heap.size := by rw [← hW]; (first | omega | (simp; done) | (simp; omega))
      have k_D_0_WQ : WQ.cell? ⟨wD.heap.size, 0, none⟩ = some (.bool (decide ((pa).num < 0))) := by rw [← hW]; (first | with_reducible exact k_D_0 | (simp [go_sem, k_D_0]; done) | (simp [go_sem, k_D_0, hl_D]; done) | (go_simp; done) | (simp [go_sem, k_A_0, k_A_1, k_A_2, k_B_0, k_B_1, k_B_2, k_C_0, k_C_1, k_C_2, k_D_0, k_D_1, k_D_2, k_V_0, k_V_1, k_V_2, f_A, f_B, f_C, f_D, f_V, hl_A, hl_B, hl_C, hl_D, hl_V]; done))
      have k_D_1_WQ : WQ.cell? ⟨wD.heap.size, 1, none⟩ = some (.slice rd (nlen (pa).num.natAbs) cd) := by rw [← hW]; (first | with_reducible exact k_D_1 | (simp [go_sem, k_D_1]; done) | (simp [go_sem, k_D_1, hl_D]; done) | (go_simp; done) | (simp [go_sem, k_A_0, k_A_1, k_A_2, k_B_0, k_B_1, k_B_2, k_C_0, k_C_1, k_C_2, k_D_0, k_D_1, k_D_2, k_V_0, k_V_1, k_V_2, f_A, f_B, f_C, f_D, f_V, hl_A, hl_B, hl_C, hl_D, hl_V]; done))
      have k_D_2_WQ : WQ.cell? ⟨wD.heap.size, 2, none⟩ = some (.slice rd2 (nlen (pa).den) cd2) := by rw [← hW]; (first | with_reducible exact k_D_2 | (simp [go_sem, k_D_2]; done) | (simp [go_sem, k_D_2, hl_D]; done) | (go_simp; done) | (simp [go_sem, k_A_0, k_A_1, k_A_2, k_B_0, k_B_1, k_B_2, k_C_0, k_C_1, k_C_2, k_D_0, k_D_1, k_D_2, k_V_0, k_V_1, k_V_2, f_A, f_B, f_C, f_D, f_V, hl_A, hl_B, hl_C, hl_D, hl_V]; done))
      have f_D_WQ : ∀ o, WQ.frozen? ⟨wD.heap.size, o, none⟩ = false := by intro o; rw [← hW]; (first | with_reducible exact f_D o | (simp [go_sem, f_D]; done) | (simp [go_sem, f_D, hl_D]; done) | (go_simp; done) | (simp [go_sem, k_A_0, k_A_1, k_A_2, k_B_0, k_B_1, k_B_2, k_C_0, k_C_1, k_C_2, k_D_0, k_D_1, k_D_2, k_V_0, k_V_1, k_V_2, f_A, f_B, f_C, f_D, f_V, hl_A, hl_B, hl_C, hl_D, hl_V]; done))
      have HX_D_WQ := Lib.hid (show Bn WQ (wD.heap.size) by rw [← hW]; (repeat' (first | with_reducible exact Kp.refl _ _ | with_reducible exact HX_A.out | with_reducible exact HX_B.out | with_reducible exact HX_C.out | with_reducible exact HX_D.out | with_reducible exact HX_V.out | with_reducible apply Kp.alloc | with_reducible apply Kp.drew | (with_reducible refine Kp.put ?_ ?_ ?_ _; rotate_left; (focus (first | omega | (simp; done) | (simp; omega))); rotate_left) | (with_reducible refine Bn.new _ _ _ _ ?_ ?_; (focus (first | omega | (simp; done) | (simp; omega))); decide) | with_reducible apply Bn.alloc | with_reducible apply Bn.drew | with_reducible apply Bn.set)))
      have hl_V_WQ : wV.heap.size < WQ.heap.size := by rw [← hW]; (first | omega | (simp; done) | (simp; omega))
      have k_V_0_WQ : WQ.cell? ⟨wV.heap.size, 0, none⟩ = some (.bool (decide ((pv).num < 0))) := by rw [← hW]; (first | with_reducible exact k_V_0 | (simp [go_sem, k_V_0]; done) | (simp [go_sem, k_V_0, hl_V]; done) | (go_simp; done) | (simp [go_sem, k_A_0, k_A_1, k_A_2, k_B_0, k_B_1, k_B_2, k_C_0, k_C_1, k_C_2, k_D_0, k_D_1, k_D_2, k_V_0, k_V_1, k_V_2, f_A, f_B, f_C, f_D, f_V, hl_A, hl_B, hl_C, hl_D, hl_V]; done))
      have k_V_1_WQ : WQ.cell? ⟨wV.heap.size, 1, none⟩ = some (.slice rv (nlen (pv).num.natAbs) cv) := by rw [← hW]; (first | with_reducible exact k_V_1 | (simp [go_sem, k_V_1]; done) | (simp [go_sem, k_V_1, hl_V]; done) | (go_simp; done) | (simp [go_sem, k_A_0, k_A_1, k_A_2, k_B_0, k_B_1, k_B_2, k_C_0, k_C_1, k_C_2, k_D_0, k_D_1, k_D_2, k_V_0, k_V_1, k_V_2, f_A, f_B, f_C, f_D, f_V, hl_A, hl_B, hl_C, hl_D, hl_V]; done))
      have k_V_2_WQ : WQ.cell? ⟨wV.heap.size, 2, none⟩ = some (.slice rv2 (nlen (pv).den) cv2) := by rw [← hW]; (first | with_reducible exact k_V_2 | (simp [go_sem, k_V_2]; done) | (simp [go_sem, k_V_2, hl_V]; done) | (go_simp; done) | (simp [go_sem, k_A_0, k_A_1, k_A_2, k_B_0, k_B_1, k_B_2, k_C_0, k_C_1, k_C_2, k_D_0, k_D_1, k_D_2, k_V_0, k_V_1, k_V_2, f_A, f_B, f_C, f_D, f_V, hl_A, hl_B, hl_C, hl_D, hl_V]; done))
      have f_V_WQ : ∀ o, WQ.frozen? ⟨wV.heap.size, o, none⟩ = false := by intro o; rw [← hW]; (first | with_reducible exact f_V o | (simp [go_sem, f_V]; done) | (simp [go_sem, f_V, hl_V]; done) | (go_simp; done) | (simp [go_sem, k_A_0, k_A_1, k_A_2, k_B_0, k_B_1, k_B_2, k_C_0, k_C_1, k_C_2, k_D_0, k_D_1, k_D_2, k_V_0, k_V_1, k_V_2, f_A, f_B, f_C, f_D, f_V, hl_A, hl_B, hl_C, hl_D, hl_V]; done))
      have HX_V_WQ := Lib.hid (show Bn WQ (wV.heap.size) by rw [← hW]; (repeat' (first | with_reducible exact Kp.refl _ _ | with_reducible exact HX_A.out | with_reducible exact HX_B.out | with_reducible exact HX_C.out | with_reducible exact HX_D.out | with_reducible exact HX_V.out | with_reducible apply Kp.alloc | with_reducible apply Kp.drew | (with_reducible refine Kp.put ?_ ?_ ?_ _; rotate_left; (focus (first | omega | (simp; done) | (simp; omega))); rotate_left) | (with_reducible refine Bn.new _ _ _ _ ?_ ?_; (focus (first | omega | (simp; done) | (simp; omega))); decide) | with_reducible apply Bn.alloc | with_reducible apply Bn.drew | with_reducible apply Bn.set)))
      have HK_WQ := Lib.hid (show Kp N wp WQ by rw [← hW]; (repeat' (first | with_reducible exact Kp.refl _ _ | with_reducible exact HX_A.out | with_reducible exact HX_B.out | with_reducible exact HX_C.out | with_reducible exact HX_D.out | with_reducible exact HX_V.out | with_reducible apply Kp.alloc | with_reducible apply Kp.drew | (with_reducible refine Kp.put ?_ ?_ ?_ _; rotate_left; (focus (first | omega | (simp; done) | (simp; omega))); rotate_left) | (with_reducible refine Bn.new _ _ _ _ ?_ ?_; (focus (first | omega | (simp; done) | (simp; omega))); decide) | with_reducible apply Bn.alloc | with_reducible apply Bn.drew | with_reducible apply Bn.set)))
      have HA1_WQ := Lib.hid (HA1.out.keep HK_WQ.out)
      have HA2_WQ := Lib.hid (HA2.out.keep HK_WQ.out)
      have HB1_WQ := Lib.hid (HB1.out.keep HK_WQ.out)
      have HB2_WQ := Lib.hid (HB2.out.keep HK_WQ.out)
      have HC1_WQ := Lib.hid (HC1.out.keep HK_WQ.out)
      have HC2_WQ := Lib.hid (HC2.out.keep HK_WQ.out)
      have HD1_WQ := Lib.hid (HD1.out.keep HK_WQ.out)
      have HD2_WQ := Lib.hid (HD2.out.keep HK_WQ.out)
      have HV1_WQ := Lib.hid (HV1.out.keep HK_WQ.out)
      have HV2_WQ := Lib.hid (HV2.out.keep HK_WQ.out)
      have HB_WQ := Lib.hid (show Below w3.heap.size w3 WQ by rw [← hW]; (repeat' (first | with_reducible exact Below.refl _ _ | with_reducible exact HB.out | (with_reducible refine Below.alloc ?_ ?_ _; rotate_left; (focus (first | omega | (simp; done) | (simp; omega)))) | with_reducible apply Below.drew | (with_reducible refine Below.setCell ?_ ?_ _; rotate_left; (focus (first | omega | (simp; done) | (simp; omega)))))))
      clear hW HK_WQ
      clear hl_A f_A HX_A k_A_0 k_A_1 k_A_2 hl_B f_B HX_B k_B_0 k_B_1 k_B_2 hl_C f_C HX_C k_C_0 k_C_1 k_C_2 hl_D f_D HX_D k_D_0 k_D_1 k_D_2 hl_V f_V HX_V k_V_0 k_V_1 k_V_2 HA1 HA2 HB1 HB2 HC1 HC2 HD1 HD2 HV1 HV2 HB hN hs0
      have hN := hN_WQ
      have HB := HB_WQ
      have hs0 := hs0_WQ
      have hl_A := hl_A_WQ
      have f_A := f_A_WQ
      have HX_A := HX_A_WQ
      have k_A_0 := k_A_0_WQ
      have k_A_1 := k_A_1_WQ
      have k_A_2 := k_A_2_WQ
      have hl_B := hl_B_WQ
      have f_B := f_B_WQ
      have HX_B := HX_B_WQ
      have k_B_0 := k_B_0_WQ
      have k_B_1 := k_B_1_WQ
      have k_B_2 := k_B_2_WQ
      have hl_C := hl_C_WQ
      have f_C := f_C_WQ
      have HX_C := HX_C_WQ
      have k_C_0 := k_C_0_WQ
      have k_C_1 := k_C_1_WQ
      have k_C_2 := k_C_2_WQ
      have hl_D := hl_D_WQ
      have f_D := f_D_WQ
      have HX_D := HX_D_WQ
      have k_D_0 := k_D_0_WQ
      have k_D_1 := k_D_1_WQ
      have k_D_2 := k_D_2_WQ
      have hl_V := hl_V_WQ
      have f_V := f_V_WQ
      have HX_V := HX_V_WQ
      have k_V_0 := k_V_0_WQ
      have k_V_1 := k_V_1_WQ
      have k_V_2 := k_V_2_WQ
      have HA1 := HA1_WQ
      have HA2 := HA2_WQ
      have HB1 := HB1_WQ
      have HB2 := HB2_WQ
      have HC1 := HC1_WQ
      have HC2 := HC2_WQ
      have HD1 := HD1_WQ
      have HD2 := HD2_WQ
      have HV1 := HV1_WQ
      have HV2 := HV2_WQ
      clear hN_WQ HB_WQ hs0_WQ hl_A_WQ f_A_WQ HX_A_WQ k_A_0_WQ k_A_1_WQ k_A_2_WQ hl_B_WQ f_B_WQ HX_B_WQ k_B_0_WQ k_B_1_WQ k_B_2_WQ hl_C_WQ f_C_WQ HX_C_WQ k_C_0_WQ k_C_1_WQ k_C_2_WQ hl_D_WQ f_D_WQ HX_D_WQ k_D_0_WQ k_D_1_WQ k_D_2_WQ hl_V_WQ f_V_WQ HX_V_WQ k_V_0_WQ k_V_1_WQ k_V_2_WQ HA1_WQ HA2_WQ HB1_WQ HB2_WQ HC1_WQ HC2_WQ HD1_WQ HD2_WQ HV1_WQ HV2_WQ
      have tok_1 : True := trivial
      go_region_held3 (fun w' => w'.cell? ⟨wA.heap.size, 0, none⟩ = some (.bool (decide ((pa).num < 0))) ∧ w'.cell? ⟨wA.heap.size, 1, none⟩ = some (.slice ra (nlen (pa).num.natAbs) ca) ∧ w'.cell? ⟨wA.heap.size, 2, none⟩ = some (.slice ra2 (nlen (pa).den) ca2) ∧ w'.cell? ⟨wB.heap.size, 0, none⟩ = some (.bool (decide ((pb).num < 0))) ∧ w'.cell? ⟨wB.heap.size, 1, none⟩ = some (.slice rb (nlen (pb).num.natAbs) cb) ∧ w'.cell? ⟨wB.heap.size, 2, none⟩ = some (.slice rb2 (nlen (pb).den) cb2) ∧ w'.cell? ⟨wC.heap.size, 0, none⟩ = some (.bool (decide ((pc).num < 0))) ∧ w'.cell? ⟨wC.heap.size, 1, none⟩ = some (.slice rc (nlen (pc).num.natAbs) cc) ∧ w'.cell? ⟨wC.heap.size, 2, none⟩ = some (.slice rc2 (nlen (pc).den) cc2) ∧ w'.cell? ⟨wD.heap.size, 0, none⟩ = some (.bool (decide ((pa).num < 0))) ∧ w'.cell? ⟨wD.heap.size, 1, none⟩ = some (.slice rd (nlen (pa).num.natAbs) cd) ∧ w'.cell? ⟨wD.heap.size, 2, none⟩ = some (.slice rd2 (nlen (pa).den) cd2) ∧ w'.cell? ⟨wV.heap.size, 0, none⟩ = some (.bool (decide ((pv).num < 0))) ∧ w'.cell? ⟨wV.heap.size, 1, none⟩ = some (.slice rv (nlen (pv).num.natAbs) cv) ∧ w'.cell? ⟨wV.heap.size, 2, none⟩ = some (.slice rv2 (nlen (pv).den) cv2))
        (first | (go_keep; done) | ((try dsimp only); (repeat' apply And.intro) <;> (first | (go_keep; done) | (exact cell_keep_alloc_drew (by first | omega | (simp; omega)) (by first | assumption | go_simp)) | (exact cell_keep_alloc (by first | omega | (simp; omega)) (by first | assumption | go_simp)) | (rw [cell_set2 _ _ _ _ _ _ _ _ (by omega)]; assumption) | (rw [cell_set3 _ _ _ _ _ _ _ _ _ _ (by omega)]; assumption))))
        (first
          | (go_at_call 11; refine (radd_any (N := N) _ _ _ _ _ _ _ _ _ _ _ _ _ _ 7 7 pa pb _ (by exact hN) (by exact Rt.of_norm HA1.out HA2.out 7 za.out) (by exact Rt.of_norm HB1.out HB2.out 7 zb.out) (by omega) (by omega) pc HAdd.out).mono ?_; rintro e wr1 ⟨re, ce, re2, ce2, rfl, hn, hn', hb⟩; replace hb : Below WQ.heap.size WQ wr1 := (by first | exact hb | exact bel_of_drew hb); have hN_wr1 : N ≤ wr1.heap.size := Nat.le_trans hN hb.size; have hs_wr1 : WQ.heap.size ≤ wr1.heap.size := hb.size; have hs0_wr1 : w3.heap.size ≤ wr1.heap.size := Nat.le_trans hs0 hb.size; have hl_A_wr1 : wA.heap.size < wr1.heap.size := Nat.lt_of_lt_of_le hl_A hb.size; have k_A_0_wr1 : wr1.cell? ⟨wA.heap.size, 0, none⟩ = some (.bool (decide ((pa).num < 0))) := (hb.cell (p := ⟨wA.heap.size, 0, none⟩) hl_A).trans k_A_0; have k_A_1_wr1 : wr1.cell? ⟨wA.heap.size, 1, none⟩ = some (.slice ra (nlen (pa).num.natAbs) ca) := (hb.cell (p := ⟨wA.heap.size, 1, none⟩) hl_A).trans k_A_1; have k_A_2_wr1 : wr1.cell? ⟨wA.heap.size, 2, none⟩ = some (.slice ra2 (nlen (pa).den) ca2) := (hb.cell (p := ⟨wA.heap.size, 2, none⟩) hl_A).trans k_A_2; have f_A_wr1 : ∀ o, wr1.frozen? ⟨wA.heap.size, o, none⟩ = false := fun o => (hb.frozen (p := ⟨wA.heap.size, o, none⟩) hl_A).trans (f_A o); have HX_A_wr1 := Lib.hid (HX_A.out.below hb); have hl_B_wr1 : wB.heap.size < wr1.heap.size := Nat.lt_of_lt_of_le hl_B hb.size; have k_B_0_wr1 : wr1.cell? ⟨wB.heap.size, 0, none⟩ = some (.bool (decide ((pb).num < 0))) := (hb.cell (p := ⟨wB.heap.size, 0, none⟩) hl_B).trans k_B_0; have k_B_1_wr1 : wr1.cell? ⟨wB.heap.size, 1, none⟩ = some (.slice rb (nlen (pb).num.natAbs) cb) := (hb.cell (p := ⟨wB.heap.size, 1, none⟩) hl_B).trans k_B_1; have k_B_2_wr1 : wr1.cell? ⟨wB.heap.size, 2, none⟩ = some (.slice rb2 (nlen (pb).den) cb2) := (hb.cell (p := ⟨wB.heap.size, 2, none⟩) hl_B).trans k_B_2; have f_B_wr1 : ∀ o, wr1.frozen? ⟨wB.heap.size, o, none⟩ = false := fun o => (hb.frozen (p := ⟨wB.heap.size, o, none⟩) hl_B).trans (f_B o); have HX_B_wr1 := Lib.hid (HX_B.out.below hb); have hl_C_wr1 : wC.heap.size < wr1.heap.size := Nat.lt_of_lt_of_le hl_C hb.size; have k_C_0_wr1 : wr1.cell? ⟨wC.heap.size, 0, none⟩ = some (.bool (decide ((pc).num < 0))) := (hb.cell (p := ⟨wC.heap.size, 0, none⟩) hl_C).trans k_C_0; have k_C_1_wr1 : wr1.cell? ⟨wC.heap.size, 1, none⟩ = some (.slice rc (nlen (pc).num.natAbs) cc) := (hb.cell (p := ⟨wC.heap.size, 1, none⟩) hl_C).trans k_C_1; have k_C_2_wr1 : wr1.cell? ⟨wC.heap.size, 2, none⟩ = some (.slice rc2 (nlen (pc).den) cc2) := (hb.cell (p := ⟨wC.heap.size, 2, none⟩) hl_C).trans k_C_2; have f_C_wr1 : ∀ o, wr1.frozen? ⟨wC.heap.size, o, none⟩ = false := fun o => (hb.frozen (p := ⟨wC.heap.size, o, none⟩) hl_C).trans (f_C o); have HX_C_wr1 := Lib.hid (HX_C.out.below hb); have hl_D_wr1 : wD.heap.size < wr1.heap.size := Nat.lt_of_lt_of_le hl_D hb.size; have k_D_0_wr1 : wr1.cell? ⟨wD.heap.size, 0, none⟩ = some (.bool (decide ((pa).num < 0))) := (hb.cell (p := ⟨wD.heap.size, 0, none⟩) hl_D).trans k_D_0; have k_D_1_wr1 : wr1.cell? ⟨wD.heap.size, 1, none⟩ = some (.slice rd (nlen (pa).num.natAbs) cd) := (hb.cell (p := ⟨wD.heap.size, 1, none⟩) hl_D).trans k_D_1; have k_D_2_wr1 : wr1.cell? ⟨wD.heap.size, 2, none⟩ = some (.slice rd2 (nlen (pa).den) cd2) := (hb.cell (p := ⟨wD.heap.size, 2, none⟩) hl_D).trans k_D_2; have f_D_wr1 : ∀ o, wr1.frozen? ⟨wD.heap.size, o, none⟩ = false := fun o => (hb.frozen (p := ⟨wD.heap.size, o, none⟩) hl_D).trans (f_D o); have HX_D_wr1 := Lib.hid (HX_D.out.below hb); have hl_V_wr1 : wV.heap.size < wr1.heap.size := Nat.lt_of_lt_of_le hl_V hb.size; have k_V_0_wr1 : wr1.cell? ⟨wV.heap.size, 0, none⟩ = some (.bool (decide ((pv).num < 0))) := (hb.cell (p := ⟨wV.heap.size, 0, none⟩) hl_V).trans k_V_0; have k_V_1_wr1 : wr1.cell? ⟨wV.heap.size, 1, none⟩ = some (.slice rv (nlen (pv).num.natAbs) cv) := (hb.cell (p := ⟨wV.heap.size, 1, none⟩) hl_V).trans k_V_1; have k_V_2_wr1 : wr1.cell? ⟨wV.heap.size, 2, none⟩ = some (.slice rv2 (nlen (pv).den) cv2) := (hb.cell (p := ⟨wV.heap.size, 2, none⟩) hl_V).trans k_V_2; have f_V_wr1 : ∀ o, wr1.frozen? ⟨wV.heap.size, o, none⟩ = false := fun o => (hb.frozen (p := ⟨wV.heap.size, o, none⟩) hl_V).trans (f_V o); have HX_V_wr1 := Lib.hid (HX_V.out.below hb); have HA1_wr1 := Lib.hid (HA1.out.below hb); have HA2_wr1 := Lib.hid (HA2.out.below hb); have HB1_wr1 := Lib.hid (HB1.out.below hb); have HB2_wr1 := Lib.hid (HB2.out.below hb); have HC1_wr1 := Lib.hid (HC1.out.below hb); have HC2_wr1 := Lib.hid (HC2.out.below hb); have HD1_wr1 := Lib.hid (HD1.out.below hb); have HD2_wr1 := Lib.hid (HD2.out.below hb); have HV1_wr1 := Lib.hid (HV1.out.below hb); have HV2_wr1 := Lib.hid (HV2.out.below hb); have HB_wr1 := Lib.hid (HB.out.trans (hb.mono hs0)); clear hb; clear hl_A f_A HX_A k_A_0 k_A_1 k_A_2 hl_B f_B HX_B k_B_0 k_B_1 k_B_2 hl_C f_C HX_C k_C_0 k_C_1 k_C_2 hl_D f_D HX_D k_D_0 k_D_1 k_D_2 hl_V f_V HX_V k_V_0 k_V_1 k_V_2 HA1 HA2 HB1 HB2 HC1 HC2 HD1 HD2 HV1 HV2 HB hN hs0; have hN := hN_wr1; have HB := HB_wr1; have hs0 := hs0_wr1; have hl_A := hl_A_wr1; have f_A := f_A_wr1; have HX_A := HX_A_wr1; have k_A_0 := k_A_0_wr1; have k_A_1 := k_A_1_wr1; have k_A_2 := k_A_2_wr1; have hl_B := hl_B_wr1; have f_B := f_B_wr1; have HX_B := HX_B_wr1; have k_B_0 := k_B_0_wr1; have k_B_1 := k_B_1_wr1; have k_B_2 := k_B_2_wr1; have hl_C := hl_C_wr1; have f_C := f_C_wr1; have HX_C := HX_C_wr1; have k_C_0 := k_C_0_wr1; have k_C_1 := k_C_1_wr1; have k_C_2 := k_C_2_wr1; have hl_D := hl_D_wr1; have f_D := f_D_wr1; have HX_D := HX_D_wr1; have k_D_0 := k_D_0_wr1; have k_D_1 := k_D_1_wr1; have k_D_2 := k_D_2_wr1; have hl_V := hl_V_wr1; have f_V := f_V_wr1; have HX_V := HX_V_wr1; have k_V_0 := k_V_0_wr1; have k_V_1 := k_V_1_wr1; have k_V_2 := k_V_2_wr1; have HA1 := HA1_wr1; have HA2 := HA2_wr1; have HB1 := HB1_wr1; have HB2 := HB2_wr1; have HC1 := HC1_wr1; have HC2 := HC2_wr1; have HD1 := HD1_wr1; have HD2 := HD2_wr1; have HV1 := HV1_wr1; have HV2 := HV2_wr1; clear hN_wr1 HB_wr1 hs0_wr1 hl_A_wr1 f_A_wr1 HX_A_wr1 k_A_0_wr1 k_A_1_wr1 k_A_2_wr1 hl_B_wr1 f_B_wr1 HX_B_wr1 k_B_0_wr1 k_B_1_wr1 k_B_2_wr1 hl_C_wr1 f_C_wr1 HX_C_wr1 k_C_0_wr1 k_C_1_wr1 k_C_2_wr1 hl_D_wr1 f_D_wr1 HX_D_wr1 k_D_0_wr1 k_D_1_wr1 k_D_2_wr1 hl_V_wr1 f_V_wr1 HX_V_wr1 k_V_0_wr1 k_V_1_wr1 k_V_2_wr1 HA1_wr1 HA2_wr1 HB1_wr1 HB2_wr1 HC1_wr1 HC2_wr1 HD1_wr1 HD2_wr1 HV1_wr1 HV2_wr1; have HE1 := Lib.hid hn; clear hn; have HE2 := Lib.hid hn'; clear hn'; skip)
          | (go_at_call 10; have _t := tok_1; refine (same25_any (N := N) _ _ _ _ _ _ pc.num.natAbs _ pc.den _ _ _ _ _ (by exact HE1.out) (by exact HE2.out) (by exact HC1.out) (by exact HC2.out)).mono ?_; rintro e wr2 ⟨rfl, hb⟩; replace hb : Below wr1.heap.size wr1 wr2 := (by first | exact hb | exact bel_of_drew hb); have hN_wr2 : N ≤ wr2.heap.size := Nat.le_trans hN hb.size; have hs_wr2 : wr1.heap.size ≤ wr2.heap.size := hb.size; have hs0_wr2 : w3.heap.size ≤ wr2.heap.size := Nat.le_trans hs0 hb.size; have hl_A_wr2 : wA.heap.size < wr2.heap.size := Nat.lt_of_lt_of_le hl_A hb.size; have k_A_0_wr2 : wr2.cell? ⟨wA.heap.size, 0, none⟩ = some (.bool (decide ((pa).num < 0))) := (hb.cell (p := ⟨wA.heap.size, 0, none⟩) hl_A).trans k_A_0; have k_A_1_wr2 : wr2.cell? ⟨wA.heap.size, 1, none⟩ = some (.slice ra (nlen (pa).num.natAbs) ca) := (hb.cell (p := ⟨wA.heap.size, 1, none⟩) hl_A).trans k_A_1; have k_A_2_wr2 : wr2.cell? ⟨wA.heap.size, 2, none⟩ = some (.slice ra2 (nlen (pa).den) ca2) := (hb.cell (p := ⟨wA.heap.size, 2, none⟩) hl_A).trans k_A_2; have f_A_wr2 : ∀ o, wr2.frozen? ⟨wA.heap.size, o, none⟩ = false := fun o => (hb.frozen (p := ⟨wA.heap.size, o, none⟩) hl_A).trans (f_A o); have HX_A_wr2 := Lib.hid (HX_A.out.below hb); have hl_B_wr2 : wB.heap.size < wr2.heap.size := Nat.lt_of_lt_of_le hl_B hb.size; have k_B_0_wr2 : wr2.cell? ⟨wB.heap.size, 0, none⟩ = some (.bool (decide ((pb).num < 0))) := (hb.cell (p := ⟨wB.heap.size, 0, none⟩) hl_B).trans k_B_0; have k_B_1_wr2 : wr2.cell? ⟨wB.heap.size, 1, none⟩ = some (.slice rb (nlen (pb).num.natAbs) cb) := (hb.cell (p := ⟨wB.heap.size, 1, none⟩) hl_B).trans k_B_1; have k_B_2_wr2 : wr2.cell? ⟨wB.heap.size, 2, none⟩ = some (.slice rb2 (nlen (pb).den) cb2) := (hb.cell (p := ⟨wB.heap.size, 2, none⟩) hl_B).trans k_B_2; have f_B_wr2 : ∀ o, wr2.frozen? ⟨wB.heap.size, o, none⟩ = false := fun o => (hb.frozen (p := ⟨wB.heap.size, o, none⟩) hl_B).trans (f_B o); have HX_B_wr2 := Lib.hid (HX_B.out.below hb); have hl_C_wr2 : wC.heap.size < wr2.heap.size := Nat.lt_of_lt_of_le hl_C hb.size; have k_C_0_wr2 : wr2.cell? ⟨wC.heap.size, 0, none⟩ = some (.bool (decide ((pc).num < 0))) := (hb.cell (p := ⟨wC.heap.size, 0, none⟩) hl_C).trans k_C_0; have k_C_1_wr2 : wr2.cell? ⟨wC.heap.size, 1, none⟩ = some (.slice rc (nlen (pc).num.natAbs) cc) := (hb.cell (p := ⟨wC.heap.size, 1, none⟩) hl_C).trans k_C_1; have k_C_2_wr2 : wr2.cell? ⟨wC.heap.size, 2, none⟩ = some (.slice rc2 (nlen (pc).den) cc2) := (hb.cell (p := ⟨wC.heap.size, 2, none⟩) hl_C).trans k_C_2; have f_C_wr2 : ∀ o, wr2.frozen? ⟨wC.heap.size, o, none⟩ = false := fun o => (hb.frozen (p := ⟨wC.heap.size, o, none⟩) hl_C).trans (f_C o); have HX_C_wr2 := Lib.hid (HX_C.out.below hb); have hl_D_wr2 : wD.heap.size < wr2.heap.size := Nat.lt_of_lt_of_le hl_D hb.size; have k_D_0_wr2 : wr2.cell? ⟨wD.heap.size, 0, none⟩ = some (.bool (decide ((pa).num < 0))) := (hb.cell (p := ⟨wD.heap.size, 0, none⟩) hl_D).trans k_D_0; have k_D_1_wr2 : wr2.cell? ⟨wD.heap.size, 1, none⟩ = some (.slice rd (nlen (pa).num.natAbs) cd) := (hb.cell (p := ⟨wD.heap.size, 1, none⟩) hl_D).trans k_D_1; have k_D_2_wr2 : wr2.cell? ⟨wD.heap.size, 2, none⟩ = some (.slice rd2 (nlen (pa).den) cd2) := (hb.cell (p := ⟨wD.heap.size, 2, none⟩) hl_D).trans k_D_2; have f_D_wr2 : ∀ o, wr2.frozen? ⟨wD.heap.size, o, none⟩ = false := fun o => (hb.frozen (p := ⟨wD.heap.size, o, none⟩) hl_D).trans (f_D o); have HX_D_wr2 := Lib.hid (HX_D.out.below hb); have hl_V_wr2 : wV.heap.size < wr2.heap.size := Nat.lt_of_lt_of_le hl_V hb.size; have k_V_0_wr2 : wr2.cell? ⟨wV.heap.size, 0, none⟩ = some (.bool (decide ((pv).num < 0))) := (hb.cell (p := ⟨wV.heap.size, 0, none⟩) hl_V).trans k_V_0; have k_V_1_wr2 : wr2.cell? ⟨wV.heap.size, 1, none⟩ = some (.slice rv (nlen (pv).num.natAbs) cv) := (hb.cell (p := ⟨wV.heap.size, 1, none⟩) hl_V).trans k_V_1; have k_V_2_wr2 : wr2.cell? ⟨wV.heap.size, 2, none⟩ = some (.slice rv2 (nlen (pv).den) cv2) := (hb.cell (p := ⟨wV.heap.size, 2, none⟩) hl_V).trans k_V_2; have f_V_wr2 : ∀ o, wr2.frozen? ⟨wV.heap.size, o, none⟩ = false := fun o => (hb.frozen (p := ⟨wV.heap.size, o, none⟩) hl_V).trans (f_V o); have HX_V_wr2 := Lib.hid (HX_V.out.below hb); have HA1_wr2 := Lib.hid (HA1.out.below hb); have HA2_wr2 := Lib.hid (HA2.out.below hb); have HB1_wr2 := Lib.hid (HB1.out.below hb); have HB2_wr2 := Lib.hid (HB2.out.below hb); have HC1_wr2 := Lib.hid (HC1.out.below hb); have HC2_wr2 := Lib.hid (HC2.out.below hb); have HD1_wr2 := Lib.hid (HD1.out.below hb); have HD2_wr2 := Lib.hid (HD2.out.below hb); have HV1_wr2 := Lib.hid (HV1.out.below hb); have HV2_wr2 := Lib.hid (HV2.out.below hb); have HE1_wr2 := Lib.hid (HE1.out.below hb); have HE2_wr2 := Lib.hid (HE2.out.below hb); have HB_wr2 := Lib.hid (HB.out.trans (hb.mono hs0)); clear hb; clear hl_A f_A HX_A k_A_0 k_A_1 k_A_2 hl_B f_B HX_B k_B_0 k_B_1 k_B_2 hl_C f_C HX_C k_C_0 k_C_1 k_C_2 hl_D f_D HX_D k_D_0 k_D_1 k_D_2 hl_V f_V HX_V k_V_0 k_V_1 k_V_2 HA1 HA2 HB1 HB2 HC1 HC2 HD1 HD2 HV1 HV2 HE1 HE2 HB hN hs0; have hN := hN_wr2; have HB := HB_wr2; have hs0 := hs0_wr2; have hl_A := hl_A_wr2; have f_A := f_A_wr2; have HX_A := HX_A_wr2; have k_A_0 := k_A_0_wr2; have k_A_1 := k_A_1_wr2; have k_A_2 := k_A_2_wr2; have hl_B := hl_B_wr2; have f_B := f_B_wr2; have HX_B := HX_B_wr2; have k_B_0 := k_B_0_wr2; have k_B_1 := k_B_1_wr2; have k_B_2 := k_B_2_wr2; have hl_C := hl_C_wr2; have f_C := f_C_wr2; have HX_C := HX_C_wr2; have k_C_0 := k_C_0_wr2; have k_C_1 := k_C_1_wr2; have k_C_2 := k_C_2_wr2; have hl_D := hl_D_wr2; have f_D := f_D_wr2; have HX_D := HX_D_wr2; have k_D_0 := k_D_0_wr2; have k_D_1 := k_D_1_wr2; have k_D_2 := k_D_2_wr2; have hl_V := hl_V_wr2; have f_V := f_V_wr2; have HX_V := HX_V_wr2; have k_V_0 := k_V_0_wr2; have k_V_1 := k_V_1_wr2; have k_V_2 := k_V_2_wr2; have HA1 := HA1_wr2; have HA2 := HA2_wr2; have HB1 := HB1_wr2; have HB2 := HB2_wr2; have HC1 := HC1_wr2; have HC2 := HC2_wr2; have HD1 := HD1_wr2; have HD2 := HD2_wr2; have HV1 := HV1_wr2; have HV2 := HV2_wr2; have HE1 := HE1_wr2; have HE2 := HE2_wr2; clear hN_wr2 HB_wr2 hs0_wr2 hl_A_wr2 f_A_wr2 HX_A_wr2 k_A_0_wr2 k_A_1_wr2 k_A_2_wr2 hl_B_wr2 f_B_wr2 HX_B_wr2 k_B_0_wr2 k_B_1_wr2 k_B_2_wr2 hl_C_wr2 f_C_wr2 HX_C_wr2 k_C_0_wr2 k_C_1_wr2 k_C_2_wr2 hl_D_wr2 f_D_wr2 HX_D_wr2 k_D_0_wr2 k_D_1_wr2 k_D_2_wr2 hl_V_wr2 f_V_wr2 HX_V_wr2 k_V_0_wr2 k_V_1_wr2 k_V_2_wr2 HA1_wr2 HA2_wr2 HB1_wr2 HB2_wr2 HC1_wr2 HC2_wr2 HD1_wr2 HD2_wr2 HV1_wr2 HV2_wr2 HE1_wr2 HE2_wr2; clear _t tok_1)
          | (go_at_call 10; refine (same25_any (N := N) _ _ _ _ _ _ pa.num.natAbs _ pa.den _ _ _ _ _ (by exact HA1.out) (by exact HA2.out) (by exact HD1.out) (by exact HD2.out)).mono ?_; rintro e wr3 ⟨rfl, hb⟩; replace hb : Below wr2.heap.size wr2 wr3 := (by first | exact hb | exact bel_of_drew hb); have hN_wr3 : N ≤ wr3.heap.size := Nat.le_trans hN hb.size; have hs_wr3 : wr2.heap.size ≤ wr3.heap.size := hb.size; have hs0_wr3 : w3.heap.size ≤ wr3.heap.size := Nat.le_trans hs0 hb.size; have hl_A_wr3 : wA.heap.size < wr3.heap.size := Nat.lt_of_lt_of_le hl_A hb.size; have k_A_0_wr3 : wr3.cell? ⟨wA.heap.size, 0, none⟩ = some (.bool (decide ((pa).num < 0))) := (hb.cell (p := ⟨wA.heap.size, 0, none⟩) hl_A).trans k_A_0; have k_A_1_wr3 : wr3.cell? ⟨wA.heap.size, 1, none⟩ = some (.slice ra (nlen (pa).num.natAbs) ca) := (hb.cell (p := ⟨wA.heap.size, 1, none⟩) hl_A).trans k_A_1; have k_A_2_wr3 : wr3.cell? ⟨wA.heap.size, 2, none⟩ = some (.slice ra2 (nlen (pa).den) ca2) := (hb.cell (p := ⟨wA.heap.size, 2, none⟩) hl_A).trans k_A_2; have f_A_wr3 : ∀ o, wr3.frozen? ⟨wA.heap.size, o, none⟩ = false := fun o => (hb.frozen (p := ⟨wA.heap.size, o, none⟩) hl_A).trans (f_A o); have HX_A_wr3 := Lib.hid (HX_A.out.below hb); have hl_B_wr3 : wB.heap.size < wr3.heap.size := Nat.lt_of_lt_of_le hl_B hb.size; have k_B_0_wr3 : wr3.cell? ⟨wB.heap.size, 0, none⟩ = some (.bool (decide ((pb).num < 0))) := (hb.cell (p := ⟨wB.heap.size, 0, none⟩) hl_B).trans k_B_0; have k_B_1_wr3 : wr3.cell? ⟨wB.heap.size, 1, none⟩ = some (.slice rb (nlen (pb).num.natAbs) cb) := (hb.cell (p := ⟨wB.heap.size, 1, none⟩) hl_B).trans k_B_1; have k_B_2_wr3 : wr3.cell? ⟨wB.heap.size, 2, none⟩ = some (.slice rb2 (nlen (pb).den) cb2) := (hb.cell (p := ⟨wB.heap.size, 2, none⟩) hl_B).trans k_B_2; have f_B_wr3 : ∀ o, wr3.frozen? ⟨wB.heap.size, o, none⟩ = false := fun o => (hb.frozen (p := ⟨wB.heap.size, o, none⟩) hl_B).trans (f_B o); have HX_B_wr3 := Lib.hid (HX_B.out.below hb); have hl_C_wr3 : wC.heap.size < wr3.heap.size := Nat.lt_of_lt_of_le hl_C hb.size; have k_C_0_wr3 : wr3.cell? ⟨wC.heap.size, 0, none⟩ = some (.bool (decide ((pc).num < 0))) := (hb.cell (p := ⟨wC.heap.size, 0, none⟩) hl_C).trans k_C_0; have k_C_1_wr3 : wr3.cell? ⟨wC.heap.size, 1, none⟩ = some (.slice rc (nlen (pc).num.natAbs) cc) := (hb.cell (p := ⟨wC.heap.size, 1, none⟩) hl_C).trans k_C_1; have k_C_2_wr3 : wr3.cell? ⟨wC.heap.size, 2, none⟩ = some (.slice rc2 (nlen (pc).den) cc2) := (hb.cell (p := ⟨wC.heap.size, 2, none⟩) hl_C).trans k_C_2; have f_C_wr3 : ∀ o, wr3.frozen? ⟨wC.heap.size, o, none⟩ = false := fun o => (hb.frozen (p := ⟨wC.heap.size, o, none⟩) hl_C).trans (f_C o); have HX_C_wr3 := Lib.hid (HX_C.out.below hb); have hl_D_wr3 : wD.heap.size < wr3.heap.size := Nat.lt_of_lt_of_le hl_D hb.size; have k_D_0_wr3 : wr3.cell? ⟨wD.heap.size, 0, none⟩ = some (.bool (decide ((pa).num < 0))) := (hb.cell (p := ⟨wD.heap.size, 0, none⟩) hl_D).trans k_D_0; have k_D_1_wr3 : wr3.cell? ⟨wD.heap.size, 1, none⟩ = some (.slice rd (nlen (pa).num.natAbs) cd) := (hb.cell (p := ⟨wD.heap.size, 1, none⟩) hl_D).trans k_D_1; have k_D_2_wr3 : wr3.cell? ⟨wD.heap.size, 2, none⟩ = some (.slice rd2 (nlen (pa).den) cd2) := (hb.cell (p := ⟨wD.heap.size, 2, none⟩) hl_D).trans k_D_2; have f_D_wr3 : ∀ o, wr3.frozen? ⟨wD.heap.size, o, none⟩ = false := fun o => (hb.frozen (p := ⟨wD.heap.size, o, none⟩) hl_D).trans (f_D o); have HX_D_wr3 := Lib.hid (HX_D.out.below hb); have hl_V_wr3 : wV.heap.size < wr3.heap.size := Nat.lt_of_lt_of_le hl_V hb.size; have k_V_0_wr3 : wr3.cell? ⟨wV.heap.size, 0, none⟩ = some (.bool (decide ((pv).num < 0))) := (hb.cell (p := ⟨wV.heap.size, 0, none⟩) hl_V).trans k_V_0; have k_V_1_wr3 : wr3.cell? ⟨wV.heap.size, 1, none⟩ = some (.slice rv (nlen (pv).num.natAbs) cv) := (hb.cell (p := ⟨wV.heap.size, 1, none⟩) hl_V).trans k_V_1; have k_V_2_wr3 : wr3.cell? ⟨wV.heap.size, 2, none⟩ = some (.slice rv2 (nlen (pv).den) cv2) := (hb.cell (p := ⟨wV.heap.size, 2, none⟩) hl_V).trans k_V_2; have f_V_wr3 : ∀ o, wr3.frozen? ⟨wV.heap.size, o, none⟩ = false := fun o => (hb.frozen (p := ⟨wV.heap.size, o, none⟩) hl_V).trans (f_V o); have HX_V_wr3 := Lib.hid (HX_V.out.below hb); have HA1_wr3 := Lib.hid (HA1.out.below hb); have HA2_wr3 := Lib.hid (HA2.out.below hb); have HB1_wr3 := Lib.hid (HB1.out.below hb); have HB2_wr3 := Lib.hid (HB2.out.below hb); have HC1_wr3 := Lib.hid (HC1.out.below hb); have HC2_wr3 := Lib.hid (HC2.out.below hb); have HD1_wr3 := Lib.hid (HD1.out.below hb); have HD2_wr3 := Lib.hid (HD2.out.below hb); have HV1_wr3 := Lib.hid (HV1.out.below hb); have HV2_wr3 := Lib.hid (HV2.out.below hb); have HE1_wr3 := Lib.hid (HE1.out.below hb); have HE2_wr3 := Lib.hid (HE2.out.below hb); have HB_wr3 := Lib.hid (HB.out.trans (hb.mono hs0)); clear hb; clear hl_A f_A HX_A k_A_0 k_A_1 k_A_2 hl_B f_B HX_B k_B_0 k_B_1 k_B_2 hl_C f_C HX_C k_C_0 k_C_1 k_C_2 hl_D f_D HX_D k_D_0 k_D_1 k_D_2 hl_V f_V HX_V k_V_0 k_V_1 k_V_2 HA1 HA2 HB1 HB2 HC1 HC2 HD1 HD2 HV1 HV2 HE1 HE2 HB hN hs0; have hN := hN_wr3; have HB := HB_wr3; have hs0 := hs0_wr3; have hl_A := hl_A_wr3; have f_A := f_A_wr3; have HX_A := HX_A_wr3; have k_A_0 := k_A_0_wr3; have k_A_1 := k_A_1_wr3; have k_A_2 := k_A_2_wr3; have hl_B := hl_B_wr3; have f_B := f_B_wr3; have HX_B := HX_B_wr3; have k_B_0 := k_B_0_wr3; have k_B_1 := k_B_1_wr3; have k_B_2 := k_B_2_wr3; have hl_C := hl_C_wr3; have f_C := f_C_wr3; have HX_C := HX_C_wr3; have k_C_0 := k_C_0_wr3; have k_C_1 := k_C_1_wr3; have k_C_2 := k_C_2_wr3; have hl_D := hl_D_wr3; have f_D := f_D_wr3; have HX_D := HX_D_wr3; have k_D_0 := k_D_0_wr3; have k_D_1 := k_D_1_wr3; have k_D_2 := k_D_2_wr3; have hl_V := hl_V_wr3; have f_V := f_V_wr3; have HX_V := HX_V_wr3; have k_V_0 := k_V_0_wr3; have k_V_1 := k_V_1_wr3; have k_V_2 := k_V_2_wr3; have HA1 := HA1_wr3; have HA2 := HA2_wr3; have HB1 := HB1_wr3; have HB2 := HB2_wr3; have HC1 := HC1_wr3; have HC2 := HC2_wr3; have HD1 := HD1_wr3; have HD2 := HD2_wr3; have HV1 := HV1_wr3; have HV2 := HV2_wr3; have HE1 := HE1_wr3; have HE2 := HE2_wr3; clear hN_wr3 HB_wr3 hs0_wr3 hl_A_wr3 f_A_wr3 HX_A_wr3 k_A_0_wr3 k_A_1_wr3 k_A_2_wr3 hl_B_wr3 f_B_wr3 HX_B_wr3 k_B_0_wr3 k_B_1_wr3 k_B_2_wr3 hl_C_wr3 f_C_wr3 HX_C_wr3 k_C_0_wr3 k_C_1_wr3 k_C_2_wr3 hl_D_wr3 f_D_wr3 HX_D_wr3 k_D_0_wr3 k_D_1_wr3 k_D_2_wr3 hl_V_wr3 f_V_wr3 HX_V_wr3 k_V_0_wr3 k_V_1_wr3 k_V_2_wr3 HA1_wr3 HA2_wr3 HB1_wr3 HB2_wr3 HC1_wr3 HC2_wr3 HD1_wr3 HD2_wr3 HV1_wr3 HV2_wr3 HE1_wr3 HE2_wr3; skip)
          | (go_at_call 12; refine (rsign_any (N := N) _ _ _ _ _ _ _ 7 pv _ (by exact hN) (by exact Rt.of_norm HV1.out HV2.out 7 zv.out)).mono ?_; rintro e wr4 ⟨rfl, hb⟩; replace hb : Below wr3.heap.size wr3 wr4 := (by first | exact hb | exact bel_of_drew hb); have hN_wr4 : N ≤ wr4.heap.size := Nat.le_trans hN hb.size; have hs_wr4 : wr3.heap.size ≤ wr4.heap.size := hb.size; have hs0_wr4 : w3.heap.size ≤ wr4.heap.size := Nat.le_trans hs0 hb.size; have hl_A_wr4 : wA.heap.size < wr4.heap.size := Nat.lt_of_lt_of_le hl_A hb.size; have k_A_0_wr4 : wr4.cell? ⟨wA.heap.size, 0, none⟩ = some (.bool (decide ((pa).num < 0))) := (hb.cell (p := ⟨wA.heap.size, 0, none⟩) hl_A).trans k_A_0; have k_A_1_wr4 : wr4.cell? ⟨wA.heap.size, 1, none⟩ = some (.slice ra (nlen (pa).num.natAbs) ca) := (hb.cell (p := ⟨wA.heap.size, 1, none⟩) hl_A).trans k_A_1; have k_A_2_wr4 : wr4.cell? ⟨wA.heap.size, 2, none⟩ = some (.slice ra2 (nlen (pa).den) ca2) := (hb.cell (p := ⟨wA.heap.size, 2, none⟩) hl_A).trans k_A_2; have f_A_wr4 : ∀ o, wr4.frozen? ⟨wA.heap.size, o, none⟩ = false := fun o => (hb.frozen (p := ⟨wA.heap.size, o, none⟩) hl_A).trans (f_A o); have HX_A_wr4 := Lib.hid (HX_A.out.below hb); have hl_B_wr4 : wB.heap.size < wr4.heap.size := Nat.lt_of_lt_of_le hl_B hb.size; have k_B_0_wr4 : wr4.cell? ⟨wB.heap.size, 0, none⟩ = some (.bool (decide ((pb).num < 0))) := (hb.cell (p := ⟨wB.heap.size, 0, none⟩) hl_B).trans k_B_0; have k_B_1_wr4 : wr4.cell? ⟨wB.heap.size, 1, none⟩ = some (.slice rb (nlen (pb).num.natAbs) cb) := (hb.cell (p := ⟨wB.heap.size, 1, none⟩) hl_B).trans k_B_1; have k_B_2_wr4 : wr4.cell? ⟨wB.heap.size, 2, none⟩ = some (.slice rb2 (nlen (pb).den) cb2) := (hb.cell (p := ⟨wB.heap.size, 2, none⟩) hl_B).trans k_B_2; have f_B_wr4 : ∀ o, wr4.frozen? ⟨wB.heap.size, o, none⟩ = false := fun o => (hb.frozen (p := ⟨wB.heap.size, o, none⟩) hl_B).trans (f_B o); have HX_B_wr4 := Lib.hid (HX_B.out.below hb); have hl_C_wr4 : wC.heap.size < wr4.heap.size := Nat.lt_of_lt_of_le hl_C hb.size; have k_C_0_wr4 : wr4.cell? ⟨wC.heap.size, 0, none⟩ = some (.bool (decide ((pc).num < 0))) := (hb.cell (p := ⟨wC.heap.size, 0, none⟩) hl_C).trans k_C_0; have k_C_1_wr4 : wr4.cell? ⟨wC.heap.size, 1, none⟩ = some (.slice rc (nlen (pc).num.natAbs) cc) := (hb.cell (p := ⟨wC.heap.size, 1, none⟩) hl_C).trans k_C_1; have k_C_2_wr4 : wr4.cell? ⟨wC.heap.size, 2, none⟩ = some (.slice rc2 (nlen (pc).den) cc2) := (hb.cell (p := ⟨wC.heap.size, 2, none⟩) hl_C).trans k_C_2; have f_C_wr4 : ∀ o, wr4.frozen? ⟨wC.heap.size, o, none⟩ = false := fun o => (hb.frozen (p := ⟨wC.heap.size, o, none⟩) hl_C).trans (f_C o); have HX_C_wr4 := Lib.hid (HX_C.out.below hb); have hl_D_wr4 : wD.heap.size < wr4.heap.size := Nat.lt_of_lt_of_le hl_D hb.size; have k_D_0_wr4 : wr4.cell? ⟨wD.heap.size, 0, none⟩ = some (.bool (decide ((pa).num < 0))) := (hb.cell (p := ⟨wD.heap.size, 0, none⟩) hl_D).trans k_D_0; have k_D_1_wr4 : wr4.cell? ⟨wD.heap.size, 1, none⟩ = some (.slice rd (nlen (pa).num.natAbs) cd) := (hb.cell (p := ⟨wD.heap.size, 1, none⟩) hl_D).trans k_D_1; have k_D_2_wr4 : wr4.cell? ⟨wD.heap.size, 2, none⟩ = some (.slice rd2 (nlen (pa).den) cd2) := (hb.cell (p := ⟨wD.heap.size, 2, none⟩) hl_D).trans k_D_2; have f_D_wr4 : ∀ o, wr4.frozen? ⟨wD.heap.size, o, none⟩ = false := fun o => (hb.frozen (p := ⟨wD.heap.size, o, none⟩) hl_D).trans (f_D o); have HX_D_wr4 := Lib.hid (HX_D.out.below hb); have hl_V_wr4 : wV.heap.size < wr4.heap.size := Nat.lt_of_lt_of_le hl_V hb.size; have k_V_0_wr4 : wr4.cell? ⟨wV.heap.size, 0, none⟩ = some (.bool (decide ((pv).num < 0))) := (hb.cell (p := ⟨wV.heap.size, 0, none⟩) hl_V).trans k_V_0; have k_V_1_wr4 : wr4.cell? ⟨wV.heap.size, 1, none⟩ = some (.slice rv (nlen (pv).num.natAbs) cv) := (hb.cell (p := ⟨wV.heap.size, 1, none⟩) hl_V).trans k_V_1; have k_V_2_wr4 : wr4.cell? ⟨wV.heap.size, 2, none⟩ = some (.slice rv2 (nlen (pv).den) cv2) := (hb.cell (p := ⟨wV.heap.size, 2, none⟩) hl_V).trans k_V_2; have f_V_wr4 : ∀ o, wr4.frozen? ⟨wV.heap.size, o, none⟩ = false := fun o => (hb.frozen (p := ⟨wV.heap.size, o, none⟩) hl_V).trans (f_V o); have HX_V_wr4 := Lib.hid (HX_V.out.below hb); have HA1_wr4 := Lib.hid (HA1.out.below hb); have HA2_wr4 := Lib.hid (HA2.out.below hb); have HB1_wr4 := Lib.hid (HB1.out.below hb); have HB2_wr4 := Lib.hid (HB2.out.below hb); have HC1_wr4 := Lib.hid (HC1.out.below hb); have HC2_wr4 := Lib.hid (HC2.out.below hb); have HD1_wr4 := Lib.hid (HD1.out.below hb); have HD2_wr4 := Lib.hid (HD2.out.below hb); have HV1_wr4 := Lib.hid (HV1.out.below hb); have HV2_wr4 := Lib.hid (HV2.out.below hb); have HE1_wr4 := Lib.hid (HE1.out.below hb); have HE2_wr4 := Lib.hid (HE2.out.below hb); have HB_wr4 := Lib.hid (HB.out.trans (hb.mono hs0)); clear hb; clear hl_A f_A HX_A k_A_0 k_A_1 k_A_2 hl_B f_B HX_B k_B_0 k_B_1 k_B_2 hl_C f_C HX_C k_C_0 k_C_1 k_C_2 hl_D f_D HX_D k_D_0 k_D_1 k_D_2 hl_V f_V HX_V k_V_0 k_V_1 k_V_2 HA1 HA2 HB1 HB2 HC1 HC2 HD1 HD2 HV1 HV2 HE1 HE2 HB hN hs0; have hN := hN_wr4; have HB := HB_wr4; have hs0 := hs0_wr4; have hl_A := hl_A_wr4; have f_A := f_A_wr4; have HX_A := HX_A_wr4; have k_A_0 := k_A_0_wr4; have k_A_1 := k_A_1_wr4; have k_A_2 := k_A_2_wr4; have hl_B := hl_B_wr4; have f_B := f_B_wr4; have HX_B := HX_B_wr4; have k_B_0 := k_B_0_wr4; have k_B_1 := k_B_1_wr4; have k_B_2 := k_B_2_wr4; have hl_C := hl_C_wr4; have f_C := f_C_wr4; have HX_C := HX_C_wr4; have k_C_0 := k_C_0_wr4; have k_C_1 := k_C_1_wr4; have k_C_2 := k_C_2_wr4; have hl_D := hl_D_wr4; have f_D := f_D_wr4; have HX_D := HX_D_wr4; have k_D_0 := k_D_0_wr4; have k_D_1 := k_D_1_wr4; have k_D_2 := k_D_2_wr4; have hl_V := hl_V_wr4; have f_V := f_V_wr4; have HX_V := HX_V_wr4; have k_V_0 := k_V_0_wr4; have k_V_1 := k_V_1_wr4; have k_V_2 := k_V_2_wr4; have HA1 := HA1_wr4; have HA2 := HA2_wr4; have HB1 := HB1_wr4; have HB2 := HB2_wr4; have HC1 := HC1_wr4; have HC2 := HC2_wr4; have HD1 := HD1_wr4; have HD2 := HD2_wr4; have HV1 := HV1_wr4; have HV2 := HV2_wr4; have HE1 := HE1_wr4; have HE2 := HE2_wr4; clear hN_wr4 HB_wr4 hs0_wr4 hl_A_wr4 f_A_wr4 HX_A_wr4 k_A_0_wr4 k_A_1_wr4 k_A_2_wr4 hl_B_wr4 f_B_wr4 HX_B_wr4 k_B_0_wr4 k_B_1_wr4 k_B_2_wr4 hl_C_wr4 f_C_wr4 HX_C_wr4 k_C_0_wr4 k_C_1_wr4 k_C_2_wr4 hl_D_wr4 f_D_wr4 HX_D_wr4 k_D_0_wr4 k_D_1_wr4 k_D_2_wr4 hl_V_wr4 f_V_wr4 HX_V_wr4 k_V_0_wr4 k_V_1_wr4 k_V_2_wr4 HA1_wr4 HA2_wr4 HB1_wr4 HB2_wr4 HC1_wr4 HC2_wr4 HD1_wr4 HD2_wr4 HV1_wr4 HV2_wr4 HE1_wr4 HE2_wr4; skip))
      go_wp2_with fail
      go_ret
      exact ⟨rfl, HBT.out.trans (HB.out.mono hbz)⟩

end Go.Proofs.YtbjgnpgachdlaaaDoor
