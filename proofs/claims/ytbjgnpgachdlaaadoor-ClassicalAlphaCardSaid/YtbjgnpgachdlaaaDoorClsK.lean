/- Contracts of classical.checkLists for all lists, of Correlation, and of law25.many. -/
import Derived.Test.YtbjgnpgachdlaaaDoorClsG
import Derived.Test.YtbjgnpgachdlaaaDoorClsJ
namespace Go.Proofs.YtbjgnpgachdlaaaDoor
open Go.RowKit

/-- the first rule that two lists violate, 0 if none -/
def chkC (nx ny : Nat) (x y : Nat → Int) : Int := if 200 < nx ∨ 200 < ny then 5 else if inrB x nx = false ∨ inrB y ny = false then 3 else if nx ≠ ny then 1 else if nx = 0 then 20 else 0
theorem chkC_comm (nx ny : Nat) (x y : Nat → Int) : chkC nx ny x y = chkC ny nx y x := by
  unfold chkC
  by_cases h1 : 200 < nx ∨ 200 < ny
  · rw [if_pos h1, if_pos h1.symm]
  · have h1' : ¬ (200 < ny ∨ 200 < nx) := fun h => h1 h.symm
    rw [if_neg h1, if_neg h1']
    by_cases h2 : inrB x nx = false ∨ inrB y ny = false
    · rw [if_pos h2, if_pos h2.symm]
    · have h2' : ¬ (inrB y ny = false ∨ inrB x nx = false) := fun h => h2 h.symm
      rw [if_neg h2, if_neg h2']
      by_cases h3 : nx = ny
      · subst h3; rfl
      · have h3' : ny ≠ nx := fun h => h3 h.symm
        rw [if_pos h3, if_pos h3']
theorem chkC_zero {nx ny : Nat} {x y : Nat → Int} (h : chkC nx ny x y = 0) : nx = ny ∧ 0 < nx ∧ nx ≤ 200 ∧ InR x nx ∧ InR y ny := by
  unfold chkC at h
  by_cases h1 : 200 < nx ∨ 200 < ny
  · rw [if_pos h1] at h; cases h
  rw [if_neg h1] at h
  by_cases h2 : inrB x nx = false ∨ inrB y ny = false
  · rw [if_pos h2] at h; cases h
  rw [if_neg h2] at h
  by_cases h3 : nx = ny
  · rw [if_neg (by simpa using h3)] at h
    by_cases h4 : nx = 0
    · rw [if_pos h4] at h; cases h
    · refine ⟨h3, by omega, by omega, inrB_true.1 ?_, inrB_true.1 ?_⟩
      · rcases hb : inrB x nx with _ | _
        · exact absurd (.inl hb) h2
        · rfl
      · rcases hb : inrB y ny with _ | _
        · exact absurd (.inr hb) h2
        · rfl
  · rw [if_pos h3] at h; cases h

set_option maxHeartbeats 2000000 in
theorem checkLists_any (a b : Option Addr) (nx ca ny cb : Nat) (x y : Nat → Int) (w : World) (hx : Is w a nx ca x) (hy : Is w b ny cb y) :
    Calls Tryd.prog 32 #[.slice a nx ca, .slice b ny cb] w fun e w' => e = .returned (.int .i64 (chkC nx ny x y)) ∧ w = w' := by
  have l1 := hx.1
  have l2 := hx.2.1
  have l3 := hy.1
  have l4 := hy.2.1
  unfold maxLen at l2 l4
  have HX := Lib.hid hx
  have HY := Lib.hid hy
  clear hx hy
  by_cases h1 : 200 < nx
  · have HE := Lib.hid (show chkC nx ny x y = 5 by unfold chkC; rw [if_pos (.inl h1)])
    have d1 : decide (200 < (nx : Int)) = true := by simp; omega
    go_enter Tryd.func32, Tryd.ntmps32
    go_wp2_with fail
    go_ret
    rw [HE.out]
    exact ⟨rfl, rfl⟩
  · have d1 : decide (200 < (nx : Int)) = false := by simp; omega
    by_cases h2 : 200 < ny
    · have HE := Lib.hid (show chkC nx ny x y = 5 by unfold chkC; rw [if_pos (.inr h2)])
      have d2 : decide (200 < (ny : Int)) = true := by simp; omega
      go_enter Tryd.func32, Tryd.ntmps32
      go_wp2_with fail
      go_ret
      rw [HE.out]
      exact ⟨rfl, rfl⟩
    · have d2 : decide (200 < (ny : Int)) = false := by simp; omega
      have h12 : ¬ (200 < nx ∨ 200 < ny) := by omega
      have HCK := Lib.hid (show chkC nx ny x y = if inrB x nx = false ∨ inrB y ny = false then 3 else if nx ≠ ny then 1 else if nx = 0 then 20 else 0 by unfold chkC; rw [if_neg h12])
      go_enter Tryd.func32, Tryd.ntmps32
      go_wp2_with fail
      refine (inRange_any _ _ _ x _ HX.out).mono ?_
      rcases hbx : inrB x nx with _ | _
      · have HE := Lib.hid (show chkC nx ny x y = 3 by rw [HCK.out, if_pos (.inl hbx)])
        clear hbx
        rintro e w' ⟨rfl, rfl⟩
        go_wp2_with fail
        go_ret
        rw [HE.out]
        exact ⟨rfl, rfl⟩
      · rintro e w' ⟨rfl, rfl⟩
        have HBX := Lib.hid hbx
        clear hbx
        go_wp2_with fail
        refine (inRange_any _ _ _ y _ HY.out).mono ?_
        rcases hby : inrB y ny with _ | _
        · have HE := Lib.hid (show chkC nx ny x y = 3 by rw [HCK.out, if_pos (.inr hby)])
          clear hby
          rintro e w' ⟨rfl, rfl⟩
          go_wp2_with fail
          go_ret
          rw [HE.out]
          exact ⟨rfl, rfl⟩
        · rintro e w' ⟨rfl, rfl⟩
          have HC2 := Lib.hid (show chkC nx ny x y = if nx ≠ ny then 1 else if nx = 0 then 20 else 0 by rw [HCK.out, if_neg (by rw [HBX.out, hby]; simp)])
          clear hby
          by_cases h3 : nx = ny
          · subst h3
            have d3 : ((nx : Int) != (nx : Int)) = false := by simp
            by_cases h4 : nx = 0
            · have HE := Lib.hid (show chkC nx nx x y = 20 by rw [HC2.out, if_neg (by simp), if_pos h4])
              subst h4
              go_wp2_with fail
              go_ret
              rw [HE.out]
              exact ⟨rfl, rfl⟩
            · have HE := Lib.hid (show chkC nx nx x y = 0 by rw [HC2.out, if_neg (by simp), if_neg h4])
              have d4 : ((nx : Int) == 0) = false := by simp; omega
              go_wp2_with fail
              go_ret
              rw [HE.out]
              exact ⟨rfl, rfl⟩
          · have HE := Lib.hid (show chkC nx ny x y = 1 by rw [HC2.out, if_pos h3])
            have d3 : ((nx : Int) != (ny : Int)) = true := by simp; omega
            go_wp2_with fail
            go_ret
            rw [HE.out]
            exact ⟨rfl, rfl⟩

set_option maxHeartbeats 1000000 in
theorem many_any (a : Option Addr) (n cap : Nat) (z : Nat → Int) (w : World) (h : Is w a n cap z) : Calls Tryd.prog 17 #[.slice a n cap] w (MuchPost w) := by
  have l1 := h.1
  have l2 := h.2.1
  unfold maxLen at l2
  clear h
  by_cases h1 : 40 < n
  · have d1 : decide (40 < (n : Int)) = true := by simp; omega
    go_enter Tryd.func17, Tryd.ntmps17
    go_wp2_with fail
    go_ret
    exact ⟨_, rfl, rfl⟩
  · have d1 : decide (40 < (n : Int)) = false := by simp; omega
    go_enter Tryd.func17, Tryd.ntmps17
    go_wp2_with fail
    go_ret
    exact ⟨_, rfl, rfl⟩

/-- it returns a sign, the normal form of q, and an error code -/
def CorPost (N : Nat) (w : World) (s : Int) (q : Rat) (c : Int) (e : Ending) (w' : World) : Prop :=
  ∃ r cr r2 cr2, e = .returned (.tuple #[.int .i64 s, .agg #[.bool (decide (q.num < 0)), .slice r (nlen q.num.natAbs) cr, .slice r2 (nlen q.den) cr2], .int .i64 c]) ∧ Nt N w' r (nlen q.num.natAbs) cr q.num.natAbs ∧ Nt N w' r2 (nlen q.den) cr2 q.den ∧ Below w.heap.size w w'

set_option maxHeartbeats 2000000 in
theorem corr_no {N : Nat} (a b : Option Addr) (nx ca ny cb : Nat) (x y : Nat → Int) (w : World) (hN : N ≤ w.heap.size) (hx : Is w a nx ca x) (hy : Is w b ny cb y) (c : Int) (hc : chkC nx ny x y = c) (hc0 : c ≠ 0) (p : Rat) (hp : (0 : Rat) = p) :
    Calls Tryd.prog 18 #[.slice a nx ca, .slice b ny cb] w (CorPost N w 0 p c) := by
  have HX := Lib.hid hx
  have HY := Lib.hid hy
  have HC := Lib.hid hc
  have HP := Lib.hid hp
  have hcb : (c != 0) = true := by simpa using hc0
  clear hx hy hc hp hc0
  have hN0 := hN
  have hs0 : w.heap.size ≤ w.heap.size := Nat.le_refl _
  have HB := Lib.hid (Below.refl w.heap.size w)
  go_enter Tryd.func18, Tryd.ntmps18
  go_wp2_with fail
  refine calls_name fun W0 hW => ?_
  have hN_W0 : N ≤ W0.heap.size := by rw [← hW]; (first | omega | (simp; done) | (simp; omega))
  have hs_W0 : w.heap.size ≤ W0.heap.size := by rw [← hW]; (first | omega | (simp; done) | (simp; omega))
  have hs0_W0 : w.heap.size ≤ W0.heap.size := by rw [← hW]; (first | omega | (simp; done) | (simp; omega))
  have hl_R_W0 : w.heap.size < W0.heap.size := by rw [← hW]; (first | omega | (simp; done) | (simp; omega))
  have k_R_0_W0 : W0.cell? ⟨w.heap.size, 0, none⟩ = some (.bool false) := by rw [← hW]; (first | (go_simp; done) | (simp; done) | (simp [go_sem]; done) | (simp [go_sem]; done))
  have k_R_1_W0 : W0.cell? ⟨w.heap.size, 1, none⟩ = some (.slice none 0 0) := by rw [← hW]; (first | (go_simp; done) | (simp; done) | (simp [go_sem]; done) | (simp [go_sem]; done))
  have k_R_2_W0 : W0.cell? ⟨w.heap.size, 2, none⟩ = some (.slice none 0 0) := by rw [← hW]; (first | (go_simp; done) | (simp; done) | (simp [go_sem]; done) | (simp [go_sem]; done))
  have f_R_W0 : ∀ o, W0.frozen? ⟨w.heap.size, o, none⟩ = false := by intro o; rw [← hW]; (first | (go_simp; done) | (simp; done) | (simp [go_sem]; done) | (simp [go_sem]; done))
  have HX_R_W0 := Lib.hid (show Bn W0 (w.heap.size) by rw [← hW]; (repeat' (first | with_reducible exact Kp.refl _ _ | with_reducible apply Kp.alloc | with_reducible apply Kp.drew | (with_reducible refine Kp.put ?_ ?_ ?_ _; rotate_left; (focus (first | omega | (simp; done) | (simp; omega))); rotate_left) | (with_reducible refine Bn.new _ _ _ _ ?_ ?_; (focus (first | omega | (simp; done) | (simp; omega))); decide) | with_reducible apply Bn.alloc | with_reducible apply Bn.drew | with_reducible apply Bn.set)))
  have HB_W0 := Lib.hid (show Below w.heap.size w W0 by rw [← hW]; (repeat' (first | with_reducible exact Below.refl _ _ | with_reducible exact HB.out | (with_reducible refine Below.alloc ?_ ?_ _; rotate_left; (focus (first | omega | (simp; done) | (simp; omega)))) | with_reducible apply Below.drew | (with_reducible refine Below.setCell ?_ ?_ _; rotate_left; (focus (first | omega | (simp; done) | (simp; omega)))))))
  clear hW
  clear HB hN hs0
  have hN := hN_W0
  have HB := HB_W0
  have hs0 := hs0_W0
  have hl_R := hl_R_W0
  have f_R := f_R_W0
  have HX_R := HX_R_W0
  have k_R_0 := k_R_0_W0
  have k_R_1 := k_R_1_W0
  have k_R_2 := k_R_2_W0
  clear hN_W0 HB_W0 hs0_W0 hl_R_W0 f_R_W0 HX_R_W0 k_R_0_W0 k_R_1_W0 k_R_2_W0
  refine (checkLists_any _ _ _ _ _ _ x y _ (HX.out.below HB.out) (HY.out.below HB.out)).mono ?_
  rw [HC.out]
  rintro e w' ⟨rfl, rfl⟩
  go_wp2_with fail
  refine (czero_any (N := N) _ hN p HP.out).mono ?_
  rintro e wa ⟨ru, cu, ru2, cu2, rfl, hn, hn', hb⟩
  have hN_wa : N ≤ wa.heap.size := Nat.le_trans hN hb.size
  have hs_wa : W0.heap.size ≤ wa.heap.size := hb.size
  have hs0_wa : w.heap.size ≤ wa.heap.size := Nat.le_trans hs0 hb.size
  have hl_R_wa : w.heap.size < wa.heap.size := Nat.lt_of_lt_of_le hl_R hb.size
  have k_R_0_wa : wa.cell? ⟨w.heap.size, 0, none⟩ = some (.bool false) := (hb.cell (p := ⟨w.heap.size, 0, none⟩) hl_R).trans k_R_0
  have k_R_1_wa : wa.cell? ⟨w.heap.size, 1, none⟩ = some (.slice none 0 0) := (hb.cell (p := ⟨w.heap.size, 1, none⟩) hl_R).trans k_R_1
  have k_R_2_wa : wa.cell? ⟨w.heap.size, 2, none⟩ = some (.slice none 0 0) := (hb.cell (p := ⟨w.heap.size, 2, none⟩) hl_R).trans k_R_2
  have f_R_wa : ∀ o, wa.frozen? ⟨w.heap.size, o, none⟩ = false := fun o => (hb.frozen (p := ⟨w.heap.size, o, none⟩) hl_R).trans (f_R o)
  have HX_R_wa := Lib.hid (HX_R.out.below hb)
  have HB_wa := Lib.hid (HB.out.trans (hb.mono hs0))
  clear hb
  clear hl_R f_R HX_R k_R_0 k_R_1 k_R_2 HB hN hs0
  have hN := hN_wa
  have HB := HB_wa
  have hs0 := hs0_wa
  have hl_R := hl_R_wa
  have f_R := f_R_wa
  have HX_R := HX_R_wa
  have k_R_0 := k_R_0_wa
  have k_R_1 := k_R_1_wa
  have k_R_2 := k_R_2_wa
  clear hN_wa HB_wa hs0_wa hl_R_wa f_R_wa HX_R_wa k_R_0_wa k_R_1_wa k_R_2_wa
  have HU1 := Lib.hid hn
  clear hn
  have HU2 := Lib.hid hn'
  clear hn'
  go_wp2_with fail
  refine bodyPost_ret (v := .tuple #[.int .i64 0, .agg #[.bool (decide ((p).num < 0)), .slice ru (nlen (p).num.natAbs) cu, .slice ru2 (nlen (p).den) cu2], .int .i64 c]) (by simp [results, Tryd.results18, go_sem, k_R_0, k_R_1, k_R_2]) rfl ⟨_, _, _, _, rfl, HU1.out.keep ?_, HU2.out.keep ?_, ?_⟩
  all_goals first | ((repeat' (first | with_reducible exact Kp.refl _ _ | with_reducible exact HX_R.out | with_reducible apply Kp.alloc | with_reducible apply Kp.drew | (with_reducible refine Kp.put ?_ ?_ ?_ _; rotate_left; (focus (first | omega | (simp; done) | (simp; omega))); rotate_left) | (with_reducible refine Bn.new _ _ _ _ ?_ ?_; (focus (first | omega | (simp; done) | (simp; omega))); decide) | with_reducible apply Bn.alloc | with_reducible apply Bn.drew | with_reducible apply Bn.set)); done) | ((repeat' (first | with_reducible exact Below.refl _ _ | with_reducible exact HB.out | (with_reducible refine Below.alloc ?_ ?_ _; rotate_left; (focus (first | omega | (simp; done) | (simp; omega)))) | with_reducible apply Below.drew | (with_reducible refine Below.setCell ?_ ?_ _; rotate_left; (focus (first | omega | (simp; done) | (simp; omega)))))); done)

set_option maxHeartbeats 4000000 in
theorem corr_zero {N : Nat} (a b : Option Addr) (nx ca ny cb : Nat) (x y : Nat → Int) (w : World) (hN : N ≤ w.heap.size) (hx : Is w a nx ca x) (hy : Is w b ny cb y) (hc : chkC nx ny x y = 0) (pA pB pC : Rat) (hA : cov x x nx = pA) (hB : cov y y nx = pB) (hC : cov x y nx = pC) (hAB : pA * pB = 0) (p : Rat) (hp : (0 : Rat) = p) :
    Calls Tryd.prog 18 #[.slice a nx ca, .slice b ny cb] w (CorPost N w 0 p 20) := by
  obtain ⟨hxy, n0, n200, rx, ry⟩ := chkC_zero hc
  subst hxy
  obtain ⟨pM, hpM⟩ : ∃ q, pC * pC = q := ⟨_, rfl⟩
  obtain ⟨pN, hpN⟩ : ∃ q, pA * pB = q := ⟨_, rfl⟩
  have ZC := Lib.hid (show rsz pC ≤ 7 by rw [← hC]; exact rsz_cov rx.big ry.big n200)
  have ZA := Lib.hid (show rsz pA ≤ 7 by rw [← hA]; exact rsz_cov rx.big rx.big n200)
  have ZB := Lib.hid (show rsz pB ≤ 7 by rw [← hB]; exact rsz_cov ry.big ry.big n200)
  have ZM := Lib.hid (show rsz pM ≤ 14 by rw [← hpM]; have := rsz_mul pC pC; have := ZC.out; omega)
  have ZN := Lib.hid (show rsz pN ≤ 14 by rw [← hpN]; have := rsz_mul pA pB; have := ZA.out; have := ZB.out; omega)
  have HX := Lib.hid hx
  have HY := Lib.hid hy
  have HC := Lib.hid hc
  have RX := Lib.hid rx
  have RY := Lib.hid ry
  have HPC := Lib.hid hC
  have HPA := Lib.hid hA
  have HPB := Lib.hid hB
  have HPM := Lib.hid hpM
  have HPN := Lib.hid hpN
  obtain ⟨pQ, hpQ⟩ : ∃ q, pM / pN = q := ⟨_, rfl⟩
  have HPQ := Lib.hid hpQ
  have HOK := Lib.hid (show decide (pN ≠ 0) = false by rw [← hpN, hAB]; simp)
  have HP := Lib.hid hp
  clear hx hy hc rx ry hA hB hC hpM hpN hpQ hp hAB n0
  have hN0 := hN
  have hs0 : w.heap.size ≤ w.heap.size := Nat.le_refl _
  have HB := Lib.hid (Below.refl w.heap.size w)
  go_enter Tryd.func18, Tryd.ntmps18
  go_wp2_with fail
  refine calls_name fun W0 hW => ?_
  have hN_W0 : N ≤ W0.heap.size := by rw [← hW]; (first | omega | (simp; done) | (simp; omega))
  have hs_W0 : w.heap.size ≤ W0.heap.size := by rw [← hW]; (first | omega | (simp; done) | (simp; omega))
  have hs0_W0 : w.heap.size ≤ W0.heap.size := by rw [← hW]; (first | omega | (simp; done) | (simp; omega))
  have hl_R_W0 : w.heap.size < W0.heap.size := by rw [← hW]; (first | omega | (simp; done) | (simp; omega))
  have k_R_0_W0 : W0.cell? ⟨w.heap.size, 0, none⟩ = some (.bool false) := by rw [← hW]; (first | (go_simp; done) | (simp; done) | (simp [go_sem]; done) | (simp [go_sem]; done))
  have k_R_1_W0 : W0.cell? ⟨w.heap.size, 1, none⟩ = some (.slice none 0 0) := by rw [← hW]; (first | (go_simp; done) | (simp; done) | (simp [go_sem]; done) | (simp [go_sem]; done))
  have k_R_2_W0 : W0.cell? ⟨w.heap.size, 2, none⟩ = some (.slice none 0 0) := by rw [← hW]; (first | (go_simp; done) | (simp; done) | (simp [go_sem]; done) | (simp [go_sem]; done))
  have f_R_W0 : ∀ o, W0.frozen? ⟨w.heap.size, o, none⟩ = false := by intro o; rw [← hW]; (first | (go_simp; done) | (simp; done) | (simp [go_sem]; done) | (simp [go_sem]; done))
  have HX_R_W0 := Lib.hid (show Bn W0 (w.heap.size) by rw [← hW]; (repeat' (first | with_reducible exact Kp.refl _ _ | with_reducible apply Kp.alloc | with_reducible apply Kp.drew | (with_reducible refine Kp.put ?_ ?_ ?_ _; rotate_left; (focus (first | omega | (simp; done) | (simp; omega))); rotate_left) | (with_reducible refine Bn.new _ _ _ _ ?_ ?_; (focus (first | omega | (simp; done) | (simp; omega))); decide) | with_reducible apply Bn.alloc | with_reducible apply Bn.drew | with_reducible apply Bn.set)))
  have HB_W0 := Lib.hid (show Below w.heap.size w W0 by rw [← hW]; (repeat' (first | with_reducible exact Below.refl _ _ | with_reducible exact HB.out | (with_reducible refine Below.alloc ?_ ?_ _; rotate_left; (focus (first | omega | (simp; done) | (simp; omega)))) | with_reducible apply Below.drew | (with_reducible refine Below.setCell ?_ ?_ _; rotate_left; (focus (first | omega | (simp; done) | (simp; omega)))))))
  clear hW
  clear HB hN hs0
  have hN := hN_W0
  have HB := HB_W0
  have hs0 := hs0_W0
  have hl_R := hl_R_W0
  have f_R := f_R_W0
  have HX_R := HX_R_W0
  have k_R_0 := k_R_0_W0
  have k_R_1 := k_R_1_W0
  have k_R_2 := k_R_2_W0
  clear hN_W0 HB_W0 hs0_W0 hl_R_W0 f_R_W0 HX_R_W0 k_R_0_W0 k_R_1_W0 k_R_2_W0
  refine (checkLists_any _ _ _ _ _ _ x y _ (HX.out.below HB.out) (HY.out.below HB.out)).mono ?_
  rw [HC.out]
  rintro e w' ⟨rfl, rfl⟩
  go_wp2_with fail
  refine (covariance_any (N := N) _ _ _ _ _ x y _ hN (HX.out.below HB.out) (HY.out.below HB.out) RX.out.big RY.out.big n200 pC HPC.out).mono ?_
  rintro e wa ⟨rb, cb, rb2, cb2, rfl, hn, hn', hb⟩
  have hN_wa : N ≤ wa.heap.size := Nat.le_trans hN hb.size
  have hs_wa : W0.heap.size ≤ wa.heap.size := hb.size
  have hs0_wa : w.heap.size ≤ wa.heap.size := Nat.le_trans hs0 hb.size
  have hl_R_wa : w.heap.size < wa.heap.size := Nat.lt_of_lt_of_le hl_R hb.size
  have k_R_0_wa : wa.cell? ⟨w.heap.size, 0, none⟩ = some (.bool false) := (hb.cell (p := ⟨w.heap.size, 0, none⟩) hl_R).trans k_R_0
  have k_R_1_wa : wa.cell? ⟨w.heap.size, 1, none⟩ = some (.slice none 0 0) := (hb.cell (p := ⟨w.heap.size, 1, none⟩) hl_R).trans k_R_1
  have k_R_2_wa : wa.cell? ⟨w.heap.size, 2, none⟩ = some (.slice none 0 0) := (hb.cell (p := ⟨w.heap.size, 2, none⟩) hl_R).trans k_R_2
  have f_R_wa : ∀ o, wa.frozen? ⟨w.heap.size, o, none⟩ = false := fun o => (hb.frozen (p := ⟨w.heap.size, o, none⟩) hl_R).trans (f_R o)
  have HX_R_wa := Lib.hid (HX_R.out.below hb)
  have HB_wa := Lib.hid (HB.out.trans (hb.mono hs0))
  clear hb
  clear hl_R f_R HX_R k_R_0 k_R_1 k_R_2 HB hN hs0
  have hN := hN_wa
  have HB := HB_wa
  have hs0 := hs0_wa
  have hl_R := hl_R_wa
  have f_R := f_R_wa
  have HX_R := HX_R_wa
  have k_R_0 := k_R_0_wa
  have k_R_1 := k_R_1_wa
  have k_R_2 := k_R_2_wa
  clear hN_wa HB_wa hs0_wa hl_R_wa f_R_wa HX_R_wa k_R_0_wa k_R_1_wa k_R_2_wa
  have HB1 := Lib.hid hn
  clear hn
  have HB2 := Lib.hid hn'
  clear hn'
  go_wp2_with fail
  refine calls_name fun W1 hW => ?_
  have hN_W1 : N ≤ W1.heap.size := by rw [← hW]; (first | omega | (simp; done) | (simp; omega))
  have hs_W1 : wa.heap.size ≤ W1.heap.size := by rw [← hW]; (first | omega | (simp; done) | (simp; omega))
  have hs0_W1 : w.heap.size ≤ W1.heap.size := by rw [← hW]; (first | omega | (simp; done) | (simp; omega))
  have hd_R_B : w.heap.size < wa.heap.size := by omega
  have hl_R_W1 : w.heap.size < W1.heap.size := by rw [← hW]; (first | omega | (simp; done) | (simp; omega))
  have k_R_0_W1 : W1.cell? ⟨w.heap.size, 0, none⟩ = some (.bool false) := by rw [← hW]; (first | with_reducible exact k_R_0 | (simp [go_sem, k_R_0]; done) | (simp [go_sem, k_R_0, hl_R]; done) | (go_simp; done) | (simp [go_sem, k_R_0, k_R_1, k_R_2, f_R, hl_R]; done))
  have k_R_1_W1 : W1.cell? ⟨w.heap.size, 1, none⟩ = some (.slice none 0 0) := by rw [← hW]; (first | with_reducible exact k_R_1 | (simp [go_sem, k_R_1]; done) | (simp [go_sem, k_R_1, hl_R]; done) | (go_simp; done) | (simp [go_sem, k_R_0, k_R_1, k_R_2, f_R, hl_R]; done))
  have k_R_2_W1 : W1.cell? ⟨w.heap.size, 2, none⟩ = some (.slice none 0 0) := by rw [← hW]; (first | with_reducible exact k_R_2 | (simp [go_sem, k_R_2]; done) | (simp [go_sem, k_R_2, hl_R]; done) | (go_simp; done) | (simp [go_sem, k_R_0, k_R_1, k_R_2, f_R, hl_R]; done))
  have f_R_W1 : ∀ o, W1.frozen? ⟨w.heap.size, o, none⟩ = false := by intro o; rw [← hW]; (first | with_reducible exact f_R o | (simp [go_sem, f_R]; done) | (simp [go_sem, f_R, hl_R]; done) | (go_simp; done) | (simp [go_sem, k_R_0, k_R_1, k_R_2, f_R, hl_R]; done))
  have HX_R_W1 := Lib.hid (show Bn W1 (w.heap.size) by rw [← hW]; (repeat' (first | with_reducible exact Kp.refl _ _ | with_reducible exact HX_R.out | with_reducible apply Kp.alloc | with_reducible apply Kp.drew | (with_reducible refine Kp.put ?_ ?_ ?_ _; rotate_left; (focus (first | omega | (simp; done) | (simp; omega))); rotate_left) | (with_reducible refine Bn.new _ _ _ _ ?_ ?_; (focus (first | omega | (simp; done) | (simp; omega))); decide) | with_reducible apply Bn.alloc | with_reducible apply Bn.drew | with_reducible apply Bn.set)))
  have hl_B_W1 : wa.heap.size < W1.heap.size := by rw [← hW]; (first | omega | (simp; done) | (simp; omega))
  have k_B_0_W1 : W1.cell? ⟨wa.heap.size, 0, none⟩ = some (.bool (decide ((pC).num < 0))) := by rw [← hW]; (first | (go_simp; done) | (simp; done) | (simp [go_sem]; done) | (simp [go_sem, k_R_0, k_R_1, k_R_2, f_R, hl_R]; done))
  have k_B_1_W1 : W1.cell? ⟨wa.heap.size, 1, none⟩ = some (.slice rb (nlen (pC).num.natAbs) cb) := by rw [← hW]; (first | (go_simp; done) | (simp; done) | (simp [go_sem]; done) | (simp [go_sem, k_R_0, k_R_1, k_R_2, f_R, hl_R]; done))
  have k_B_2_W1 : W1.cell? ⟨wa.heap.size, 2, none⟩ = some (.slice rb2 (nlen (pC).den) cb2) := by rw [← hW]; (first | (go_simp; done) | (simp; done) | (simp [go_sem]; done) | (simp [go_sem, k_R_0, k_R_1, k_R_2, f_R, hl_R]; done))
  have f_B_W1 : ∀ o, W1.frozen? ⟨wa.heap.size, o, none⟩ = false := by intro o; rw [← hW]; (first | (go_simp; done) | (simp; done) | (simp [go_sem]; done) | (simp [go_sem, k_R_0, k_R_1, k_R_2, f_R, hl_R]; done))
  have HX_B_W1 := Lib.hid (show Bn W1 (wa.heap.size) by rw [← hW]; (repeat' (first | with_reducible exact Kp.refl _ _ | with_reducible exact HX_R.out | with_reducible apply Kp.alloc | with_reducible apply Kp.drew | (with_reducible refine Kp.put ?_ ?_ ?_ _; rotate_left; (focus (first | omega | (simp; done) | (simp; omega))); rotate_left) | (with_reducible refine Bn.new _ _ _ _ ?_ ?_; (focus (first | omega | (simp; done) | (simp; omega))); decide) | with_reducible apply Bn.alloc | with_reducible apply Bn.drew | with_reducible apply Bn.set)))
  have HK_W1 := Lib.hid (show Kp N wa W1 by rw [← hW]; (repeat' (first | with_reducible exact Kp.refl _ _ | with_reducible exact HX_R.out | with_reducible apply Kp.alloc | with_reducible apply Kp.drew | (with_reducible refine Kp.put ?_ ?_ ?_ _; rotate_left; (focus (first | omega | (simp; done) | (simp; omega))); rotate_left) | (with_reducible refine Bn.new _ _ _ _ ?_ ?_; (focus (first | omega | (simp; done) | (simp; omega))); decide) | with_reducible apply Bn.alloc | with_reducible apply Bn.drew | with_reducible apply Bn.set)))
  have HB1_W1 := Lib.hid (HB1.out.keep HK_W1.out)
  have HB2_W1 := Lib.hid (HB2.out.keep HK_W1.out)
  have HB_W1 := Lib.hid (show Below w.heap.size w W1 by rw [← hW]; (repeat' (first | with_reducible exact Below.refl _ _ | with_reducible exact HB.out | (with_reducible refine Below.alloc ?_ ?_ _; rotate_left; (focus (first | omega | (simp; done) | (simp; omega)))) | with_reducible apply Below.drew | (with_reducible refine Below.setCell ?_ ?_ _; rotate_left; (focus (first | omega | (simp; done) | (simp; omega)))))))
  clear hW HK_W1
  clear hl_R f_R HX_R k_R_0 k_R_1 k_R_2 HB1 HB2 HB hN hs0
  have hN := hN_W1
  have HB := HB_W1
  have hs0 := hs0_W1
  have hl_R := hl_R_W1
  have f_R := f_R_W1
  have HX_R := HX_R_W1
  have k_R_0 := k_R_0_W1
  have k_R_1 := k_R_1_W1
  have k_R_2 := k_R_2_W1
  have hl_B := hl_B_W1
  have f_B := f_B_W1
  have HX_B := HX_B_W1
  have k_B_0 := k_B_0_W1
  have k_B_1 := k_B_1_W1
  have k_B_2 := k_B_2_W1
  have HB1 := HB1_W1
  have HB2 := HB2_W1
  clear hN_W1 HB_W1 hs0_W1 hl_R_W1 f_R_W1 HX_R_W1 k_R_0_W1 k_R_1_W1 k_R_2_W1 hl_B_W1 f_B_W1 HX_B_W1 k_B_0_W1 k_B_1_W1 k_B_2_W1 HB1_W1 HB2_W1
  refine (rmul_any (N := N) _ _ _ _ _ _ _ _ _ _ _ _ _ _ 7 7 pC pC _ hN (Rt.of_norm HB1.out HB2.out 7 ZC.out) (Rt.of_norm HB1.out HB2.out 7 ZC.out) (by omega) (by omega) pM HPM.out).mono ?_
  rintro e wb ⟨rm, cm, rm2, cm2, rfl, hn, hn', hb⟩
  have hN_wb : N ≤ wb.heap.size := Nat.le_trans hN hb.size
  have hs_wb : W1.heap.size ≤ wb.heap.size := hb.size
  have hs0_wb : w.heap.size ≤ wb.heap.size := Nat.le_trans hs0 hb.size
  have hl_R_wb : w.heap.size < wb.heap.size := Nat.lt_of_lt_of_le hl_R hb.size
  have k_R_0_wb : wb.cell? ⟨w.heap.size, 0, none⟩ = some (.bool false) := (hb.cell (p := ⟨w.heap.size, 0, none⟩) hl_R).trans k_R_0
  have k_R_1_wb : wb.cell? ⟨w.heap.size, 1, none⟩ = some (.slice none 0 0) := (hb.cell (p := ⟨w.heap.size, 1, none⟩) hl_R).trans k_R_1
  have k_R_2_wb : wb.cell? ⟨w.heap.size, 2, none⟩ = some (.slice none 0 0) := (hb.cell (p := ⟨w.heap.size, 2, none⟩) hl_R).trans k_R_2
  have f_R_wb : ∀ o, wb.frozen? ⟨w.heap.size, o, none⟩ = false := fun o => (hb.frozen (p := ⟨w.heap.size, o, none⟩) hl_R).trans (f_R o)
  have HX_R_wb := Lib.hid (HX_R.out.below hb)
  have hl_B_wb : wa.heap.size < wb.heap.size := Nat.lt_of_lt_of_le hl_B hb.size
  have k_B_0_wb : wb.cell? ⟨wa.heap.size, 0, none⟩ = some (.bool (decide ((pC).num < 0))) := (hb.cell (p := ⟨wa.heap.size, 0, none⟩) hl_B).trans k_B_0
  have k_B_1_wb : wb.cell? ⟨wa.heap.size, 1, none⟩ = some (.slice rb (nlen (pC).num.natAbs) cb) := (hb.cell (p := ⟨wa.heap.size, 1, none⟩) hl_B).trans k_B_1
  have k_B_2_wb : wb.cell? ⟨wa.heap.size, 2, none⟩ = some (.slice rb2 (nlen (pC).den) cb2) := (hb.cell (p := ⟨wa.heap.size, 2, none⟩) hl_B).trans k_B_2
  have f_B_wb : ∀ o, wb.frozen? ⟨wa.heap.size, o, none⟩ = false := fun o => (hb.frozen (p := ⟨wa.heap.size, o, none⟩) hl_B).trans (f_B o)
  have HX_B_wb := Lib.hid (HX_B.out.below hb)
  have HB1_wb := Lib.hid (HB1.out.below hb)
  have HB2_wb := Lib.hid (HB2.out.below hb)
  have HB_wb := Lib.hid (HB.out.trans (hb.mono hs0))
  clear hb
  clear hl_R f_R HX_R k_R_0 k_R_1 k_R_2 hl_B f_B HX_B k_B_0 k_B_1 k_B_2 HB1 HB2 HB hN hs0
  have hN := hN_wb
  have HB := HB_wb
  have hs0 := hs0_wb
  have hl_R := hl_R_wb
  have f_R := f_R_wb
  have HX_R := HX_R_wb
  have k_R_0 := k_R_0_wb
  have k_R_1 := k_R_1_wb
  have k_R_2 := k_R_2_wb
  have hl_B := hl_B_wb
  have f_B := f_B_wb
  have HX_B := HX_B_wb
  have k_B_0 := k_B_0_wb
  have k_B_1 := k_B_1_wb
  have k_B_2 := k_B_2_wb
  have HB1 := HB1_wb
  have HB2 := HB2_wb
  clear hN_wb HB_wb hs0_wb hl_R_wb f_R_wb HX_R_wb k_R_0_wb k_R_1_wb k_R_2_wb hl_B_wb f_B_wb HX_B_wb k_B_0_wb k_B_1_wb k_B_2_wb HB1_wb HB2_wb
  have HM1 := Lib.hid hn
  clear hn
  have HM2 := Lib.hid hn'
  clear hn'
  go_wp2_with fail
  refine (covariance_any (N := N) _ _ _ _ _ x x _ hN (HX.out.below HB.out) (HX.out.below HB.out) RX.out.big RX.out.big n200 pA HPA.out).mono ?_
  rintro e wc ⟨rc, cc, rc2, cc2, rfl, hn, hn', hb⟩
  have hN_wc : N ≤ wc.heap.size := Nat.le_trans hN hb.size
  have hs_wc : wb.heap.size ≤ wc.heap.size := hb.size
  have hs0_wc : w.heap.size ≤ wc.heap.size := Nat.le_trans hs0 hb.size
  have hl_R_wc : w.heap.size < wc.heap.size := Nat.lt_of_lt_of_le hl_R hb.size
  have k_R_0_wc : wc.cell? ⟨w.heap.size, 0, none⟩ = some (.bool false) := (hb.cell (p := ⟨w.heap.size, 0, none⟩) hl_R).trans k_R_0
  have k_R_1_wc : wc.cell? ⟨w.heap.size, 1, none⟩ = some (.slice none 0 0) := (hb.cell (p := ⟨w.heap.size, 1, none⟩) hl_R).trans k_R_1
  have k_R_2_wc : wc.cell? ⟨w.heap.size, 2, none⟩ = some (.slice none 0 0) := (hb.cell (p := ⟨w.heap.size, 2, none⟩) hl_R).trans k_R_2
  have f_R_wc : ∀ o, wc.frozen? ⟨w.heap.size, o, none⟩ = false := fun o => (hb.frozen (p := ⟨w.heap.size, o, none⟩) hl_R).trans (f_R o)
  have HX_R_wc := Lib.hid (HX_R.out.below hb)
  have hl_B_wc : wa.heap.size < wc.heap.size := Nat.lt_of_lt_of_le hl_B hb.size
  have k_B_0_wc : wc.cell? ⟨wa.heap.size, 0, none⟩ = some (.bool (decide ((pC).num < 0))) := (hb.cell (p := ⟨wa.heap.size, 0, none⟩) hl_B).trans k_B_0
  have k_B_1_wc : wc.cell? ⟨wa.heap.size, 1, none⟩ = some (.slice rb (nlen (pC).num.natAbs) cb) := (hb.cell (p := ⟨wa.heap.size, 1, none⟩) hl_B).trans k_B_1
  have k_B_2_wc : wc.cell? ⟨wa.heap.size, 2, none⟩ = some (.slice rb2 (nlen (pC).den) cb2) := (hb.cell (p := ⟨wa.heap.size, 2, none⟩) hl_B).trans k_B_2
  have f_B_wc : ∀ o, wc.frozen? ⟨wa.heap.size, o, none⟩ = false := fun o => (hb.frozen (p := ⟨wa.heap.size, o, none⟩) hl_B).trans (f_B o)
  have HX_B_wc := Lib.hid (HX_B.out.below hb)
  have HB1_wc := Lib.hid (HB1.out.below hb)
  have HB2_wc := Lib.hid (HB2.out.below hb)
  have HM1_wc := Lib.hid (HM1.out.below hb)
  have HM2_wc := Lib.hid (HM2.out.below hb)
  have HB_wc := Lib.hid (HB.out.trans (hb.mono hs0))
  clear hb
  clear hl_R f_R HX_R k_R_0 k_R_1 k_R_2 hl_B f_B HX_B k_B_0 k_B_1 k_B_2 HB1 HB2 HM1 HM2 HB hN hs0
  have hN := hN_wc
  have HB := HB_wc
  have hs0 := hs0_wc
  have hl_R := hl_R_wc
  have f_R := f_R_wc
  have HX_R := HX_R_wc
  have k_R_0 := k_R_0_wc
  have k_R_1 := k_R_1_wc
  have k_R_2 := k_R_2_wc
  have hl_B := hl_B_wc
  have f_B := f_B_wc
  have HX_B := HX_B_wc
  have k_B_0 := k_B_0_wc
  have k_B_1 := k_B_1_wc
  have k_B_2 := k_B_2_wc
  have HB1 := HB1_wc
  have HB2 := HB2_wc
  have HM1 := HM1_wc
  have HM2 := HM2_wc
  clear hN_wc HB_wc hs0_wc hl_R_wc f_R_wc HX_R_wc k_R_0_wc k_R_1_wc k_R_2_wc hl_B_wc f_B_wc HX_B_wc k_B_0_wc k_B_1_wc k_B_2_wc HB1_wc HB2_wc HM1_wc HM2_wc
  have HA1 := Lib.hid hn
  clear hn
  have HA2 := Lib.hid hn'
  clear hn'
  go_wp2_with fail
  refine (covariance_any (N := N) _ _ _ _ _ y y _ hN (HY.out.below HB.out) (HY.out.below HB.out) RY.out.big RY.out.big n200 pB HPB.out).mono ?_
  rintro e wd ⟨rd, cd, rd2, cd2, rfl, hn, hn', hb⟩
  have hN_wd : N ≤ wd.heap.size := Nat.le_trans hN hb.size
  have hs_wd : wc.heap.size ≤ wd.heap.size := hb.size
  have hs0_wd : w.heap.size ≤ wd.heap.size := Nat.le_trans hs0 hb.size
  have hl_R_wd : w.heap.size < wd.heap.size := Nat.lt_of_lt_of_le hl_R hb.size
  have k_R_0_wd : wd.cell? ⟨w.heap.size, 0, none⟩ = some (.bool false) := (hb.cell (p := ⟨w.heap.size, 0, none⟩) hl_R).trans k_R_0
  have k_R_1_wd : wd.cell? ⟨w.heap.size, 1, none⟩ = some (.slice none 0 0) := (hb.cell (p := ⟨w.heap.size, 1, none⟩) hl_R).trans k_R_1
  have k_R_2_wd : wd.cell? ⟨w.heap.size, 2, none⟩ = some (.slice none 0 0) := (hb.cell (p := ⟨w.heap.size, 2, none⟩) hl_R).trans k_R_2
  have f_R_wd : ∀ o, wd.frozen? ⟨w.heap.size, o, none⟩ = false := fun o => (hb.frozen (p := ⟨w.heap.size, o, none⟩) hl_R).trans (f_R o)
  have HX_R_wd := Lib.hid (HX_R.out.below hb)
  have hl_B_wd : wa.heap.size < wd.heap.size := Nat.lt_of_lt_of_le hl_B hb.size
  have k_B_0_wd : wd.cell? ⟨wa.heap.size, 0, none⟩ = some (.bool (decide ((pC).num < 0))) := (hb.cell (p := ⟨wa.heap.size, 0, none⟩) hl_B).trans k_B_0
  have k_B_1_wd : wd.cell? ⟨wa.heap.size, 1, none⟩ = some (.slice rb (nlen (pC).num.natAbs) cb) := (hb.cell (p := ⟨wa.heap.size, 1, none⟩) hl_B).trans k_B_1
  have k_B_2_wd : wd.cell? ⟨wa.heap.size, 2, none⟩ = some (.slice rb2 (nlen (pC).den) cb2) := (hb.cell (p := ⟨wa.heap.size, 2, none⟩) hl_B).trans k_B_2
  have f_B_wd : ∀ o, wd.frozen? ⟨wa.heap.size, o, none⟩ = false := fun o => (hb.frozen (p := ⟨wa.heap.size, o, none⟩) hl_B).trans (f_B o)
  have HX_B_wd := Lib.hid (HX_B.out.below hb)
  have HB1_wd := Lib.hid (HB1.out.below hb)
  have HB2_wd := Lib.hid (HB2.out.below hb)
  have HM1_wd := Lib.hid (HM1.out.below hb)
  have HM2_wd := Lib.hid (HM2.out.below hb)
  have HA1_wd := Lib.hid (HA1.out.below hb)
  have HA2_wd := Lib.hid (HA2.out.below hb)
  have HB_wd := Lib.hid (HB.out.trans (hb.mono hs0))
  clear hb
  clear hl_R f_R HX_R k_R_0 k_R_1 k_R_2 hl_B f_B HX_B k_B_0 k_B_1 k_B_2 HB1 HB2 HM1 HM2 HA1 HA2 HB hN hs0
  have hN := hN_wd
  have HB := HB_wd
  have hs0 := hs0_wd
  have hl_R := hl_R_wd
  have f_R := f_R_wd
  have HX_R := HX_R_wd
  have k_R_0 := k_R_0_wd
  have k_R_1 := k_R_1_wd
  have k_R_2 := k_R_2_wd
  have hl_B := hl_B_wd
  have f_B := f_B_wd
  have HX_B := HX_B_wd
  have k_B_0 := k_B_0_wd
  have k_B_1 := k_B_1_wd
  have k_B_2 := k_B_2_wd
  have HB1 := HB1_wd
  have HB2 := HB2_wd
  have HM1 := HM1_wd
  have HM2 := HM2_wd
  have HA1 := HA1_wd
  have HA2 := HA2_wd
  clear hN_wd HB_wd hs0_wd hl_R_wd f_R_wd HX_R_wd k_R_0_wd k_R_1_wd k_R_2_wd hl_B_wd f_B_wd HX_B_wd k_B_0_wd k_B_1_wd k_B_2_wd HB1_wd HB2_wd HM1_wd HM2_wd HA1_wd HA2_wd
  have HD1 := Lib.hid hn
  clear hn
  have HD2 := Lib.hid hn'
  clear hn'
  go_wp2_with fail
  refine (rmul_any (N := N) _ _ _ _ _ _ _ _ _ _ _ _ _ _ 7 7 pA pB _ hN (Rt.of_norm HA1.out HA2.out 7 ZA.out) (Rt.of_norm HD1.out HD2.out 7 ZB.out) (by omega) (by omega) pN HPN.out).mono ?_
  rintro e we ⟨re, ce, re2, ce2, rfl, hn, hn', hb⟩
  have hN_we : N ≤ we.heap.size := Nat.le_trans hN hb.size
  have hs_we : wd.heap.size ≤ we.heap.size := hb.size
  have hs0_we : w.heap.size ≤ we.heap.size := Nat.le_trans hs0 hb.size
  have hl_R_we : w.heap.size < we.heap.size := Nat.lt_of_lt_of_le hl_R hb.size
  have k_R_0_we : we.cell? ⟨w.heap.size, 0, none⟩ = some (.bool false) := (hb.cell (p := ⟨w.heap.size, 0, none⟩) hl_R).trans k_R_0
  have k_R_1_we : we.cell? ⟨w.heap.size, 1, none⟩ = some (.slice none 0 0) := (hb.cell (p := ⟨w.heap.size, 1, none⟩) hl_R).trans k_R_1
  have k_R_2_we : we.cell? ⟨w.heap.size, 2, none⟩ = some (.slice none 0 0) := (hb.cell (p := ⟨w.heap.size, 2, none⟩) hl_R).trans k_R_2
  have f_R_we : ∀ o, we.frozen? ⟨w.heap.size, o, none⟩ = false := fun o => (hb.frozen (p := ⟨w.heap.size, o, none⟩) hl_R).trans (f_R o)
  have HX_R_we := Lib.hid (HX_R.out.below hb)
  have hl_B_we : wa.heap.size < we.heap.size := Nat.lt_of_lt_of_le hl_B hb.size
  have k_B_0_we : we.cell? ⟨wa.heap.size, 0, none⟩ = some (.bool (decide ((pC).num < 0))) := (hb.cell (p := ⟨wa.heap.size, 0, none⟩) hl_B).trans k_B_0
  have k_B_1_we : we.cell? ⟨wa.heap.size, 1, none⟩ = some (.slice rb (nlen (pC).num.natAbs) cb) := (hb.cell (p := ⟨wa.heap.size, 1, none⟩) hl_B).trans k_B_1
  have k_B_2_we : we.cell? ⟨wa.heap.size, 2, none⟩ = some (.slice rb2 (nlen (pC).den) cb2) := (hb.cell (p := ⟨wa.heap.size, 2, none⟩) hl_B).trans k_B_2
  have f_B_we : ∀ o, we.frozen? ⟨wa.heap.size, o, none⟩ = false := fun o => (hb.frozen (p := ⟨wa.heap.size, o, none⟩) hl_B).trans (f_B o)
  have HX_B_we := Lib.hid (HX_B.out.below hb)
  have HB1_we := Lib.hid (HB1.out.below hb)
  have HB2_we := Lib.hid (HB2.out.below hb)
  have HM1_we := Lib.hid (HM1.out.below hb)
  have HM2_we := Lib.hid (HM2.out.below hb)
  have HA1_we := Lib.hid (HA1.out.below hb)
  have HA2_we := Lib.hid (HA2.out.below hb)
  have HD1_we := Lib.hid (HD1.out.below hb)
  have HD2_we := Lib.hid (HD2.out.below hb)
  have HB_we := Lib.hid (HB.out.trans (hb.mono hs0))
  clear hb
  clear hl_R f_R HX_R k_R_0 k_R_1 k_R_2 hl_B f_B HX_B k_B_0 k_B_1 k_B_2 HB1 HB2 HM1 HM2 HA1 HA2 HD1 HD2 HB hN hs0
  have hN := hN_we
  have HB := HB_we
  have hs0 := hs0_we
  have hl_R := hl_R_we
  have f_R := f_R_we
  have HX_R := HX_R_we
  have k_R_0 := k_R_0_we
  have k_R_1 := k_R_1_we
  have k_R_2 := k_R_2_we
  have hl_B := hl_B_we
  have f_B := f_B_we
  have HX_B := HX_B_we
  have k_B_0 := k_B_0_we
  have k_B_1 := k_B_1_we
  have k_B_2 := k_B_2_we
  have HB1 := HB1_we
  have HB2 := HB2_we
  have HM1 := HM1_we
  have HM2 := HM2_we
  have HA1 := HA1_we
  have HA2 := HA2_we
  have HD1 := HD1_we
  have HD2 := HD2_we
  clear hN_we HB_we hs0_we hl_R_we f_R_we HX_R_we k_R_0_we k_R_1_we k_R_2_we hl_B_we f_B_we HX_B_we k_B_0_we k_B_1_we k_B_2_we HB1_we HB2_we HM1_we HM2_we HA1_we HA2_we HD1_we HD2_we
  have HE1 := Lib.hid hn
  clear hn
  have HE2 := Lib.hid hn'
  clear hn'
  go_wp2_with fail
  refine (rdiv_any (N := N) _ _ _ _ _ _ _ _ _ _ _ _ _ _ 14 14 pM pN _ hN (Rt.of_norm HM1.out HM2.out 14 ZM.out) (Rt.of_norm HE1.out HE2.out 14 ZN.out) (by omega) (by omega) pQ HPQ.out false HOK.out).mono ?_
  rintro e wf ⟨rf, cf, rf2, cf2, rfl, hn, hn', hb⟩
  have hN_wf : N ≤ wf.heap.size := Nat.le_trans hN hb.size
  have hs_wf : we.heap.size ≤ wf.heap.size := hb.size
  have hs0_wf : w.heap.size ≤ wf.heap.size := Nat.le_trans hs0 hb.size
  have hl_R_wf : w.heap.size < wf.heap.size := Nat.lt_of_lt_of_le hl_R hb.size
  have k_R_0_wf : wf.cell? ⟨w.heap.size, 0, none⟩ = some (.bool false) := (hb.cell (p := ⟨w.heap.size, 0, none⟩) hl_R).trans k_R_0
  have k_R_1_wf : wf.cell? ⟨w.heap.size, 1, none⟩ = some (.slice none 0 0) := (hb.cell (p := ⟨w.heap.size, 1, none⟩) hl_R).trans k_R_1
  have k_R_2_wf : wf.cell? ⟨w.heap.size, 2, none⟩ = some (.slice none 0 0) := (hb.cell (p := ⟨w.heap.size, 2, none⟩) hl_R).trans k_R_2
  have f_R_wf : ∀ o, wf.frozen? ⟨w.heap.size, o, none⟩ = false := fun o => (hb.frozen (p := ⟨w.heap.size, o, none⟩) hl_R).trans (f_R o)
  have HX_R_wf := Lib.hid (HX_R.out.below hb)
  have hl_B_wf : wa.heap.size < wf.heap.size := Nat.lt_of_lt_of_le hl_B hb.size
  have k_B_0_wf : wf.cell? ⟨wa.heap.size, 0, none⟩ = some (.bool (decide ((pC).num < 0))) := (hb.cell (p := ⟨wa.heap.size, 0, none⟩) hl_B).trans k_B_0
  have k_B_1_wf : wf.cell? ⟨wa.heap.size, 1, none⟩ = some (.slice rb (nlen (pC).num.natAbs) cb) := (hb.cell (p := ⟨wa.heap.size, 1, none⟩) hl_B).trans k_B_1
  have k_B_2_wf : wf.cell? ⟨wa.heap.size, 2, none⟩ = some (.slice rb2 (nlen (pC).den) cb2) := (hb.cell (p := ⟨wa.heap.size, 2, none⟩) hl_B).trans k_B_2
  have f_B_wf : ∀ o, wf.frozen? ⟨wa.heap.size, o, none⟩ = false := fun o => (hb.frozen (p := ⟨wa.heap.size, o, none⟩) hl_B).trans (f_B o)
  have HX_B_wf := Lib.hid (HX_B.out.below hb)
  have HB1_wf := Lib.hid (HB1.out.below hb)
  have HB2_wf := Lib.hid (HB2.out.below hb)
  have HM1_wf := Lib.hid (HM1.out.below hb)
  have HM2_wf := Lib.hid (HM2.out.below hb)
  have HA1_wf := Lib.hid (HA1.out.below hb)
  have HA2_wf := Lib.hid (HA2.out.below hb)
  have HD1_wf := Lib.hid (HD1.out.below hb)
  have HD2_wf := Lib.hid (HD2.out.below hb)
  have HE1_wf := Lib.hid (HE1.out.below hb)
  have HE2_wf := Lib.hid (HE2.out.below hb)
  have HB_wf := Lib.hid (HB.out.trans (hb.mono hs0))
  clear hb
  clear hl_R f_R HX_R k_R_0 k_R_1 k_R_2 hl_B f_B HX_B k_B_0 k_B_1 k_B_2 HB1 HB2 HM1 HM2 HA1 HA2 HD1 HD2 HE1 HE2 HB hN hs0
  have hN := hN_wf
  have HB := HB_wf
  have hs0 := hs0_wf
  have hl_R := hl_R_wf
  have f_R := f_R_wf
  have HX_R := HX_R_wf
  have k_R_0 := k_R_0_wf
  have k_R_1 := k_R_1_wf
  have k_R_2 := k_R_2_wf
  have hl_B := hl_B_wf
  have f_B := f_B_wf
  have HX_B := HX_B_wf
  have k_B_0 := k_B_0_wf
  have k_B_1 := k_B_1_wf
  have k_B_2 := k_B_2_wf
  have HB1 := HB1_wf
  have HB2 := HB2_wf
  have HM1 := HM1_wf
  have HM2 := HM2_wf
  have HA1 := HA1_wf
  have HA2 := HA2_wf
  have HD1 := HD1_wf
  have HD2 := HD2_wf
  have HE1 := HE1_wf
  have HE2 := HE2_wf
  clear hN_wf HB_wf hs0_wf hl_R_wf f_R_wf HX_R_wf k_R_0_wf k_R_1_wf k_R_2_wf hl_B_wf f_B_wf HX_B_wf k_B_0_wf k_B_1_wf k_B_2_wf HB1_wf HB2_wf HM1_wf HM2_wf HA1_wf HA2_wf HD1_wf HD2_wf HE1_wf HE2_wf
  have HF1 := Lib.hid hn
  clear hn
  have HF2 := Lib.hid hn'
  clear hn'
  go_wp2_with fail
  refine calls_name fun W2 hW => ?_
  have hN_W2 : N ≤ W2.heap.size := by rw [← hW]; (first | omega | (simp; done) | (simp; omega))
  have hs_W2 : wf.heap.size ≤ W2.heap.size := by rw [← hW]; (first | omega | (simp; done) | (simp; omega))
  have hs0_W2 : w.heap.size ≤ W2.heap.size := by rw [← hW]; (first | omega | (simp; done) | (simp; omega))
  have hl_R_W2 : w.heap.size < W2.heap.size := by rw [← hW]; (first | omega | (simp; done) | (simp; omega))
  have k_R_0_W2 : W2.cell? ⟨w.heap.size, 0, none⟩ = some (.bool false) := by rw [← hW]; (first | with_reducible exact k_R_0 | (simp [go_sem, k_R_0]; done) | (simp [go_sem, k_R_0, hl_R]; done) | (go_simp; done) | (simp [go_sem, k_R_0, k_R_1, k_R_2, k_B_0, k_B_1, k_B_2, f_R, f_B, hl_R, hl_B]; done))
  have k_R_1_W2 : W2.cell? ⟨w.heap.size, 1, none⟩ = some (.slice none 0 0) := by rw [← hW]; (first | with_reducible exact k_R_1 | (simp [go_sem, k_R_1]; done) | (simp [go_sem, k_R_1, hl_R]; done) | (go_simp; done) | (simp [go_sem, k_R_0, k_R_1, k_R_2, k_B_0, k_B_1, k_B_2, f_R, f_B, hl_R, hl_B]; done))
  have k_R_2_W2 : W2.cell? ⟨w.heap.size, 2, none⟩ = some (.slice none 0 0) := by rw [← hW]; (first | with_reducible exact k_R_2 | (simp [go_sem, k_R_2]; done) | (simp [go_sem, k_R_2, hl_R]; done) | (go_simp; done) | (simp [go_sem, k_R_0, k_R_1, k_R_2, k_B_0, k_B_1, k_B_2, f_R, f_B, hl_R, hl_B]; done))
  have f_R_W2 : ∀ o, W2.frozen? ⟨w.heap.size, o, none⟩ = false := by intro o; rw [← hW]; (first | with_reducible exact f_R o | (simp [go_sem, f_R]; done) | (simp [go_sem, f_R, hl_R]; done) | (go_simp; done) | (simp [go_sem, k_R_0, k_R_1, k_R_2, k_B_0, k_B_1, k_B_2, f_R, f_B, hl_R, hl_B]; done))
  have HX_R_W2 := Lib.hid (show Bn W2 (w.heap.size) by rw [← hW]; (repeat' (first | with_reducible exact Kp.refl _ _ | with_reducible exact HX_R.out | with_reducible exact HX_B.out | with_reducible apply Kp.alloc | with_reducible apply Kp.drew | (with_reducible refine Kp.put ?_ ?_ ?_ _; rotate_left; (focus (first | omega | (simp; done) | (simp; omega))); rotate_left) | (with_reducible refine Bn.new _ _ _ _ ?_ ?_; (focus (first | omega | (simp; done) | (simp; omega))); decide) | with_reducible apply Bn.alloc | with_reducible apply Bn.drew | with_reducible apply Bn.set)))
  have hl_B_W2 : wa.heap.size < W2.heap.size := by rw [← hW]; (first | omega | (simp; done) | (simp; omega))
  have k_B_0_W2 : W2.cell? ⟨wa.heap.size, 0, none⟩ = some (.bool (decide ((pC).num < 0))) := by rw [← hW]; (first | with_reducible exact k_B_0 | (simp [go_sem, k_B_0]; done) | (simp [go_sem, k_B_0, hl_B]; done) | (go_simp; done) | (simp [go_sem, k_R_0, k_R_1, k_R_2, k_B_0, k_B_1, k_B_2, f_R, f_B, hl_R, hl_B]; done))
  have k_B_1_W2 : W2.cell? ⟨wa.heap.size, 1, none⟩ = some (.slice rb (nlen (pC).num.natAbs) cb) := by rw [← hW]; (first | with_reducible exact k_B_1 | (simp [go_sem, k_B_1]; done) | (simp [go_sem, k_B_1, hl_B]; done) | (go_simp; done) | (simp [go_sem, k_R_0, k_R_1, k_R_2, k_B_0, k_B_1, k_B_2, f_R, f_B, hl_R, hl_B]; done))
  have k_B_2_W2 : W2.cell? ⟨wa.heap.size, 2, none⟩ = some (.slice rb2 (nlen (pC).den) cb2) := by rw [← hW]; (first | with_reducible exact k_B_2 | (simp [go_sem, k_B_2]; done) | (simp [go_sem, k_B_2, hl_B]; done) | (go_simp; done) | (simp [go_sem, k_R_0, k_R_1, k_R_2, k_B_0, k_B_1, k_B_2, f_R, f_B, hl_R, hl_B]; done))
  have f_B_W2 : ∀ o, W2.frozen? ⟨wa.heap.size, o, none⟩ = false := by intro o; rw [← hW]; (first | with_reducible exact f_B o | (simp [go_sem, f_B]; done) | (simp [go_sem, f_B, hl_B]; done) | (go_simp; done) | (simp [go_sem, k_R_0, k_R_1, k_R_2, k_B_0, k_B_1, k_B_2, f_R, f_B, hl_R, hl_B]; done))
  have HX_B_W2 := Lib.hid (show Bn W2 (wa.heap.size) by rw [← hW]; (repeat' (first | with_reducible exact Kp.refl _ _ | with_reducible exact HX_R.out | with_reducible exact HX_B.out | with_reducible apply Kp.alloc | with_reducible apply Kp.drew | (with_reducible refine Kp.put ?_ ?_ ?_ _; rotate_left; (focus (first | omega | (simp; done) | (simp; omega))); rotate_left) | (with_reducible refine Bn.new _ _ _ _ ?_ ?_; (focus (first | omega | (simp; done) | (simp; omega))); decide) | with_reducible apply Bn.alloc | with_reducible apply Bn.drew | with_reducible apply Bn.set)))
  have HK_W2 := Lib.hid (show Kp N wf W2 by rw [← hW]; (repeat' (first | with_reducible exact Kp.refl _ _ | with_reducible exact HX_R.out | with_reducible exact HX_B.out | with_reducible apply Kp.alloc | with_reducible apply Kp.drew | (with_reducible refine Kp.put ?_ ?_ ?_ _; rotate_left; (focus (first | omega | (simp; done) | (simp; omega))); rotate_left) | (with_reducible refine Bn.new _ _ _ _ ?_ ?_; (focus (first | omega | (simp; done) | (simp; omega))); decide) | with_reducible apply Bn.alloc | with_reducible apply Bn.drew | with_reducible apply Bn.set)))
  have HB1_W2 := Lib.hid (HB1.out.keep HK_W2.out)
  have HB2_W2 := Lib.hid (HB2.out.keep HK_W2.out)
  have HM1_W2 := Lib.hid (HM1.out.keep HK_W2.out)
  have HM2_W2 := Lib.hid (HM2.out.keep HK_W2.out)
  have HA1_W2 := Lib.hid (HA1.out.keep HK_W2.out)
  have HA2_W2 := Lib.hid (HA2.out.keep HK_W2.out)
  have HD1_W2 := Lib.hid (HD1.out.keep HK_W2.out)
  have HD2_W2 := Lib.hid (HD2.out.keep HK_W2.out)
  have HE1_W2 := Lib.hid (HE1.out.keep HK_W2.out)
  have HE2_W2 := Lib.hid (HE2.out.keep HK_W2.out)
  have HF1_W2 := Lib.hid (HF1.out.keep HK_W2.out)
  have HF2_W2 := Lib.hid (HF2.out.keep HK_W2.out)
  have HB_W2 := Lib.hid (show Below w.heap.size w W2 by rw [← hW]; (repeat' (first | with_reducible exact Below.refl _ _ | with_reducible exact HB.out | (with_reducible refine Below.alloc ?_ ?_ _; rotate_left; (focus (first | omega | (simp; done) | (simp; omega)))) | with_reducible apply Below.drew | (with_reducible refine Below.setCell ?_ ?_ _; rotate_left; (focus (first | omega | (simp; done) | (simp; omega)))))))
  clear hW HK_W2
  clear hl_R f_R HX_R k_R_0 k_R_1 k_R_2 hl_B f_B HX_B k_B_0 k_B_1 k_B_2 HB1 HB2 HM1 HM2 HA1 HA2 HD1 HD2 HE1 HE2 HF1 HF2 HB hN hs0
  have hN := hN_W2
  have HB := HB_W2
  have hs0 := hs0_W2
  have hl_R := hl_R_W2
  have f_R := f_R_W2
  have HX_R := HX_R_W2
  have k_R_0 := k_R_0_W2
  have k_R_1 := k_R_1_W2
  have k_R_2 := k_R_2_W2
  have hl_B := hl_B_W2
  have f_B := f_B_W2
  have HX_B := HX_B_W2
  have k_B_0 := k_B_0_W2
  have k_B_1 := k_B_1_W2
  have k_B_2 := k_B_2_W2
  have HB1 := HB1_W2
  have HB2 := HB2_W2
  have HM1 := HM1_W2
  have HM2 := HM2_W2
  have HA1 := HA1_W2
  have HA2 := HA2_W2
  have HD1 := HD1_W2
  have HD2 := HD2_W2
  have HE1 := HE1_W2
  have HE2 := HE2_W2
  have HF1 := HF1_W2
  have HF2 := HF2_W2
  clear hN_W2 HB_W2 hs0_W2 hl_R_W2 f_R_W2 HX_R_W2 k_R_0_W2 k_R_1_W2 k_R_2_W2 hl_B_W2 f_B_W2 HX_B_W2 k_B_0_W2 k_B_1_W2 k_B_2_W2 HB1_W2 HB2_W2 HM1_W2 HM2_W2 HA1_W2 HA2_W2 HD1_W2 HD2_W2 HE1_W2 HE2_W2 HF1_W2 HF2_W2
  refine (czero_any (N := N) _ hN p HP.out).mono ?_
  rintro e wg ⟨ru, cu, ru2, cu2, rfl, hn, hn', hb⟩
  have hN_wg : N ≤ wg.heap.size := Nat.le_trans hN hb.size
  have hs_wg : W2.heap.size ≤ wg.heap.size := hb.size
  have hs0_wg : w.heap.size ≤ wg.heap.size := Nat.le_trans hs0 hb.size
  have hl_R_wg : w.heap.size < wg.heap.size := Nat.lt_of_lt_of_le hl_R hb.size
  have k_R_0_wg : wg.cell? ⟨w.heap.size, 0, none⟩ = some (.bool false) := (hb.cell (p := ⟨w.heap.size, 0, none⟩) hl_R).trans k_R_0
  have k_R_1_wg : wg.cell? ⟨w.heap.size, 1, none⟩ = some (.slice none 0 0) := (hb.cell (p := ⟨w.heap.size, 1, none⟩) hl_R).trans k_R_1
  have k_R_2_wg : wg.cell? ⟨w.heap.size, 2, none⟩ = some (.slice none 0 0) := (hb.cell (p := ⟨w.heap.size, 2, none⟩) hl_R).trans k_R_2
  have f_R_wg : ∀ o, wg.frozen? ⟨w.heap.size, o, none⟩ = false := fun o => (hb.frozen (p := ⟨w.heap.size, o, none⟩) hl_R).trans (f_R o)
  have HX_R_wg := Lib.hid (HX_R.out.below hb)
  have hl_B_wg : wa.heap.size < wg.heap.size := Nat.lt_of_lt_of_le hl_B hb.size
  have k_B_0_wg : wg.cell? ⟨wa.heap.size, 0, none⟩ = some (.bool (decide ((pC).num < 0))) := (hb.cell (p := ⟨wa.heap.size, 0, none⟩) hl_B).trans k_B_0
  have k_B_1_wg : wg.cell? ⟨wa.heap.size, 1, none⟩ = some (.slice rb (nlen (pC).num.natAbs) cb) := (hb.cell (p := ⟨wa.heap.size, 1, none⟩) hl_B).trans k_B_1
  have k_B_2_wg : wg.cell? ⟨wa.heap.size, 2, none⟩ = some (.slice rb2 (nlen (pC).den) cb2) := (hb.cell (p := ⟨wa.heap.size, 2, none⟩) hl_B).trans k_B_2
  have f_B_wg : ∀ o, wg.frozen? ⟨wa.heap.size, o, none⟩ = false := fun o => (hb.frozen (p := ⟨wa.heap.size, o, none⟩) hl_B).trans (f_B o)
  have HX_B_wg := Lib.hid (HX_B.out.below hb)
  have HB1_wg := Lib.hid (HB1.out.below hb)
  have HB2_wg := Lib.hid (HB2.out.below hb)
  have HM1_wg := Lib.hid (HM1.out.below hb)
  have HM2_wg := Lib.hid (HM2.out.below hb)
  have HA1_wg := Lib.hid (HA1.out.below hb)
  have HA2_wg := Lib.hid (HA2.out.below hb)
  have HD1_wg := Lib.hid (HD1.out.below hb)
  have HD2_wg := Lib.hid (HD2.out.below hb)
  have HE1_wg := Lib.hid (HE1.out.below hb)
  have HE2_wg := Lib.hid (HE2.out.below hb)
  have HF1_wg := Lib.hid (HF1.out.below hb)
  have HF2_wg := Lib.hid (HF2.out.below hb)
  have HB_wg := Lib.hid (HB.out.trans (hb.mono hs0))
  clear hb
  clear hl_R f_R HX_R k_R_0 k_R_1 k_R_2 hl_B f_B HX_B k_B_0 k_B_1 k_B_2 HB1 HB2 HM1 HM2 HA1 HA2 HD1 HD2 HE1 HE2 HF1 HF2 HB hN hs0
  have hN := hN_wg
  have HB := HB_wg
  have hs0 := hs0_wg
  have hl_R := hl_R_wg
  have f_R := f_R_wg
  have HX_R := HX_R_wg
  have k_R_0 := k_R_0_wg
  have k_R_1 := k_R_1_wg
  have k_R_2 := k_R_2_wg
  have hl_B := hl_B_wg
  have f_B := f_B_wg
  have HX_B := HX_B_wg
  have k_B_0 := k_B_0_wg
  have k_B_1 := k_B_1_wg
  have k_B_2 := k_B_2_wg
  have HB1 := HB1_wg
  have HB2 := HB2_wg
  have HM1 := HM1_wg
  have HM2 := HM2_wg
  have HA1 := HA1_wg
  have HA2 := HA2_wg
  have HD1 := HD1_wg
  have HD2 := HD2_wg
  have HE1 := HE1_wg
  have HE2 := HE2_wg
  have HF1 := HF1_wg
  have HF2 := HF2_wg
  clear hN_wg HB_wg hs0_wg hl_R_wg f_R_wg HX_R_wg k_R_0_wg k_R_1_wg k_R_2_wg hl_B_wg f_B_wg HX_B_wg k_B_0_wg k_B_1_wg k_B_2_wg HB1_wg HB2_wg HM1_wg HM2_wg HA1_wg HA2_wg HD1_wg HD2_wg HE1_wg HE2_wg HF1_wg HF2_wg
  have HU1 := Lib.hid hn
  clear hn
  have HU2 := Lib.hid hn'
  clear hn'
  go_wp2_with fail
  refine bodyPost_ret (v := .tuple #[.int .i64 0, .agg #[.bool (decide ((p).num < 0)), .slice ru (nlen (p).num.natAbs) cu, .slice ru2 (nlen (p).den) cu2], .int .i64 20]) (by simp [results, Tryd.results18, go_sem, k_R_0, k_R_1, k_R_2]) rfl ⟨_, _, _, _, rfl, HU1.out.keep ?_, HU2.out.keep ?_, ?_⟩
  all_goals first | ((repeat' (first | with_reducible exact Kp.refl _ _ | with_reducible exact HX_R.out | with_reducible exact HX_B.out | with_reducible apply Kp.alloc | with_reducible apply Kp.drew | (with_reducible refine Kp.put ?_ ?_ ?_ _; rotate_left; (focus (first | omega | (simp; done) | (simp; omega))); rotate_left) | (with_reducible refine Bn.new _ _ _ _ ?_ ?_; (focus (first | omega | (simp; done) | (simp; omega))); decide) | with_reducible apply Bn.alloc | with_reducible apply Bn.drew | with_reducible apply Bn.set)); done) | ((repeat' (first | with_reducible exact Below.refl _ _ | with_reducible exact HB.out | (with_reducible refine Below.alloc ?_ ?_ _; rotate_left; (focus (first | omega | (simp; done) | (simp; omega)))) | with_reducible apply Below.drew | (with_reducible refine Below.setCell ?_ ?_ _; rotate_left; (focus (first | omega | (simp; done) | (simp; omega)))))); done)

set_option maxHeartbeats 4000000 in
theorem corr_ok {N : Nat} (a b : Option Addr) (nx ca ny cb : Nat) (x y : Nat → Int) (w : World) (hN : N ≤ w.heap.size) (hx : Is w a nx ca x) (hy : Is w b ny cb y) (hc : chkC nx ny x y = 0) (pA pB pC : Rat) (hA : cov x x nx = pA) (hB : cov y y nx = pB) (hC : cov x y nx = pC) (hAB : pA * pB ≠ 0) (sg : Int) (hsg : pC.num.sign = sg) (pQ : Rat) (hQ : pC * pC / (pA * pB) = pQ) :
    Calls Tryd.prog 18 #[.slice a nx ca, .slice b ny cb] w (CorPost N w sg pQ 0) := by
  obtain ⟨hxy, n0, n200, rx, ry⟩ := chkC_zero hc
  subst hxy
  obtain ⟨pM, hpM⟩ : ∃ q, pC * pC = q := ⟨_, rfl⟩
  obtain ⟨pN, hpN⟩ : ∃ q, pA * pB = q := ⟨_, rfl⟩
  have ZC := Lib.hid (show rsz pC ≤ 7 by rw [← hC]; exact rsz_cov rx.big ry.big n200)
  have ZA := Lib.hid (show rsz pA ≤ 7 by rw [← hA]; exact rsz_cov rx.big rx.big n200)
  have ZB := Lib.hid (show rsz pB ≤ 7 by rw [← hB]; exact rsz_cov ry.big ry.big n200)
  have ZM := Lib.hid (show rsz pM ≤ 14 by rw [← hpM]; have := rsz_mul pC pC; have := ZC.out; omega)
  have ZN := Lib.hid (show rsz pN ≤ 14 by rw [← hpN]; have := rsz_mul pA pB; have := ZA.out; have := ZB.out; omega)
  have HX := Lib.hid hx
  have HY := Lib.hid hy
  have HC := Lib.hid hc
  have RX := Lib.hid rx
  have RY := Lib.hid ry
  have HPC := Lib.hid hC
  have HPA := Lib.hid hA
  have HPB := Lib.hid hB
  have HPM := Lib.hid hpM
  have HPN := Lib.hid hpN
  have HPQ := Lib.hid (show pM / pN = pQ by rw [← hpM, ← hpN]; exact hQ)
  have HOK := Lib.hid (show decide (pN ≠ 0) = true by rw [← hpN]; exact decide_eq_true hAB)
  have HSG := Lib.hid hsg
  clear hx hy hc rx ry hA hB hC hpM hpN hAB hsg hQ n0
  have hN0 := hN
  have hs0 : w.heap.size ≤ w.heap.size := Nat.le_refl _
  have HB := Lib.hid (Below.refl w.heap.size w)
  go_enter Tryd.func18, Tryd.ntmps18
  go_wp2_with fail
  refine calls_name fun W0 hW => ?_
  have hN_W0 : N ≤ W0.heap.size := by rw [← hW]; (first | omega | (simp; done) | (simp; omega))
  have hs_W0 : w.heap.size ≤ W0.heap.size := by rw [← hW]; (first | omega | (simp; done) | (simp; omega))
  have hs0_W0 : w.heap.size ≤ W0.heap.size := by rw [← hW]; (first | omega | (simp; done) | (simp; omega))
  have hl_R_W0 : w.heap.size < W0.heap.size := by rw [← hW]; (first | omega | (simp; done) | (simp; omega))
  have k_R_0_W0 : W0.cell? ⟨w.heap.size, 0, none⟩ = some (.bool false) := by rw [← hW]; (first | (go_simp; done) | (simp; done) | (simp [go_sem]; done) | (simp [go_sem]; done))
  have k_R_1_W0 : W0.cell? ⟨w.heap.size, 1, none⟩ = some (.slice none 0 0) := by rw [← hW]; (first | (go_simp; done) | (simp; done) | (simp [go_sem]; done) | (simp [go_sem]; done))
  have k_R_2_W0 : W0.cell? ⟨w.heap.size, 2, none⟩ = some (.slice none 0 0) := by rw [← hW]; (first | (go_simp; done) | (simp; done) | (simp [go_sem]; done) | (simp [go_sem]; done))
  have f_R_W0 : ∀ o, W0.frozen? ⟨w.heap.size, o, none⟩ = false := by intro o; rw [← hW]; (first | (go_simp; done) | (simp; done) | (simp [go_sem]; done) | (simp [go_sem]; done))
  have HX_R_W0 := Lib.hid (show Bn W0 (w.heap.size) by rw [← hW]; (repeat' (first | with_reducible exact Kp.refl _ _ | with_reducible apply Kp.alloc | with_reducible apply Kp.drew | (with_reducible refine Kp.put ?_ ?_ ?_ _; rotate_left; (focus (first | omega | (simp; done) | (simp; omega))); rotate_left) | (with_reducible refine Bn.new _ _ _ _ ?_ ?_; (focus (first | omega | (simp; done) | (simp; omega))); decide) | with_reducible apply Bn.alloc | with_reducible apply Bn.drew | with_reducible apply Bn.set)))
  have HB_W0 := Lib.hid (show Below w.heap.size w W0 by rw [← hW]; (repeat' (first | with_reducible exact Below.refl _ _ | with_reducible exact HB.out | (with_reducible refine Below.alloc ?_ ?_ _; rotate_left; (focus (first | omega | (simp; done) | (simp; omega)))) | with_reducible apply Below.drew | (with_reducible refine Below.setCell ?_ ?_ _; rotate_left; (focus (first | omega | (simp; done) | (simp; omega)))))))
  clear hW
  clear HB hN hs0
  have hN := hN_W0
  have HB := HB_W0
  have hs0 := hs0_W0
  have hl_R := hl_R_W0
  have f_R := f_R_W0
  have HX_R := HX_R_W0
  have k_R_0 := k_R_0_W0
  have k_R_1 := k_R_1_W0
  have k_R_2 := k_R_2_W0
  clear hN_W0 HB_W0 hs0_W0 hl_R_W0 f_R_W0 HX_R_W0 k_R_0_W0 k_R_1_W0 k_R_2_W0
  refine (checkLists_any _ _ _ _ _ _ x y _ (HX.out.below HB.out) (HY.out.below HB.out)).mono ?_
  rw [HC.out]
  rintro e w' ⟨rfl, rfl⟩
  go_wp2_with fail
  refine (covariance_any (N := N) _ _ _ _ _ x y _ hN (HX.out.below HB.out) (HY.out.below HB.out) RX.out.big RY.out.big n200 pC HPC.out).mono ?_
  rintro e wa ⟨rb, cb, rb2, cb2, rfl, hn, hn', hb⟩
  have hN_wa : N ≤ wa.heap.size := Nat.le_trans hN hb.size
  have hs_wa : W0.heap.size ≤ wa.heap.size := hb.size
  have hs0_wa : w.heap.size ≤ wa.heap.size := Nat.le_trans hs0 hb.size
  have hl_R_wa : w.heap.size < wa.heap.size := Nat.lt_of_lt_of_le hl_R hb.size
  have k_R_0_wa : wa.cell? ⟨w.heap.size, 0, none⟩ = some (.bool false) := (hb.cell (p := ⟨w.heap.size, 0, none⟩) hl_R).trans k_R_0
  have k_R_1_wa : wa.cell? ⟨w.heap.size, 1, none⟩ = some (.slice none 0 0) := (hb.cell (p := ⟨w.heap.size, 1, none⟩) hl_R).trans k_R_1
  have k_R_2_wa : wa.cell? ⟨w.heap.size, 2, none⟩ = some (.slice none 0 0) := (hb.cell (p := ⟨w.heap.size, 2, none⟩) hl_R).trans k_R_2
  have f_R_wa : ∀ o, wa.frozen? ⟨w.heap.size, o, none⟩ = false := fun o => (hb.frozen (p := ⟨w.heap.size, o, none⟩) hl_R).trans (f_R o)
  have HX_R_wa := Lib.hid (HX_R.out.below hb)
  have HB_wa := Lib.hid (HB.out.trans (hb.mono hs0))
  clear hb
  clear hl_R f_R HX_R k_R_0 k_R_1 k_R_2 HB hN hs0
  have hN := hN_wa
  have HB := HB_wa
  have hs0 := hs0_wa
  have hl_R := hl_R_wa
  have f_R := f_R_wa
  have HX_R := HX_R_wa
  have k_R_0 := k_R_0_wa
  have k_R_1 := k_R_1_wa
  have k_R_2 := k_R_2_wa
  clear hN_wa HB_wa hs0_wa hl_R_wa f_R_wa HX_R_wa k_R_0_wa k_R_1_wa k_R_2_wa
  have HB1 := Lib.hid hn
  clear hn
  have HB2 := Lib.hid hn'
  clear hn'
  go_wp2_with fail
  refine calls_name fun W1 hW => ?_
  have hN_W1 : N ≤ W1.heap.size := by rw [← hW]; (first | omega | (simp; done) | (simp; omega))
  have hs_W1 : wa.heap.size ≤ W1.heap.size := by rw [← hW]; (first | omega | (simp; done) | (simp; omega))
  have hs0_W1 : w.heap.size ≤ W1.heap.size := by rw [← hW]; (first | omega | (simp; done) | (simp; omega))
  have hd_R_B : w.heap.size < wa.heap.size := by omega
  have hl_R_W1 : w.heap.size < W1.heap.size := by rw [← hW]; (first | omega | (simp; done) | (simp; omega))
  have k_R_0_W1 : W1.cell? ⟨w.heap.size, 0, none⟩ = some (.bool false) := by rw [← hW]; (first | with_reducible exact k_R_0 | (simp [go_sem, k_R_0]; done) | (simp [go_sem, k_R_0, hl_R]; done) | (go_simp; done) | (simp [go_sem, k_R_0, k_R_1, k_R_2, f_R, hl_R]; done))
  have k_R_1_W1 : W1.cell? ⟨w.heap.size, 1, none⟩ = some (.slice none 0 0) := by rw [← hW]; (first | with_reducible exact k_R_1 | (simp [go_sem, k_R_1]; done) | (simp [go_sem, k_R_1, hl_R]; done) | (go_simp; done) | (simp [go_sem, k_R_0, k_R_1, k_R_2, f_R, hl_R]; done))
  have k_R_2_W1 : W1.cell? ⟨w.heap.size, 2, none⟩ = some (.slice none 0 0) := by rw [← hW]; (first | with_reducible exact k_R_2 | (simp [go_sem, k_R_2]; done) | (simp [go_sem, k_R_2, hl_R]; done) | (go_simp; done) | (simp [go_sem, k_R_0, k_R_1, k_R_2, f_R, hl_R]; done))
  have f_R_W1 : ∀ o, W1.frozen? ⟨w.heap.size, o, none⟩ = false := by intro o; rw [← hW]; (first | with_reducible exact f_R o | (simp [go_sem, f_R]; done) | (simp [go_sem, f_R, hl_R]; done) | (go_simp; done) | (simp [go_sem, k_R_0, k_R_1, k_R_2, f_R, hl_R]; done))
  have HX_R_W1 := Lib.hid (show Bn W1 (w.heap.size) by rw [← hW]; (repeat' (first | with_reducible exact Kp.refl _ _ | with_reducible exact HX_R.out | with_reducible apply Kp.alloc | with_reducible apply Kp.drew | (with_reducible refine Kp.put ?_ ?_ ?_ _; rotate_left; (focus (first | omega | (simp; done) | (simp; omega))); rotate_left) | (with_reducible refine Bn.new _ _ _ _ ?_ ?_; (focus (first | omega | (simp; done) | (simp; omega))); decide) | with_reducible apply Bn.alloc | with_reducible apply Bn.drew | with_reducible apply Bn.set)))
  have hl_B_W1 : wa.heap.size < W1.heap.size := by rw [← hW]; (first | omega | (simp; done) | (simp; omega))
  have k_B_0_W1 : W1.cell? ⟨wa.heap.size, 0, none⟩ = some (.bool (decide ((pC).num < 0))) := by rw [← hW]; (first | (go_simp; done) | (simp; done) | (simp [go_sem]; done) | (simp [go_sem, k_R_0, k_R_1, k_R_2, f_R, hl_R]; done))
  have k_B_1_W1 : W1.cell? ⟨wa.heap.size, 1, none⟩ = some (.slice rb (nlen (pC).num.natAbs) cb) := by rw [← hW]; (first | (go_simp; done) | (simp; done) | (simp [go_sem]; done) | (simp [go_sem, k_R_0, k_R_1, k_R_2, f_R, hl_R]; done))
  have k_B_2_W1 : W1.cell? ⟨wa.heap.size, 2, none⟩ = some (.slice rb2 (nlen (pC).den) cb2) := by rw [← hW]; (first | (go_simp; done) | (simp; done) | (simp [go_sem]; done) | (simp [go_sem, k_R_0, k_R_1, k_R_2, f_R, hl_R]; done))
  have f_B_W1 : ∀ o, W1.frozen? ⟨wa.heap.size, o, none⟩ = false := by intro o; rw [← hW]; (first | (go_simp; done) | (simp; done) | (simp [go_sem]; done) | (simp [go_sem, k_R_0, k_R_1, k_R_2, f_R, hl_R]; done))
  have HX_B_W1 := Lib.hid (show Bn W1 (wa.heap.size) by rw [← hW]; (repeat' (first | with_reducible exact Kp.refl _ _ | with_reducible exact HX_R.out | with_reducible apply Kp.alloc | with_reducible apply Kp.drew | (with_reducible refine Kp.put ?_ ?_ ?_ _; rotate_left; (focus (first | omega | (simp; done) | (simp; omega))); rotate_left) | (with_reducible refine Bn.new _ _ _ _ ?_ ?_; (focus (first | omega | (simp; done) | (simp; omega))); decide) | with_reducible apply Bn.alloc | with_reducible apply Bn.drew | with_reducible apply Bn.set)))
  have HK_W1 := Lib.hid (show Kp N wa W1 by rw [← hW]; (repeat' (first | with_reducible exact Kp.refl _ _ | with_reducible exact HX_R.out | with_reducible apply Kp.alloc | with_reducible apply Kp.drew | (with_reducible refine Kp.put ?_ ?_ ?_ _; rotate_left; (focus (first | omega | (simp; done) | (simp; omega))); rotate_left) | (with_reducible refine Bn.new _ _ _ _ ?_ ?_; (focus (first | omega | (simp; done) | (simp; omega))); decide) | with_reducible apply Bn.alloc | with_reducible apply Bn.drew | with_reducible apply Bn.set)))
  have HB1_W1 := Lib.hid (HB1.out.keep HK_W1.out)
  have HB2_W1 := Lib.hid (HB2.out.keep HK_W1.out)
  have HB_W1 := Lib.hid (show Below w.heap.size w W1 by rw [← hW]; (repeat' (first | with_reducible exact Below.refl _ _ | with_reducible exact HB.out | (with_reducible refine Below.alloc ?_ ?_ _; rotate_left; (focus (first | omega | (simp; done) | (simp; omega)))) | with_reducible apply Below.drew | (with_reducible refine Below.setCell ?_ ?_ _; rotate_left; (focus (first | omega | (simp; done) | (simp; omega)))))))
  clear hW HK_W1
  clear hl_R f_R HX_R k_R_0 k_R_1 k_R_2 HB1 HB2 HB hN hs0
  have hN := hN_W1
  have HB := HB_W1
  have hs0 := hs0_W1
  have hl_R := hl_R_W1
  have f_R := f_R_W1
  have HX_R := HX_R_W1
  have k_R_0 := k_R_0_W1
  have k_R_1 := k_R_1_W1
  have k_R_2 := k_R_2_W1
  have hl_B := hl_B_W1
  have f_B := f_B_W1
  have HX_B := HX_B_W1
  have k_B_0 := k_B_0_W1
  have k_B_1 := k_B_1_W1
  have k_B_2 := k_B_2_W1
  have HB1 := HB1_W1
  have HB2 := HB2_W1
  clear hN_W1 HB_W1 hs0_W1 hl_R_W1 f_R_W1 HX_R_W1 k_R_0_W1 k_R_1_W1 k_R_2_W1 hl_B_W1 f_B_W1 HX_B_W1 k_B_0_W1 k_B_1_W1 k_B_2_W1 HB1_W1 HB2_W1
  refine (rmul_any (N := N) _ _ _ _ _ _ _ _ _ _ _ _ _ _ 7 7 pC pC _ hN (Rt.of_norm HB1.out HB2.out 7 ZC.out) (Rt.of_norm HB1.out HB2.out 7 ZC.out) (by omega) (by omega) pM HPM.out).mono ?_
  rintro e wb ⟨rm, cm, rm2, cm2, rfl, hn, hn', hb⟩
  have hN_wb : N ≤ wb.heap.size := Nat.le_trans hN hb.size
  have hs_wb : W1.heap.size ≤ wb.heap.size := hb.size
  have hs0_wb : w.heap.size ≤ wb.heap.size := Nat.le_trans hs0 hb.size
  have hl_R_wb : w.heap.size < wb.heap.size := Nat.lt_of_lt_of_le hl_R hb.size
  have k_R_0_wb : wb.cell? ⟨w.heap.size, 0, none⟩ = some (.bool false) := (hb.cell (p := ⟨w.heap.size, 0, none⟩) hl_R).trans k_R_0
  have k_R_1_wb : wb.cell? ⟨w.heap.size, 1, none⟩ = some (.slice none 0 0) := (hb.cell (p := ⟨w.heap.size, 1, none⟩) hl_R).trans k_R_1
  have k_R_2_wb : wb.cell? ⟨w.heap.size, 2, none⟩ = some (.slice none 0 0) := (hb.cell (p := ⟨w.heap.size, 2, none⟩) hl_R).trans k_R_2
  have f_R_wb : ∀ o, wb.frozen? ⟨w.heap.size, o, none⟩ = false := fun o => (hb.frozen (p := ⟨w.heap.size, o, none⟩) hl_R).trans (f_R o)
  have HX_R_wb := Lib.hid (HX_R.out.below hb)
  have hl_B_wb : wa.heap.size < wb.heap.size := Nat.lt_of_lt_of_le hl_B hb.size
  have k_B_0_wb : wb.cell? ⟨wa.heap.size, 0, none⟩ = some (.bool (decide ((pC).num < 0))) := (hb.cell (p := ⟨wa.heap.size, 0, none⟩) hl_B).trans k_B_0
  have k_B_1_wb : wb.cell? ⟨wa.heap.size, 1, none⟩ = some (.slice rb (nlen (pC).num.natAbs) cb) := (hb.cell (p := ⟨wa.heap.size, 1, none⟩) hl_B).trans k_B_1
  have k_B_2_wb : wb.cell? ⟨wa.heap.size, 2, none⟩ = some (.slice rb2 (nlen (pC).den) cb2) := (hb.cell (p := ⟨wa.heap.size, 2, none⟩) hl_B).trans k_B_2
  have f_B_wb : ∀ o, wb.frozen? ⟨wa.heap.size, o, none⟩ = false := fun o => (hb.frozen (p := ⟨wa.heap.size, o, none⟩) hl_B).trans (f_B o)
  have HX_B_wb := Lib.hid (HX_B.out.below hb)
  have HB1_wb := Lib.hid (HB1.out.below hb)
  have HB2_wb := Lib.hid (HB2.out.below hb)
  have HB_wb := Lib.hid (HB.out.trans (hb.mono hs0))
  clear hb
  clear hl_R f_R HX_R k_R_0 k_R_1 k_R_2 hl_B f_B HX_B k_B_0 k_B_1 k_B_2 HB1 HB2 HB hN hs0
  have hN := hN_wb
  have HB := HB_wb
  have hs0 := hs0_wb
  have hl_R := hl_R_wb
  have f_R := f_R_wb
  have HX_R := HX_R_wb
  have k_R_0 := k_R_0_wb
  have k_R_1 := k_R_1_wb
  have k_R_2 := k_R_2_wb
  have hl_B := hl_B_wb
  have f_B := f_B_wb
  have HX_B := HX_B_wb
  have k_B_0 := k_B_0_wb
  have k_B_1 := k_B_1_wb
  have k_B_2 := k_B_2_wb
  have HB1 := HB1_wb
  have HB2 := HB2_wb
  clear hN_wb HB_wb hs0_wb hl_R_wb f_R_wb HX_R_wb k_R_0_wb k_R_1_wb k_R_2_wb hl_B_wb f_B_wb HX_B_wb k_B_0_wb k_B_1_wb k_B_2_wb HB1_wb HB2_wb
  have HM1 := Lib.hid hn
  clear hn
  have HM2 := Lib.hid hn'
  clear hn'
  go_wp2_with fail
  refine (covariance_any (N := N) _ _ _ _ _ x x _ hN (HX.out.below HB.out) (HX.out.below HB.out) RX.out.big RX.out.big n200 pA HPA.out).mono ?_
  rintro e wc ⟨rc, cc, rc2, cc2, rfl, hn, hn', hb⟩
  have hN_wc : N ≤ wc.heap.size := Nat.le_trans hN hb.size
  have hs_wc : wb.heap.size ≤ wc.heap.size := hb.size
  have hs0_wc : w.heap.size ≤ wc.heap.size := Nat.le_trans hs0 hb.size
  have hl_R_wc : w.heap.size < wc.heap.size := Nat.lt_of_lt_of_le hl_R hb.size
  have k_R_0_wc : wc.cell? ⟨w.heap.size, 0, none⟩ = some (.bool false) := (hb.cell (p := ⟨w.heap.size, 0, none⟩) hl_R).trans k_R_0
  have k_R_1_wc : wc.cell? ⟨w.heap.size, 1, none⟩ = some (.slice none 0 0) := (hb.cell (p := ⟨w.heap.size, 1, none⟩) hl_R).trans k_R_1
  have k_R_2_wc : wc.cell? ⟨w.heap.size, 2, none⟩ = some (.slice none 0 0) := (hb.cell (p := ⟨w.heap.size, 2, none⟩) hl_R).trans k_R_2
  have f_R_wc : ∀ o, wc.frozen? ⟨w.heap.size, o, none⟩ = false := fun o => (hb.frozen (p := ⟨w.heap.size, o, none⟩) hl_R).trans (f_R o)
  have HX_R_wc := Lib.hid (HX_R.out.below hb)
  have hl_B_wc : wa.heap.size < wc.heap.size := Nat.lt_of_lt_of_le hl_B hb.size
  have k_B_0_wc : wc.cell? ⟨wa.heap.size, 0, none⟩ = some (.bool (decide ((pC).num < 0))) := (hb.cell (p := ⟨wa.heap.size, 0, none⟩) hl_B).trans k_B_0
  have k_B_1_wc : wc.cell? ⟨wa.heap.size, 1, none⟩ = some (.slice rb (nlen (pC).num.natAbs) cb) := (hb.cell (p := ⟨wa.heap.size, 1, none⟩) hl_B).trans k_B_1
  have k_B_2_wc : wc.cell? ⟨wa.heap.size, 2, none⟩ = some (.slice rb2 (nlen (pC).den) cb2) := (hb.cell (p := ⟨wa.heap.size, 2, none⟩) hl_B).trans k_B_2
  have f_B_wc : ∀ o, wc.frozen? ⟨wa.heap.size, o, none⟩ = false := fun o => (hb.frozen (p := ⟨wa.heap.size, o, none⟩) hl_B).trans (f_B o)
  have HX_B_wc := Lib.hid (HX_B.out.below hb)
  have HB1_wc := Lib.hid (HB1.out.below hb)
  have HB2_wc := Lib.hid (HB2.out.below hb)
  have HM1_wc := Lib.hid (HM1.out.below hb)
  have HM2_wc := Lib.hid (HM2.out.below hb)
  have HB_wc := Lib.hid (HB.out.trans (hb.mono hs0))
  clear hb
  clear hl_R f_R HX_R k_R_0 k_R_1 k_R_2 hl_B f_B HX_B k_B_0 k_B_1 k_B_2 HB1 HB2 HM1 HM2 HB hN hs0
  have hN := hN_wc
  have HB := HB_wc
  have hs0 := hs0_wc
  have hl_R := hl_R_wc
  have f_R := f_R_wc
  have HX_R := HX_R_wc
  have k_R_0 := k_R_0_wc
  have k_R_1 := k_R_1_wc
  have k_R_2 := k_R_2_wc
  have hl_B := hl_B_wc
  have f_B := f_B_wc
  have HX_B := HX_B_wc
  have k_B_0 := k_B_0_wc
  have k_B_1 := k_B_1_wc
  have k_B_2 := k_B_2_wc
  have HB1 := HB1_wc
  have HB2 := HB2_wc
  have HM1 := HM1_wc
  have HM2 := HM2_wc
  clear hN_wc HB_wc hs0_wc hl_R_wc f_R_wc HX_R_wc k_R_0_wc k_R_1_wc k_R_2_wc hl_B_wc f_B_wc HX_B_wc k_B_0_wc k_B_1_wc k_B_2_wc HB1_wc HB2_wc HM1_wc HM2_wc
  have HA1 := Lib.hid hn
  clear hn
  have HA2 := Lib.hid hn'
  clear hn'
  go_wp2_with fail
  refine (covariance_any (N := N) _ _ _ _ _ y y _ hN (HY.out.below HB.out) (HY.out.below HB.out) RY.out.big RY.out.big n200 pB HPB.out).mono ?_
  rintro e wd ⟨rd, cd, rd2, cd2, rfl, hn, hn', hb⟩
  have hN_wd : N ≤ wd.heap.size := Nat.le_trans hN hb.size
  have hs_wd : wc.heap.size ≤ wd.heap.size := hb.size
  have hs0_wd : w.heap.size ≤ wd.heap.size := Nat.le_trans hs0 hb.size
  have hl_R_wd : w.heap.size < wd.heap.size := Nat.lt_of_lt_of_le hl_R hb.size
  have k_R_0_wd : wd.cell? ⟨w.heap.size, 0, none⟩ = some (.bool false) := (hb.cell (p := ⟨w.heap.size, 0, none⟩) hl_R).trans k_R_0
  have k_R_1_wd : wd.cell? ⟨w.heap.size, 1, none⟩ = some (.slice none 0 0) := (hb.cell (p := ⟨w.heap.size, 1, none⟩) hl_R).trans k_R_1
  have k_R_2_wd : wd.cell? ⟨w.heap.size, 2, none⟩ = some (.slice none 0 0) := (hb.cell (p := ⟨w.heap.size, 2, none⟩) hl_R).trans k_R_2
  have f_R_wd : ∀ o, wd.frozen? ⟨w.heap.size, o, none⟩ = false := fun o => (hb.frozen (p := ⟨w.heap.size, o, none⟩) hl_R).trans (f_R o)
  have HX_R_wd := Lib.hid (HX_R.out.below hb)
  have hl_B_wd : wa.heap.size < wd.heap.size := Nat.lt_of_lt_of_le hl_B hb.size
  have k_B_0_wd : wd.cell? ⟨wa.heap.size, 0, none⟩ = some (.bool (decide ((pC).num < 0))) := (hb.cell (p := ⟨wa.heap.size, 0, none⟩) hl_B).trans k_B_0
  have k_B_1_wd : wd.cell? ⟨wa.heap.size, 1, none⟩ = some (.slice rb (nlen (pC).num.natAbs) cb) := (hb.cell (p := ⟨wa.heap.size, 1, none⟩) hl_B).trans k_B_1
  have k_B_2_wd : wd.cell? ⟨wa.heap.size, 2, none⟩ = some (.slice rb2 (nlen (pC).den) cb2) := (hb.cell (p := ⟨wa.heap.size, 2, none⟩) hl_B).trans k_B_2
  have f_B_wd : ∀ o, wd.frozen? ⟨wa.heap.size, o, none⟩ = false := fun o => (hb.frozen (p := ⟨wa.heap.size, o, none⟩) hl_B).trans (f_B o)
  have HX_B_wd := Lib.hid (HX_B.out.below hb)
  have HB1_wd := Lib.hid (HB1.out.below hb)
  have HB2_wd := Lib.hid (HB2.out.below hb)
  have HM1_wd := Lib.hid (HM1.out.below hb)
  have HM2_wd := Lib.hid (HM2.out.below hb)
  have HA1_wd := Lib.hid (HA1.out.below hb)
  have HA2_wd := Lib.hid (HA2.out.below hb)
  have HB_wd := Lib.hid (HB.out.trans (hb.mono hs0))
  clear hb
  clear hl_R f_R HX_R k_R_0 k_R_1 k_R_2 hl_B f_B HX_B k_B_0 k_B_1 k_B_2 HB1 HB2 HM1 HM2 HA1 HA2 HB hN hs0
  have hN := hN_wd
  have HB := HB_wd
  have hs0 := hs0_wd
  have hl_R := hl_R_wd
  have f_R := f_R_wd
  have HX_R := HX_R_wd
  have k_R_0 := k_R_0_wd
  have k_R_1 := k_R_1_wd
  have k_R_2 := k_R_2_wd
  have hl_B := hl_B_wd
  have f_B := f_B_wd
  have HX_B := HX_B_wd
  have k_B_0 := k_B_0_wd
  have k_B_1 := k_B_1_wd
  have k_B_2 := k_B_2_wd
  have HB1 := HB1_wd
  have HB2 := HB2_wd
  have HM1 := HM1_wd
  have HM2 := HM2_wd
  have HA1 := HA1_wd
  have HA2 := HA2_wd
  clear hN_wd HB_wd hs0_wd hl_R_wd f_R_wd HX_R_wd k_R_0_wd k_R_1_wd k_R_2_wd hl_B_wd f_B_wd HX_B_wd k_B_0_wd k_B_1_wd k_B_2_wd HB1_wd HB2_wd HM1_wd HM2_wd HA1_wd HA2_wd
  have HD1 := Lib.hid hn
  clear hn
  have HD2 := Lib.hid hn'
  clear hn'
  go_wp2_with fail
  refine (rmul_any (N := N) _ _ _ _ _ _ _ _ _ _ _ _ _ _ 7 7 pA pB _ hN (Rt.of_norm HA1.out HA2.out 7 ZA.out) (Rt.of_norm HD1.out HD2.out 7 ZB.out) (by omega) (by omega) pN HPN.out).mono ?_
  rintro e we ⟨re, ce, re2, ce2, rfl, hn, hn', hb⟩
  have hN_we : N ≤ we.heap.size := Nat.le_trans hN hb.size
  have hs_we : wd.heap.size ≤ we.heap.size := hb.size
  have hs0_we : w.heap.size ≤ we.heap.size := Nat.le_trans hs0 hb.size
  have hl_R_we : w.heap.size < we.heap.size := Nat.lt_of_lt_of_le hl_R hb.size
  have k_R_0_we : we.cell? ⟨w.heap.size, 0, none⟩ = some (.bool false) := (hb.cell (p := ⟨w.heap.size, 0, none⟩) hl_R).trans k_R_0
  have k_R_1_we : we.cell? ⟨w.heap.size, 1, none⟩ = some (.slice none 0 0) := (hb.cell (p := ⟨w.heap.size, 1, none⟩) hl_R).trans k_R_1
  have k_R_2_we : we.cell? ⟨w.heap.size, 2, none⟩ = some (.slice none 0 0) := (hb.cell (p := ⟨w.heap.size, 2, none⟩) hl_R).trans k_R_2
  have f_R_we : ∀ o, we.frozen? ⟨w.heap.size, o, none⟩ = false := fun o => (hb.frozen (p := ⟨w.heap.size, o, none⟩) hl_R).trans (f_R o)
  have HX_R_we := Lib.hid (HX_R.out.below hb)
  have hl_B_we : wa.heap.size < we.heap.size := Nat.lt_of_lt_of_le hl_B hb.size
  have k_B_0_we : we.cell? ⟨wa.heap.size, 0, none⟩ = some (.bool (decide ((pC).num < 0))) := (hb.cell (p := ⟨wa.heap.size, 0, none⟩) hl_B).trans k_B_0
  have k_B_1_we : we.cell? ⟨wa.heap.size, 1, none⟩ = some (.slice rb (nlen (pC).num.natAbs) cb) := (hb.cell (p := ⟨wa.heap.size, 1, none⟩) hl_B).trans k_B_1
  have k_B_2_we : we.cell? ⟨wa.heap.size, 2, none⟩ = some (.slice rb2 (nlen (pC).den) cb2) := (hb.cell (p := ⟨wa.heap.size, 2, none⟩) hl_B).trans k_B_2
  have f_B_we : ∀ o, we.frozen? ⟨wa.heap.size, o, none⟩ = false := fun o => (hb.frozen (p := ⟨wa.heap.size, o, none⟩) hl_B).trans (f_B o)
  have HX_B_we := Lib.hid (HX_B.out.below hb)
  have HB1_we := Lib.hid (HB1.out.below hb)
  have HB2_we := Lib.hid (HB2.out.below hb)
  have HM1_we := Lib.hid (HM1.out.below hb)
  have HM2_we := Lib.hid (HM2.out.below hb)
  have HA1_we := Lib.hid (HA1.out.below hb)
  have HA2_we := Lib.hid (HA2.out.below hb)
  have HD1_we := Lib.hid (HD1.out.below hb)
  have HD2_we := Lib.hid (HD2.out.below hb)
  have HB_we := Lib.hid (HB.out.trans (hb.mono hs0))
  clear hb
  clear hl_R f_R HX_R k_R_0 k_R_1 k_R_2 hl_B f_B HX_B k_B_0 k_B_1 k_B_2 HB1 HB2 HM1 HM2 HA1 HA2 HD1 HD2 HB hN hs0
  have hN := hN_we
  have HB := HB_we
  have hs0 := hs0_we
  have hl_R := hl_R_we
  have f_R := f_R_we
  have HX_R := HX_R_we
  have k_R_0 := k_R_0_we
  have k_R_1 := k_R_1_we
  have k_R_2 := k_R_2_we
  have hl_B := hl_B_we
  have f_B := f_B_we
  have HX_B := HX_B_we
  have k_B_0 := k_B_0_we
  have k_B_1 := k_B_1_we
  have k_B_2 := k_B_2_we
  have HB1 := HB1_we
  have HB2 := HB2_we
  have HM1 := HM1_we
  have HM2 := HM2_we
  have HA1 := HA1_we
  have HA2 := HA2_we
  have HD1 := HD1_we
  have HD2 := HD2_we
  clear hN_we HB_we hs0_we hl_R_we f_R_we HX_R_we k_R_0_we k_R_1_we k_R_2_we hl_B_we f_B_we HX_B_we k_B_0_we k_B_1_we k_B_2_we HB1_we HB2_we HM1_we HM2_we HA1_we HA2_we HD1_we HD2_we
  have HE1 := Lib.hid hn
  clear hn
  have HE2 := Lib.hid hn'
  clear hn'
  go_wp2_with fail
  refine (rdiv_any (N := N) _ _ _ _ _ _ _ _ _ _ _ _ _ _ 14 14 pM pN _ hN (Rt.of_norm HM1.out HM2.out 14 ZM.out) (Rt.of_norm HE1.out HE2.out 14 ZN.out) (by omega) (by omega) pQ HPQ.out true HOK.out).mono ?_
  rintro e wf ⟨rf, cf, rf2, cf2, rfl, hn, hn', hb⟩
  have hN_wf : N ≤ wf.heap.size := Nat.le_trans hN hb.size
  have hs_wf : we.heap.size ≤ wf.heap.size := hb.size
  have hs0_wf : w.heap.size ≤ wf.heap.size := Nat.le_trans hs0 hb.size
  have hl_R_wf : w.heap.size < wf.heap.size := Nat.lt_of_lt_of_le hl_R hb.size
  have k_R_0_wf : wf.cell? ⟨w.heap.size, 0, none⟩ = some (.bool false) := (hb.cell (p := ⟨w.heap.size, 0, none⟩) hl_R).trans k_R_0
  have k_R_1_wf : wf.cell? ⟨w.heap.size, 1, none⟩ = some (.slice none 0 0) := (hb.cell (p := ⟨w.heap.size, 1, none⟩) hl_R).trans k_R_1
  have k_R_2_wf : wf.cell? ⟨w.heap.size, 2, none⟩ = some (.slice none 0 0) := (hb.cell (p := ⟨w.heap.size, 2, none⟩) hl_R).trans k_R_2
  have f_R_wf : ∀ o, wf.frozen? ⟨w.heap.size, o, none⟩ = false := fun o => (hb.frozen (p := ⟨w.heap.size, o, none⟩) hl_R).trans (f_R o)
  have HX_R_wf := Lib.hid (HX_R.out.below hb)
  have hl_B_wf : wa.heap.size < wf.heap.size := Nat.lt_of_lt_of_le hl_B hb.size
  have k_B_0_wf : wf.cell? ⟨wa.heap.size, 0, none⟩ = some (.bool (decide ((pC).num < 0))) := (hb.cell (p := ⟨wa.heap.size, 0, none⟩) hl_B).trans k_B_0
  have k_B_1_wf : wf.cell? ⟨wa.heap.size, 1, none⟩ = some (.slice rb (nlen (pC).num.natAbs) cb) := (hb.cell (p := ⟨wa.heap.size, 1, none⟩) hl_B).trans k_B_1
  have k_B_2_wf : wf.cell? ⟨wa.heap.size, 2, none⟩ = some (.slice rb2 (nlen (pC).den) cb2) := (hb.cell (p := ⟨wa.heap.size, 2, none⟩) hl_B).trans k_B_2
  have f_B_wf : ∀ o, wf.frozen? ⟨wa.heap.size, o, none⟩ = false := fun o => (hb.frozen (p := ⟨wa.heap.size, o, none⟩) hl_B).trans (f_B o)
  have HX_B_wf := Lib.hid (HX_B.out.below hb)
  have HB1_wf := Lib.hid (HB1.out.below hb)
  have HB2_wf := Lib.hid (HB2.out.below hb)
  have HM1_wf := Lib.hid (HM1.out.below hb)
  have HM2_wf := Lib.hid (HM2.out.below hb)
  have HA1_wf := Lib.hid (HA1.out.below hb)
  have HA2_wf := Lib.hid (HA2.out.below hb)
  have HD1_wf := Lib.hid (HD1.out.below hb)
  have HD2_wf := Lib.hid (HD2.out.below hb)
  have HE1_wf := Lib.hid (HE1.out.below hb)
  have HE2_wf := Lib.hid (HE2.out.below hb)
  have HB_wf := Lib.hid (HB.out.trans (hb.mono hs0))
  clear hb
  clear hl_R f_R HX_R k_R_0 k_R_1 k_R_2 hl_B f_B HX_B k_B_0 k_B_1 k_B_2 HB1 HB2 HM1 HM2 HA1 HA2 HD1 HD2 HE1 HE2 HB hN hs0
  have hN := hN_wf
  have HB := HB_wf
  have hs0 := hs0_wf
  have hl_R := hl_R_wf
  have f_R := f_R_wf
  have HX_R := HX_R_wf
  have k_R_0 := k_R_0_wf
  have k_R_1 := k_R_1_wf
  have k_R_2 := k_R_2_wf
  have hl_B := hl_B_wf
  have f_B := f_B_wf
  have HX_B := HX_B_wf
  have k_B_0 := k_B_0_wf
  have k_B_1 := k_B_1_wf
  have k_B_2 := k_B_2_wf
  have HB1 := HB1_wf
  have HB2 := HB2_wf
  have HM1 := HM1_wf
  have HM2 := HM2_wf
  have HA1 := HA1_wf
  have HA2 := HA2_wf
  have HD1 := HD1_wf
  have HD2 := HD2_wf
  have HE1 := HE1_wf
  have HE2 := HE2_wf
  clear hN_wf HB_wf hs0_wf hl_R_wf f_R_wf HX_R_wf k_R_0_wf k_R_1_wf k_R_2_wf hl_B_wf f_B_wf HX_B_wf k_B_0_wf k_B_1_wf k_B_2_wf HB1_wf HB2_wf HM1_wf HM2_wf HA1_wf HA2_wf HD1_wf HD2_wf HE1_wf HE2_wf
  have HF1 := Lib.hid hn
  clear hn
  have HF2 := Lib.hid hn'
  clear hn'
  go_wp2_with fail
  refine region_name fun W2 hW => ?_
  have hN_W2 : N ≤ W2.heap.size := by rw [← hW]; (first | omega | (simp; done) | (simp; omega))
  have hs_W2 : wf.heap.size ≤ W2.heap.size := by rw [← hW]; (first | omega | (simp; done) | (simp; omega))
  have hs0_W2 : w.heap.size ≤ W2.heap.size := by rw [← hW]; (first | omega | (simp; done) | (simp; omega))
  have hd_R_S : w.heap.size < wf.heap.size := by omega
  have hd_B_S : wa.heap.size < wf.heap.size := by omega
  have hl_R_W2 : w.heap.size < W2.heap.size := by rw [← hW]; (first | omega | (simp; done) | (simp; omega))
  have k_R_0_W2 : W2.cell? ⟨w.heap.size, 0, none⟩ = some (.bool false) := by rw [← hW]; (first | with_reducible exact k_R_0 | (simp [go_sem, k_R_0]; done) | (simp [go_sem, k_R_0, hl_R]; done) | (go_simp; done) | (simp [go_sem, k_R_0, k_R_1, k_R_2, k_B_0, k_B_1, k_B_2, f_R, f_B, hl_R, hl_B]; done))
  have k_R_1_W2 : W2.cell? ⟨w.heap.size, 1, none⟩ = some (.slice none 0 0) := by rw [← hW]; (first | with_reducible exact k_R_1 | (simp [go_sem, k_R_1]; done) | (simp [go_sem, k_R_1, hl_R]; done) | (go_simp; done) | (simp [go_sem, k_R_0, k_R_1, k_R_2, k_B_0, k_B_1, k_B_2, f_R, f_B, hl_R, hl_B]; done))
  have k_R_2_W2 : W2.cell? ⟨w.heap.size, 2, none⟩ = some (.slice none 0 0) := by rw [← hW]; (first | with_reducible exact k_R_2 | (simp [go_sem, k_R_2]; done) | (simp [go_sem, k_R_2, hl_R]; done) | (go_simp; done) | (simp [go_sem, k_R_0, k_R_1, k_R_2, k_B_0, k_B_1, k_B_2, f_R, f_B, hl_R, hl_B]; done))
  have f_R_W2 : ∀ o, W2.frozen? ⟨w.heap.size, o, none⟩ = false := by intro o; rw [← hW]; (first | with_reducible exact f_R o | (simp [go_sem, f_R]; done) | (simp [go_sem, f_R, hl_R]; done) | (go_simp; done) | (simp [go_sem, k_R_0, k_R_1, k_R_2, k_B_0, k_B_1, k_B_2, f_R, f_B, hl_R, hl_B]; done))
  have HX_R_W2 := Lib.hid (show Bn W2 (w.heap.size) by rw [← hW]; (repeat' (first | with_reducible exact Kp.refl _ _ | with_reducible exact HX_R.out | with_reducible exact HX_B.out | with_reducible apply Kp.alloc | with_reducible apply Kp.drew | (with_reducible refine Kp.put ?_ ?_ ?_ _; rotate_left; (focus (first | omega | (simp; done) | (simp; omega))); rotate_left) | (with_reducible refine Bn.new _ _ _ _ ?_ ?_; (focus (first | omega | (simp; done) | (simp; omega))); decide) | with_reducible apply Bn.alloc | with_reducible apply Bn.drew | with_reducible apply Bn.set)))
  have hl_B_W2 : wa.heap.size < W2.heap.size := by rw [← hW]; (first | omega | (simp; done) | (simp; omega))
  have k_B_0_W2 : W2.cell? ⟨wa.heap.size, 0, none⟩ = some (.bool (decide ((pC).num < 0))) := by rw [← hW]; (first | with_reducible exact k_B_0 | (simp [go_sem, k_B_0]; done) | (simp [go_sem, k_B_0, hl_B]; done) | (go_simp; done) | (simp [go_sem, k_R_0, k_R_1, k_R_2, k_B_0, k_B_1, k_B_2, f_R, f_B, hl_R, hl_B]; done))
  have k_B_1_W2 : W2.cell? ⟨wa.heap.size, 1, none⟩ = some (.slice rb (nlen (pC).num.natAbs) cb) := by rw [← hW]; (first | with_reducible exact k_B_1 | (simp [go_sem, k_B_1]; done) | (simp [go_sem, k_B_1, hl_B]; done) | (go_simp; done) | (simp [go_sem, k_R_0, k_R_1, k_R_2, k_B_0, k_B_1, k_B_2, f_R, f_B, hl_R, hl_B]; done))
  have k_B_2_W2 : W2.cell? ⟨wa.heap.size, 2, none⟩ = some (.slice rb2 (nlen (pC).den) cb2) := by rw [← hW]; (first | with_reducible exact k_B_2 | (simp [go_sem, k_B_2]; done) | (simp [go_sem, k_B_2, hl_B]; done) | (go_simp; done) | (simp [go_sem, k_R_0, k_R_1, k_R_2, k_B_0, k_B_1, k_B_2, f_R, f_B, hl_R, hl_B]; done))
  have f_B_W2 : ∀ o, W2.frozen? ⟨wa.heap.size, o, none⟩ = false := by intro o; rw [← hW]; (first | with_reducible exact f_B o | (simp [go_sem, f_B]; done) | (simp [go_sem, f_B, hl_B]; done) | (go_simp; done) | (simp [go_sem, k_R_0, k_R_1, k_R_2, k_B_0, k_B_1, k_B_2, f_R, f_B, hl_R, hl_B]; done))
  have HX_B_W2 := Lib.hid (show Bn W2 (wa.heap.size) by rw [← hW]; (repeat' (first | with_reducible exact Kp.refl _ _ | with_reducible exact HX_R.out | with_reducible exact HX_B.out | with_reducible apply Kp.alloc | with_reducible apply Kp.drew | (with_reducible refine Kp.put ?_ ?_ ?_ _; rotate_left; (focus (first | omega | (simp; done) | (simp; omega))); rotate_left) | (with_reducible refine Bn.new _ _ _ _ ?_ ?_; (focus (first | omega | (simp; done) | (simp; omega))); decide) | with_reducible apply Bn.alloc | with_reducible apply Bn.drew | with_reducible apply Bn.set)))
  have hl_S_W2 : wf.heap.size < W2.heap.size := by rw [← hW]; (first | omega | (simp; done) | (simp; omega))
  have k_S_0_W2 : W2.cell? ⟨wf.heap.size, 0, none⟩ = some (.bool (decide ((pQ).num < 0))) := by rw [← hW]; (first | (go_simp; done) | (simp; done) | (simp [go_sem]; done) | (simp [go_sem, k_R_0, k_R_1, k_R_2, k_B_0, k_B_1, k_B_2, f_R, f_B, hl_R, hl_B]; done))
  have k_S_1_W2 : W2.cell? ⟨wf.heap.size, 1, none⟩ = some (.slice rf (nlen (pQ).num.natAbs) cf) := by rw [← hW]; (first | (go_simp; done) | (simp; done) | (simp [go_sem]; done) | (simp [go_sem, k_R_0, k_R_1, k_R_2, k_B_0, k_B_1, k_B_2, f_R, f_B, hl_R, hl_B]; done))
  have k_S_2_W2 : W2.cell? ⟨wf.heap.size, 2, none⟩ = some (.slice rf2 (nlen (pQ).den) cf2) := by rw [← hW]; (first | (go_simp; done) | (simp; done) | (simp [go_sem]; done) | (simp [go_sem, k_R_0, k_R_1, k_R_2, k_B_0, k_B_1, k_B_2, f_R, f_B, hl_R, hl_B]; done))
  have f_S_W2 : ∀ o, W2.frozen? ⟨wf.heap.size, o, none⟩ = false := by intro o; rw [← hW]; (first | (go_simp; done) | (simp; done) | (simp [go_sem]; done) | (simp [go_sem, k_R_0, k_R_1, k_R_2, k_B_0, k_B_1, k_B_2, f_R, f_B, hl_R, hl_B]; done))
  have HX_S_W2 := Lib.hid (show Bn W2 (wf.heap.size) by rw [← hW]; (repeat' (first | with_reducible exact Kp.refl _ _ | with_reducible exact HX_R.out | with_reducible exact HX_B.out | with_reducible apply Kp.alloc | with_reducible apply Kp.drew | (with_reducible refine Kp.put ?_ ?_ ?_ _; rotate_left; (focus (first | omega | (simp; done) | (simp; omega))); rotate_left) | (with_reducible refine Bn.new _ _ _ _ ?_ ?_; (focus (first | omega | (simp; done) | (simp; omega))); decide) | with_reducible apply Bn.alloc | with_reducible apply Bn.drew | with_reducible apply Bn.set)))
  have HK_W2 := Lib.hid (show Kp N wf W2 by rw [← hW]; (repeat' (first | with_reducible exact Kp.refl _ _ | with_reducible exact HX_R.out | with_reducible exact HX_B.out | with_reducible apply Kp.alloc | with_reducible apply Kp.drew | (with_reducible refine Kp.put ?_ ?_ ?_ _; rotate_left; (focus (first | omega | (simp; done) | (simp; omega))); rotate_left) | (with_reducible refine Bn.new _ _ _ _ ?_ ?_; (focus (first | omega | (simp; done) | (simp; omega))); decide) | with_reducible apply Bn.alloc | with_reducible apply Bn.drew | with_reducible apply Bn.set)))
  have HB1_W2 := Lib.hid (HB1.out.keep HK_W2.out)
  have HB2_W2 := Lib.hid (HB2.out.keep HK_W2.out)
  have HM1_W2 := Lib.hid (HM1.out.keep HK_W2.out)
  have HM2_W2 := Lib.hid (HM2.out.keep HK_W2.out)
  have HA1_W2 := Lib.hid (HA1.out.keep HK_W2.out)
  have HA2_W2 := Lib.hid (HA2.out.keep HK_W2.out)
  have HD1_W2 := Lib.hid (HD1.out.keep HK_W2.out)
  have HD2_W2 := Lib.hid (HD2.out.keep HK_W2.out)
  have HE1_W2 := Lib.hid (HE1.out.keep HK_W2.out)
  have HE2_W2 := Lib.hid (HE2.out.keep HK_W2.out)
  have HF1_W2 := Lib.hid (HF1.out.keep HK_W2.out)
  have HF2_W2 := Lib.hid (HF2.out.keep HK_W2.out)
  have HB_W2 := Lib.hid (show Below w.heap.size w W2 by rw [← hW]; (repeat' (first | with_reducible exact Below.refl _ _ | with_reducible exact HB.out | (with_reducible refine Below.alloc ?_ ?_ _; rotate_left; (focus (first | omega | (simp; done) | (simp; omega)))) | with_reducible apply Below.drew | (with_reducible refine Below.setCell ?_ ?_ _; rotate_left; (focus (first | omega | (simp; done) | (simp; omega)))))))
  clear hW HK_W2
  clear hl_R f_R HX_R k_R_0 k_R_1 k_R_2 hl_B f_B HX_B k_B_0 k_B_1 k_B_2 HB1 HB2 HM1 HM2 HA1 HA2 HD1 HD2 HE1 HE2 HF1 HF2 HB hN hs0
  have hN := hN_W2
  have HB := HB_W2
  have hs0 := hs0_W2
  have hl_R := hl_R_W2
  have f_R := f_R_W2
  have HX_R := HX_R_W2
  have k_R_0 := k_R_0_W2
  have k_R_1 := k_R_1_W2
  have k_R_2 := k_R_2_W2
  have hl_B := hl_B_W2
  have f_B := f_B_W2
  have HX_B := HX_B_W2
  have k_B_0 := k_B_0_W2
  have k_B_1 := k_B_1_W2
  have k_B_2 := k_B_2_W2
  have hl_S := hl_S_W2
  have f_S := f_S_W2
  have HX_S := HX_S_W2
  have k_S_0 := k_S_0_W2
  have k_S_1 := k_S_1_W2
  have k_S_2 := k_S_2_W2
  have HB1 := HB1_W2
  have HB2 := HB2_W2
  have HM1 := HM1_W2
  have HM2 := HM2_W2
  have HA1 := HA1_W2
  have HA2 := HA2_W2
  have HD1 := HD1_W2
  have HD2 := HD2_W2
  have HE1 := HE1_W2
  have HE2 := HE2_W2
  have HF1 := HF1_W2
  have HF2 := HF2_W2
  clear hN_W2 HB_W2 hs0_W2 hl_R_W2 f_R_W2 HX_R_W2 k_R_0_W2 k_R_1_W2 k_R_2_W2 hl_B_W2 f_B_W2 HX_B_W2 k_B_0_W2 k_B_1_W2 k_B_2_W2 hl_S_W2 f_S_W2 HX_S_W2 k_S_0_W2 k_S_1_W2 k_S_2_W2 HB1_W2 HB2_W2 HM1_W2 HM2_W2 HA1_W2 HA2_W2 HD1_W2 HD2_W2 HE1_W2 HE2_W2 HF1_W2 HF2_W2
  go_region_held3 (fun w' => w'.cell? ⟨wa.heap.size, 0, none⟩ = some (.bool (decide ((pC).num < 0))) ∧ w'.cell? ⟨wa.heap.size, 1, none⟩ = some (.slice rb (nlen (pC).num.natAbs) cb) ∧ w'.cell? ⟨wa.heap.size, 2, none⟩ = some (.slice rb2 (nlen (pC).den) cb2) ∧ w'.cell? ⟨wf.heap.size, 0, none⟩ = some (.bool (decide ((pQ).num < 0))) ∧ w'.cell? ⟨wf.heap.size, 1, none⟩ = some (.slice rf (nlen (pQ).num.natAbs) cf) ∧ w'.cell? ⟨wf.heap.size, 2, none⟩ = some (.slice rf2 (nlen (pQ).den) cf2))
    (first | (go_keep; done) | ((try dsimp only); (repeat' apply And.intro) <;> (first | (go_keep; done) | (exact cell_keep_alloc_drew (by first | omega | (simp; omega)) (by first | assumption | go_simp)) | (exact cell_keep_alloc (by first | omega | (simp; omega)) (by first | assumption | go_simp)) | (rw [cell_set2 _ _ _ _ _ _ _ _ (by omega)]; assumption) | (rw [cell_set3 _ _ _ _ _ _ _ _ _ _ (by omega)]; assumption))))
    (first
      | (go_at_call 12; refine (rsign_any (N := N) _ _ _ _ _ _ _ 7 pC _ (by exact hN) (by exact Rt.of_norm HB1.out HB2.out 7 ZC.out)).mono ?_; rw [HSG.out]; rintro e wg ⟨rfl, hb⟩; replace hb : Below W2.heap.size W2 wg := (by first | exact hb | exact bel_of_drew hb); have hN_wg : N ≤ wg.heap.size := Nat.le_trans hN hb.size; have hs_wg : W2.heap.size ≤ wg.heap.size := hb.size; have hs0_wg : w.heap.size ≤ wg.heap.size := Nat.le_trans hs0 hb.size; have hl_R_wg : w.heap.size < wg.heap.size := Nat.lt_of_lt_of_le hl_R hb.size; have k_R_0_wg : wg.cell? ⟨w.heap.size, 0, none⟩ = some (.bool false) := (hb.cell (p := ⟨w.heap.size, 0, none⟩) hl_R).trans k_R_0; have k_R_1_wg : wg.cell? ⟨w.heap.size, 1, none⟩ = some (.slice none 0 0) := (hb.cell (p := ⟨w.heap.size, 1, none⟩) hl_R).trans k_R_1; have k_R_2_wg : wg.cell? ⟨w.heap.size, 2, none⟩ = some (.slice none 0 0) := (hb.cell (p := ⟨w.heap.size, 2, none⟩) hl_R).trans k_R_2; have f_R_wg : ∀ o, wg.frozen? ⟨w.heap.size, o, none⟩ = false := fun o => (hb.frozen (p := ⟨w.heap.size, o, none⟩) hl_R).trans (f_R o); have HX_R_wg := Lib.hid (HX_R.out.below hb); have hl_B_wg : wa.heap.size < wg.heap.size := Nat.lt_of_lt_of_le hl_B hb.size; have k_B_0_wg : wg.cell? ⟨wa.heap.size, 0, none⟩ = some (.bool (decide ((pC).num < 0))) := (hb.cell (p := ⟨wa.heap.size, 0, none⟩) hl_B).trans k_B_0; have k_B_1_wg : wg.cell? ⟨wa.heap.size, 1, none⟩ = some (.slice rb (nlen (pC).num.natAbs) cb) := (hb.cell (p := ⟨wa.heap.size, 1, none⟩) hl_B).trans k_B_1; have k_B_2_wg : wg.cell? ⟨wa.heap.size, 2, none⟩ = some (.slice rb2 (nlen (pC).den) cb2) := (hb.cell (p := ⟨wa.heap.size, 2, none⟩) hl_B).trans k_B_2; have f_B_wg : ∀ o, wg.frozen? ⟨wa.heap.size, o, none⟩ = false := fun o => (hb.frozen (p := ⟨wa.heap.size, o, none⟩) hl_B).trans (f_B o); have HX_B_wg := Lib.hid (HX_B.out.below hb); have hl_S_wg : wf.heap.size < wg.heap.size := Nat.lt_of_lt_of_le hl_S hb.size; have k_S_0_wg : wg.cell? ⟨wf.heap.size, 0, none⟩ = some (.bool (decide ((pQ).num < 0))) := (hb.cell (p := ⟨wf.heap.size, 0, none⟩) hl_S).trans k_S_0; have k_S_1_wg : wg.cell? ⟨wf.heap.size, 1, none⟩ = some (.slice rf (nlen (pQ).num.natAbs) cf) := (hb.cell (p := ⟨wf.heap.size, 1, none⟩) hl_S).trans k_S_1; have k_S_2_wg : wg.cell? ⟨wf.heap.size, 2, none⟩ = some (.slice rf2 (nlen (pQ).den) cf2) := (hb.cell (p := ⟨wf.heap.size, 2, none⟩) hl_S).trans k_S_2; have f_S_wg : ∀ o, wg.frozen? ⟨wf.heap.size, o, none⟩ = false := fun o => (hb.frozen (p := ⟨wf.heap.size, o, none⟩) hl_S).trans (f_S o); have HX_S_wg := Lib.hid (HX_S.out.below hb); have HB1_wg := Lib.hid (HB1.out.below hb); have HB2_wg := Lib.hid (HB2.out.below hb); have HM1_wg := Lib.hid (HM1.out.below hb); have HM2_wg := Lib.hid (HM2.out.below hb); have HA1_wg := Lib.hid (HA1.out.below hb); have HA2_wg := Lib.hid (HA2.out.below hb); have HD1_wg := Lib.hid (HD1.out.below hb); have HD2_wg := Lib.hid (HD2.out.below hb); have HE1_wg := Lib.hid (HE1.out.below hb); have HE2_wg := Lib.hid (HE2.out.below hb); have HF1_wg := Lib.hid (HF1.out.below hb); have HF2_wg := Lib.hid (HF2.out.below hb); have HB_wg := Lib.hid (HB.out.trans (hb.mono hs0)); clear hb; clear hl_R f_R HX_R k_R_0 k_R_1 k_R_2 hl_B f_B HX_B k_B_0 k_B_1 k_B_2 hl_S f_S HX_S k_S_0 k_S_1 k_S_2 HB1 HB2 HM1 HM2 HA1 HA2 HD1 HD2 HE1 HE2 HF1 HF2 HB hN hs0; have hN := hN_wg; have HB := HB_wg; have hs0 := hs0_wg; have hl_R := hl_R_wg; have f_R := f_R_wg; have HX_R := HX_R_wg; have k_R_0 := k_R_0_wg; have k_R_1 := k_R_1_wg; have k_R_2 := k_R_2_wg; have hl_B := hl_B_wg; have f_B := f_B_wg; have HX_B := HX_B_wg; have k_B_0 := k_B_0_wg; have k_B_1 := k_B_1_wg; have k_B_2 := k_B_2_wg; have hl_S := hl_S_wg; have f_S := f_S_wg; have HX_S := HX_S_wg; have k_S_0 := k_S_0_wg; have k_S_1 := k_S_1_wg; have k_S_2 := k_S_2_wg; have HB1 := HB1_wg; have HB2 := HB2_wg; have HM1 := HM1_wg; have HM2 := HM2_wg; have HA1 := HA1_wg; have HA2 := HA2_wg; have HD1 := HD1_wg; have HD2 := HD2_wg; have HE1 := HE1_wg; have HE2 := HE2_wg; have HF1 := HF1_wg; have HF2 := HF2_wg; clear hN_wg HB_wg hs0_wg hl_R_wg f_R_wg HX_R_wg k_R_0_wg k_R_1_wg k_R_2_wg hl_B_wg f_B_wg HX_B_wg k_B_0_wg k_B_1_wg k_B_2_wg hl_S_wg f_S_wg HX_S_wg k_S_0_wg k_S_1_wg k_S_2_wg HB1_wg HB2_wg HM1_wg HM2_wg HA1_wg HA2_wg HD1_wg HD2_wg HE1_wg HE2_wg HF1_wg HF2_wg; skip))
  go_wp2_with fail
  refine bodyPost_ret (v := .tuple #[.int .i64 sg, .agg #[.bool (decide ((pQ).num < 0)), .slice rf (nlen (pQ).num.natAbs) cf, .slice rf2 (nlen (pQ).den) cf2], .int .i64 0]) (by simp [results, Tryd.results18, go_sem, k_R_0, k_R_1, k_R_2]) rfl ⟨_, _, _, _, rfl, HF1.out.keep ?_, HF2.out.keep ?_, ?_⟩
  all_goals first | ((repeat' (first | with_reducible exact Kp.refl _ _ | with_reducible exact HX_R.out | with_reducible exact HX_B.out | with_reducible exact HX_S.out | with_reducible apply Kp.alloc | with_reducible apply Kp.drew | (with_reducible refine Kp.put ?_ ?_ ?_ _; rotate_left; (focus (first | omega | (simp; done) | (simp; omega))); rotate_left) | (with_reducible refine Bn.new _ _ _ _ ?_ ?_; (focus (first | omega | (simp; done) | (simp; omega))); decide) | with_reducible apply Bn.alloc | with_reducible apply Bn.drew | with_reducible apply Bn.set)); done) | ((repeat' (first | with_reducible exact Below.refl _ _ | with_reducible exact HB.out | (with_reducible refine Below.alloc ?_ ?_ _; rotate_left; (focus (first | omega | (simp; done) | (simp; omega)))) | with_reducible apply Below.drew | (with_reducible refine Below.setCell ?_ ?_ _; rotate_left; (focus (first | omega | (simp; done) | (simp; omega)))))); done)

end Go.Proofs.YtbjgnpgachdlaaaDoor
