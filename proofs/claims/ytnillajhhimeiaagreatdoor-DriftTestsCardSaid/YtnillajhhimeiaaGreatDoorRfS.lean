import Derived.Test.YtnillajhhimeiaaGreatDoorRfA
namespace Go.Proofs.YtnillajhhimeiaaGreatDoor
open Go.RowKit
def RnPost (N : Nat) (w : World) (n : Nat) (q : Nat → Rat) (e : Ending) (w' : World) : Prop :=
  ∃ a cap,e = .returned (.tuple #[.slice a n cap,.int .i64 0]) ∧ Rn N w' a n cap q ∧ Below w.heap.size w w'
def ShareJ (σ : Int) (s : Bool) (a d : Option Addr) (na ca nd cd : Nat) (W : World) (z0 : Act) (L : Nat → Bool) (z1 : Act) (w : World) : Prop :=
  ∃ u3 u4 u5 u6 u7 u8 u9 u10 u11 u2,z1 = ((((((((((z0.put (some 3) u3).put (some 4) u4).put (some 5) u5).put (some 6) u6).put (some 7) u7).put (some 8) u8).put (some 9) u9).put (some 10) u10).put (some 11) u11).put (some 2) u2) ∧ Since W w ∧ (L 0 = true → u3 = .agg #[.bool s,.slice a na ca,.slice d nd cd]) ∧ (L 1 = true → u4 = .int .i64 σ) ∧ (L 2 = true → u5 = .bool false) ∧ (L 3 = true → u6 = .bool false) ∧ (L 8 = true → u11 = .bool false) ∧ (L 9 = true → u2 = .bool false)
set_option maxHeartbeats 4000000 in
theorem Share_any {N : Nat} (s : Bool) (a d : Option Addr) (na ca nd cd L : Nat) (q : Rat) (w : World) (hN : N ≤ w.heap.size) (h : Rt N w s a na ca d nd cd q L) (hL : L ≤ 68719476736) (b : Bool) (hb : prb q = b) :
    Calls Tryz.prog 61 #[.agg #[.bool s,.slice a na ca,.slice d nd cd]] w fun e w' => e = .returned (.bool b) ∧ Below w.heap.size w w' := by
  obtain ⟨p,hp⟩ : ∃ p : Rat,((1 : Nat) : Rat) = p := ⟨_,rfl⟩
  have hp1 := natQ_one p hp
  have HP := Lib.hid hp
  have HZ := Lib.hid (rsz_nat 1 (by decide) p hp)
  obtain ⟨σ,hσ⟩ : ∃ σ,q.num.sign = σ := ⟨_,rfl⟩
  have HSG := Lib.hid hσ
  obtain ⟨κ,hκ⟩ : ∃ κ,cmpQ q p = κ := ⟨_,rfl⟩
  have HK := Lib.hid hκ
  by_cases h0 : q < 0
  · obtain rfl : false = b := by rw [← hb];unfold prb;rw [decide_eq_false];grind
    have d0 : decide (0 ≤ σ) = false := by rw [← hσ];exact sgn_lt q h0
    clear hb h0 hσ hp hp1 hκ HK
    have hN0 := hN
    have HR := Lib.hid h
    clear h
    have HB := Lib.hid (Below.refl w.heap.size w)
    go_enter Tryz.func61,Tryz.ntmps61
    go_wp2_with fail
    refine region_name fun W0 hW => ?_
    have hs_W0 : w.heap.size ≤ W0.heap.size := by rw [← hW];(first | omega | (simp;done) | (simp;omega))
    have HK_W0 := Lib.hid (show Kp N w W0 by rw [← hW];exact KpA)
    have k_P_0 : W0.cell? ⟨w.heap.size,0,none⟩ = some (.bool s) := by rw [← hW];(first | (go_simp;done) | (simp;done) | (simp [go_sem];done) | (simp [go_sem];done))
    have k_P_1 : W0.cell? ⟨w.heap.size,1,none⟩ = some (.slice a na ca) := by rw [← hW];(first | (go_simp;done) | (simp;done) | (simp [go_sem];done) | (simp [go_sem];done))
    have k_P_2 : W0.cell? ⟨w.heap.size,2,none⟩ = some (.slice d nd cd) := by rw [← hW];(first | (go_simp;done) | (simp;done) | (simp [go_sem];done) | (simp [go_sem];done))
    have f_P : ∀ o,W0.frozen? ⟨w.heap.size,o,none⟩ = false := by intro o;rw [← hW];(first | (go_simp;done) | (simp;done) | (simp [go_sem];done) | (simp [go_sem];done))
    have HX_P := Lib.hid (show Bn W0 (w.heap.size) by rw [← hW];exact KpA)
    replace HR := Lib.hid (HR.out.keep HK_W0.out)
    replace HB := Lib.hid (show Below w.heap.size w W0 by rw [← hW];exact BlA)
    replace hN : N ≤ W0.heap.size := by rw [← hW];(first | omega | (simp;done) | (simp;omega))
    have hs0 : w.heap.size ≤ W0.heap.size := by rw [← hW];(first | omega | (simp;done) | (simp;omega))
    have hl_P : w.heap.size < W0.heap.size := by rw [← hW];(first | omega | (simp;done) | (simp;omega))
    clear hW HK_W0
    refine region_inv2 (by kernel_rfl) (ShareJ σ s a d na ca nd cd (W0)) ?_ ?_ ?_ ?_
    · exact ⟨undef,undef,undef,undef,undef,undef,undef,undef,undef,.bool false,by simp only [Act.put,List.setIfInBounds_toArray,List.set_cons_zero,List.set_cons_succ],Since.drawn _,(fun h => by cases h),(fun h => by cases h),(fun h => by cases h),(fun h => by cases h),(fun h => by cases h),(fun h => by cases h)⟩
    · exact acyc_spec (by kernel_rfl)
    · intro Ls a0 wq i o ho hLi hafter hJ
      obtain ⟨u3,u4,u5,u6,u7,u8,u9,u10,u11,u2,rfl,hS,p0,p1,p2,p3,p8,p9⟩ := hJ
      have hi : i < 10 := (Array.getElem?_eq_some_iff.1 ho).1
      obtain rfl | rfl | rfl | rfl | rfl | rfl | rfl | rfl | rfl | rfl : i = 0 ∨ i = 1 ∨ i = 2 ∨ i = 3 ∨ i = 4 ∨ i = 5 ∨ i = 6 ∨ i = 7 ∨ i = 8 ∨ i = 9 := by omega
      · simp only [List.getElem?_toArray,List.getElem?_cons_zero,Option.some.injEq] at ho
        subst ho
        have c0 := (hS.1.cell (p := ⟨w.heap.size,0,none⟩) hl_P).trans k_P_0
        have c1 := (hS.1.cell (p := ⟨w.heap.size,1,none⟩) hl_P).trans k_P_1
        have c2 := (hS.1.cell (p := ⟨w.heap.size,2,none⟩) hl_P).trans k_P_2
        have P0 := Lib.hid p0
        have P1 := Lib.hid p1
        have P2 := Lib.hid p2
        have P3 := Lib.hid p3
        have P8 := Lib.hid p8
        have P9 := Lib.hid p9
        have HS := Lib.hid hS
        clear hS hLi hafter p0 p1 p2 p3 p8 p9
        simp only [Act.put,List.setIfInBounds_toArray,List.set_cons_zero,List.set_cons_succ]
        go_wp2_with fail
        exact ⟨.agg #[.bool s,.slice a na ca,.slice d nd cd],u4,u5,u6,u7,u8,u9,u10,u11,u2,by simp only [Act.put,List.setIfInBounds_toArray,List.set_cons_zero,List.set_cons_succ],HS.out,(fun _ => rfl),(fun h => by first | rfl | exact P1.out (by simpa using h)),(fun h => by first | rfl | exact P2.out (by simpa using h)),(fun h => by first | rfl | exact P3.out (by simpa using h)),(fun h => by first | rfl | exact P8.out (by simpa using h)),(fun h => by first | rfl | exact P9.out (by simpa using h))⟩
      · simp only [List.getElem?_toArray,List.getElem?_cons_zero,List.getElem?_cons_succ,Option.some.injEq] at ho
        subst ho
        obtain rfl := p0 (hafter ⟨0,.data⟩ (by simp) rfl)
        have P0 := Lib.hid p0
        have P1 := Lib.hid p1
        have P2 := Lib.hid p2
        have P3 := Lib.hid p3
        have P8 := Lib.hid p8
        have P9 := Lib.hid p9
        have HS := Lib.hid hS
        clear hS hLi hafter p0 p1 p2 p3 p8 p9
        simp only [Act.put,List.setIfInBounds_toArray,List.set_cons_zero,List.set_cons_succ]
        go_wp2_with fail
        refine (xrsign_any (N := N) _ _ _ _ _ _ _ L q _ (by have := HS.out.2;omega) (HR.out.below HS.out.1) (by omega)).mono ?_
        rw [HSG.out]
        rintro e wn ⟨rfl,hb⟩
        have Hb := Lib.hid hb
        clear hb
        go_wp2_with fail
        exact ⟨.agg #[.bool s,.slice a na ca,.slice d nd cd],.int .i64 σ,u5,u6,u7,u8,u9,u10,u11,u2,by simp only [Act.put,List.setIfInBounds_toArray,List.set_cons_zero,List.set_cons_succ],HS.out.below Hb.out,(fun h => by first | rfl | exact P0.out (by simpa using h)),(fun _ => rfl),(fun h => by first | rfl | exact P2.out (by simpa using h)),(fun h => by first | rfl | exact P3.out (by simpa using h)),(fun h => by first | rfl | exact P8.out (by simpa using h)),(fun h => by first | rfl | exact P9.out (by simpa using h))⟩
      · simp only [List.getElem?_toArray,List.getElem?_cons_zero,List.getElem?_cons_succ,Option.some.injEq] at ho
        subst ho
        obtain rfl := p1 (hafter ⟨1,.data⟩ (by simp) rfl)
        have P0 := Lib.hid p0
        have P1 := Lib.hid p1
        have P2 := Lib.hid p2
        have P3 := Lib.hid p3
        have P8 := Lib.hid p8
        have P9 := Lib.hid p9
        have HS := Lib.hid hS
        clear hS hLi hafter p0 p1 p2 p3 p8 p9
        simp only [Act.put,List.setIfInBounds_toArray,List.set_cons_zero,List.set_cons_succ]
        go_wp2_with fail
        exact ⟨u3,.int .i64 σ,.bool false,u6,u7,u8,u9,u10,u11,u2,by simp only [Act.put,List.setIfInBounds_toArray,List.set_cons_zero,List.set_cons_succ],HS.out,(fun h => by first | rfl | exact P0.out (by simpa using h)),(fun h => by first | rfl | exact P1.out (by simpa using h)),(fun _ => rfl),(fun h => by first | rfl | exact P3.out (by simpa using h)),(fun h => by first | rfl | exact P8.out (by simpa using h)),(fun h => by first | rfl | exact P9.out (by simpa using h))⟩
      · simp only [List.getElem?_toArray,List.getElem?_cons_zero,List.getElem?_cons_succ,Option.some.injEq] at ho
        subst ho
        obtain rfl := p2 (hafter ⟨2,.data⟩ (by simp) rfl)
        have P0 := Lib.hid p0
        have P1 := Lib.hid p1
        have P2 := Lib.hid p2
        have P3 := Lib.hid p3
        have P8 := Lib.hid p8
        have P9 := Lib.hid p9
        have HS := Lib.hid hS
        clear hS hLi hafter p0 p1 p2 p3 p8 p9
        simp only [Act.put,List.setIfInBounds_toArray,List.set_cons_zero,List.set_cons_succ]
        go_wp2_with fail
        exact ⟨u3,u4,.bool false,.bool false,u7,u8,u9,u10,u11,u2,by simp only [Act.put,List.setIfInBounds_toArray,List.set_cons_zero,List.set_cons_succ],HS.out,(fun h => by first | rfl | exact P0.out (by simpa using h)),(fun h => by first | rfl | exact P1.out (by simpa using h)),(fun h => by first | rfl | exact P2.out (by simpa using h)),(fun _ => rfl),(fun h => by first | rfl | exact P8.out (by simpa using h)),(fun h => by first | rfl | exact P9.out (by simpa using h))⟩
      · simp only [List.getElem?_toArray,List.getElem?_cons_zero,List.getElem?_cons_succ,Option.some.injEq] at ho
        subst ho
        obtain rfl := p3 (hafter ⟨3,.guard⟩ (by simp) rfl)
        have P0 := Lib.hid p0
        have P1 := Lib.hid p1
        have P2 := Lib.hid p2
        have P3 := Lib.hid p3
        have P8 := Lib.hid p8
        have P9 := Lib.hid p9
        have HS := Lib.hid hS
        clear hS hLi hafter p0 p1 p2 p3 p8 p9
        simp only [Act.put,List.setIfInBounds_toArray,List.set_cons_zero,List.set_cons_succ]
        go_wp2_with fail
        exact ⟨u3,u4,u5,.bool false,undef,u8,u9,u10,u11,u2,by simp only [Act.put,List.setIfInBounds_toArray,List.set_cons_zero,List.set_cons_succ],HS.out,(fun h => by first | rfl | exact P0.out (by simpa using h)),(fun h => by first | rfl | exact P1.out (by simpa using h)),(fun h => by first | rfl | exact P2.out (by simpa using h)),(fun h => by first | rfl | exact P3.out (by simpa using h)),(fun h => by first | rfl | exact P8.out (by simpa using h)),(fun h => by first | rfl | exact P9.out (by simpa using h))⟩
      · simp only [List.getElem?_toArray,List.getElem?_cons_zero,List.getElem?_cons_succ,Option.some.injEq] at ho
        subst ho
        obtain rfl := p3 (hafter ⟨3,.guard⟩ (by simp) rfl)
        have P0 := Lib.hid p0
        have P1 := Lib.hid p1
        have P2 := Lib.hid p2
        have P3 := Lib.hid p3
        have P8 := Lib.hid p8
        have P9 := Lib.hid p9
        have HS := Lib.hid hS
        clear hS hLi hafter p0 p1 p2 p3 p8 p9
        simp only [Act.put,List.setIfInBounds_toArray,List.set_cons_zero,List.set_cons_succ]
        go_wp2_with fail
        exact ⟨u3,u4,u5,.bool false,u7,undef,u9,u10,u11,u2,by simp only [Act.put,List.setIfInBounds_toArray,List.set_cons_zero,List.set_cons_succ],HS.out,(fun h => by first | rfl | exact P0.out (by simpa using h)),(fun h => by first | rfl | exact P1.out (by simpa using h)),(fun h => by first | rfl | exact P2.out (by simpa using h)),(fun h => by first | rfl | exact P3.out (by simpa using h)),(fun h => by first | rfl | exact P8.out (by simpa using h)),(fun h => by first | rfl | exact P9.out (by simpa using h))⟩
      · simp only [List.getElem?_toArray,List.getElem?_cons_zero,List.getElem?_cons_succ,Option.some.injEq] at ho
        subst ho
        obtain rfl := p3 (hafter ⟨3,.guard⟩ (by simp) rfl)
        have P0 := Lib.hid p0
        have P1 := Lib.hid p1
        have P2 := Lib.hid p2
        have P3 := Lib.hid p3
        have P8 := Lib.hid p8
        have P9 := Lib.hid p9
        have HS := Lib.hid hS
        clear hS hLi hafter p0 p1 p2 p3 p8 p9
        simp only [Act.put,List.setIfInBounds_toArray,List.set_cons_zero,List.set_cons_succ]
        go_wp2_with fail
        exact ⟨u3,u4,u5,.bool false,u7,u8,undef,u10,u11,u2,by simp only [Act.put,List.setIfInBounds_toArray,List.set_cons_zero,List.set_cons_succ],HS.out,(fun h => by first | rfl | exact P0.out (by simpa using h)),(fun h => by first | rfl | exact P1.out (by simpa using h)),(fun h => by first | rfl | exact P2.out (by simpa using h)),(fun h => by first | rfl | exact P3.out (by simpa using h)),(fun h => by first | rfl | exact P8.out (by simpa using h)),(fun h => by first | rfl | exact P9.out (by simpa using h))⟩
      · simp only [List.getElem?_toArray,List.getElem?_cons_zero,List.getElem?_cons_succ,Option.some.injEq] at ho
        subst ho
        obtain rfl := p3 (hafter ⟨3,.guard⟩ (by simp) rfl)
        have P0 := Lib.hid p0
        have P1 := Lib.hid p1
        have P2 := Lib.hid p2
        have P3 := Lib.hid p3
        have P8 := Lib.hid p8
        have P9 := Lib.hid p9
        have HS := Lib.hid hS
        clear hS hLi hafter p0 p1 p2 p3 p8 p9
        simp only [Act.put,List.setIfInBounds_toArray,List.set_cons_zero,List.set_cons_succ]
        go_wp2_with fail
        exact ⟨u3,u4,u5,.bool false,u7,u8,u9,undef,u11,u2,by simp only [Act.put,List.setIfInBounds_toArray,List.set_cons_zero,List.set_cons_succ],HS.out,(fun h => by first | rfl | exact P0.out (by simpa using h)),(fun h => by first | rfl | exact P1.out (by simpa using h)),(fun h => by first | rfl | exact P2.out (by simpa using h)),(fun h => by first | rfl | exact P3.out (by simpa using h)),(fun h => by first | rfl | exact P8.out (by simpa using h)),(fun h => by first | rfl | exact P9.out (by simpa using h))⟩
      · simp only [List.getElem?_toArray,List.getElem?_cons_zero,List.getElem?_cons_succ,Option.some.injEq] at ho
        subst ho
        obtain rfl := p3 (hafter ⟨3,.data⟩ (by simp) rfl)
        have P0 := Lib.hid p0
        have P1 := Lib.hid p1
        have P2 := Lib.hid p2
        have P3 := Lib.hid p3
        have P8 := Lib.hid p8
        have P9 := Lib.hid p9
        have HS := Lib.hid hS
        clear hS hLi hafter p0 p1 p2 p3 p8 p9
        simp only [Act.put,List.setIfInBounds_toArray,List.set_cons_zero,List.set_cons_succ]
        go_wp2_with fail
        exact ⟨u3,u4,u5,.bool false,u7,u8,u9,u10,.bool false,u2,by simp only [Act.put,List.setIfInBounds_toArray,List.set_cons_zero,List.set_cons_succ],HS.out,(fun h => by first | rfl | exact P0.out (by simpa using h)),(fun h => by first | rfl | exact P1.out (by simpa using h)),(fun h => by first | rfl | exact P2.out (by simpa using h)),(fun h => by first | rfl | exact P3.out (by simpa using h)),(fun _ => rfl),(fun h => by first | rfl | exact P9.out (by simpa using h))⟩
      · simp only [List.getElem?_toArray,List.getElem?_cons_zero,List.getElem?_cons_succ,Option.some.injEq] at ho
        subst ho
        obtain rfl := p8 (hafter ⟨8,.data⟩ (by simp) rfl)
        have P0 := Lib.hid p0
        have P1 := Lib.hid p1
        have P2 := Lib.hid p2
        have P3 := Lib.hid p3
        have P8 := Lib.hid p8
        have P9 := Lib.hid p9
        have HS := Lib.hid hS
        clear hS hLi hafter p0 p1 p2 p3 p8 p9
        simp only [Act.put,List.setIfInBounds_toArray,List.set_cons_zero,List.set_cons_succ]
        go_wp2_with fail
        exact ⟨u3,u4,u5,u6,u7,u8,u9,u10,.bool false,.bool false,by simp only [Act.put,List.setIfInBounds_toArray,List.set_cons_zero,List.set_cons_succ],HS.out,(fun h => by first | rfl | exact P0.out (by simpa using h)),(fun h => by first | rfl | exact P1.out (by simpa using h)),(fun h => by first | rfl | exact P2.out (by simpa using h)),(fun h => by first | rfl | exact P3.out (by simpa using h)),(fun h => by first | rfl | exact P8.out (by simpa using h)),(fun _ => rfl)⟩
    · intro Ls a0 wq hall hJ
      obtain ⟨u3,u4,u5,u6,u7,u8,u9,u10,u11,u2,rfl,hS,p0,p1,p2,p3,p8,p9⟩ := hJ
      replace p0 := p0 (hall 0 (by decide))
      replace p1 := p1 (hall 1 (by decide))
      replace p2 := p2 (hall 2 (by decide))
      replace p3 := p3 (hall 3 (by decide))
      replace p8 := p8 (hall 8 (by decide))
      replace p9 := p9 (hall 9 (by decide))
      subst p9
      have HS := Lib.hid hS
      clear hS p0 p1 p2 p3 p8
      simp only [Act.put,List.setIfInBounds_toArray,List.set_cons_zero,List.set_cons_succ]
      go_wp2_with fail
      go_ret
      exact ⟨rfl,HB.out.trans (HS.out.1.mono hs0)⟩
  · have h1 : 0 ≤ q := by grind
    have d0 : decide (0 ≤ σ) = true := by rw [← hσ];exact sgn_ge q h1
    have d1 : decide (κ ≤ 0) = b := by
      rw [← hκ,hp1,cmp_le,← hb];unfold prb
      by_cases h2 : q ≤ 1
      · rw [decide_eq_true h2,decide_eq_true ⟨h1,h2⟩]
      · rw [decide_eq_false h2,decide_eq_false (fun h => h2 h.2)]
    clear hb h0 h1 hσ hp hp1 hκ
    have hN0 := hN
    have HR := Lib.hid h
    clear h
    have HB := Lib.hid (Below.refl w.heap.size w)
    go_enter Tryz.func61,Tryz.ntmps61
    go_wp2_with fail
    refine region_name fun W0 hW => ?_
    have hs_W0 : w.heap.size ≤ W0.heap.size := by rw [← hW];(first | omega | (simp;done) | (simp;omega))
    have HK_W0 := Lib.hid (show Kp N w W0 by rw [← hW];exact KpA)
    have k_P_0 : W0.cell? ⟨w.heap.size,0,none⟩ = some (.bool s) := by rw [← hW];(first | (go_simp;done) | (simp;done) | (simp [go_sem];done) | (simp [go_sem];done))
    have k_P_1 : W0.cell? ⟨w.heap.size,1,none⟩ = some (.slice a na ca) := by rw [← hW];(first | (go_simp;done) | (simp;done) | (simp [go_sem];done) | (simp [go_sem];done))
    have k_P_2 : W0.cell? ⟨w.heap.size,2,none⟩ = some (.slice d nd cd) := by rw [← hW];(first | (go_simp;done) | (simp;done) | (simp [go_sem];done) | (simp [go_sem];done))
    have f_P : ∀ o,W0.frozen? ⟨w.heap.size,o,none⟩ = false := by intro o;rw [← hW];(first | (go_simp;done) | (simp;done) | (simp [go_sem];done) | (simp [go_sem];done))
    have HX_P := Lib.hid (show Bn W0 (w.heap.size) by rw [← hW];exact KpA)
    replace HR := Lib.hid (HR.out.keep HK_W0.out)
    replace HB := Lib.hid (show Below w.heap.size w W0 by rw [← hW];exact BlA)
    replace hN : N ≤ W0.heap.size := by rw [← hW];(first | omega | (simp;done) | (simp;omega))
    have hs0 : w.heap.size ≤ W0.heap.size := by rw [← hW];(first | omega | (simp;done) | (simp;omega))
    have hl_P : w.heap.size < W0.heap.size := by rw [← hW];(first | omega | (simp;done) | (simp;omega))
    clear hW HK_W0
    go_region_held3 (fun w' => w'.cell? ⟨w.heap.size,0,none⟩ = some (.bool s) ∧ w'.cell? ⟨w.heap.size,1,none⟩ = some (.slice a na ca) ∧ w'.cell? ⟨w.heap.size,2,none⟩ = some (.slice d nd cd))
      (first | (go_keep;done) | ((try dsimp only);(repeat' apply And.intro) <;> (first | (go_keep;done) | (exact cell_keep_alloc_drew (by first | omega | (simp;omega)) (by first | assumption | go_simp)) | (exact cell_keep_alloc (by first | omega | (simp;omega)) (by first | assumption | go_simp)) | (rw [cell_set2 _ _ _ _ _ _ _ _ (by omega)];assumption) | (rw [cell_set3 _ _ _ _ _ _ _ _ _ _ (by omega)];assumption))))
      (first
        | (go_at_call 89;refine (xrsign_any (N := N) _ _ _ _ _ _ _ L q _ (by exact hN) (by exact HR.out) (by omega)).mono ?_;rw [HSG.out];rintro e wa ⟨rfl,hb⟩;replace hb : Below W0.heap.size W0 wa := (by first | exact hb | exact bel_of_drew hb);have hs_wa : W0.heap.size ≤ wa.heap.size := hb.size;replace k_P_0 : wa.cell? ⟨w.heap.size,0,none⟩ = some (.bool s) := (hb.cell (p := ⟨w.heap.size,0,none⟩) hl_P).trans k_P_0;replace k_P_1 : wa.cell? ⟨w.heap.size,1,none⟩ = some (.slice a na ca) := (hb.cell (p := ⟨w.heap.size,1,none⟩) hl_P).trans k_P_1;replace k_P_2 : wa.cell? ⟨w.heap.size,2,none⟩ = some (.slice d nd cd) := (hb.cell (p := ⟨w.heap.size,2,none⟩) hl_P).trans k_P_2;replace f_P : ∀ o,wa.frozen? ⟨w.heap.size,o,none⟩ = false := fun o => (hb.frozen (p := ⟨w.heap.size,o,none⟩) hl_P).trans (f_P o);replace HX_P := Lib.hid (HX_P.out.below hb);replace HR := Lib.hid (HR.out.below hb);replace HB := Lib.hid (HB.out.trans (hb.mono hs0));replace hN : N ≤ wa.heap.size := Nat.le_trans hN hb.size;replace hs0 : w.heap.size ≤ wa.heap.size := Nat.le_trans hs0 hb.size;replace hl_P : w.heap.size < wa.heap.size := Nat.lt_of_lt_of_le hl_P hb.size;clear hb;skip)
        | (go_at_call 54;refine (Whole_z (N := N) 1 1 rfl _ (by exact hN) (by omega) p HP.out).mono ?_;rintro e wb ⟨rx,cx,rx2,cx2,rfl,hn,hn',hb⟩;replace hb : Below wa.heap.size wa wb := (by first | exact hb | exact bel_of_drew hb);have hs_wb : wa.heap.size ≤ wb.heap.size := hb.size;replace k_P_0 : wb.cell? ⟨w.heap.size,0,none⟩ = some (.bool s) := (hb.cell (p := ⟨w.heap.size,0,none⟩) hl_P).trans k_P_0;replace k_P_1 : wb.cell? ⟨w.heap.size,1,none⟩ = some (.slice a na ca) := (hb.cell (p := ⟨w.heap.size,1,none⟩) hl_P).trans k_P_1;replace k_P_2 : wb.cell? ⟨w.heap.size,2,none⟩ = some (.slice d nd cd) := (hb.cell (p := ⟨w.heap.size,2,none⟩) hl_P).trans k_P_2;replace f_P : ∀ o,wb.frozen? ⟨w.heap.size,o,none⟩ = false := fun o => (hb.frozen (p := ⟨w.heap.size,o,none⟩) hl_P).trans (f_P o);replace HX_P := Lib.hid (HX_P.out.below hb);replace HR := Lib.hid (HR.out.below hb);replace HB := Lib.hid (HB.out.trans (hb.mono hs0));replace hN : N ≤ wb.heap.size := Nat.le_trans hN hb.size;replace hs0 : w.heap.size ≤ wb.heap.size := Nat.le_trans hs0 hb.size;replace hl_P : w.heap.size < wb.heap.size := Nat.lt_of_lt_of_le hl_P hb.size;clear hb;have HX1 := Lib.hid hn;clear hn;have HX2 := Lib.hid hn';clear hn';skip)
        | (go_at_call 55;refine (xrcmp_any (N := N) _ _ _ _ _ _ _ _ _ _ _ _ _ _ L 1 q p _ (by exact hN) (by exact HR.out) (by exact Rt.of_norm HX1.out HX2.out 1 HZ.out) (by omega) (by omega)).mono ?_;rw [HK.out];rintro e wc ⟨rfl,hb⟩;replace hb : Below wb.heap.size wb wc := (by first | exact hb | exact bel_of_drew hb);have hs_wc : wb.heap.size ≤ wc.heap.size := hb.size;replace k_P_0 : wc.cell? ⟨w.heap.size,0,none⟩ = some (.bool s) := (hb.cell (p := ⟨w.heap.size,0,none⟩) hl_P).trans k_P_0;replace k_P_1 : wc.cell? ⟨w.heap.size,1,none⟩ = some (.slice a na ca) := (hb.cell (p := ⟨w.heap.size,1,none⟩) hl_P).trans k_P_1;replace k_P_2 : wc.cell? ⟨w.heap.size,2,none⟩ = some (.slice d nd cd) := (hb.cell (p := ⟨w.heap.size,2,none⟩) hl_P).trans k_P_2;replace f_P : ∀ o,wc.frozen? ⟨w.heap.size,o,none⟩ = false := fun o => (hb.frozen (p := ⟨w.heap.size,o,none⟩) hl_P).trans (f_P o);replace HX_P := Lib.hid (HX_P.out.below hb);replace HR := Lib.hid (HR.out.below hb);replace HX1 := Lib.hid (HX1.out.below hb);replace HX2 := Lib.hid (HX2.out.below hb);replace HB := Lib.hid (HB.out.trans (hb.mono hs0));replace hN : N ≤ wc.heap.size := Nat.le_trans hN hb.size;replace hs0 : w.heap.size ≤ wc.heap.size := Nat.le_trans hs0 hb.size;replace hl_P : w.heap.size < wc.heap.size := Nat.lt_of_lt_of_le hl_P hb.size;clear hb;skip))
    go_wp2_with fail
    go_ret
    exact ⟨rfl,HB.out⟩
end Go.Proofs.YtnillajhhimeiaaGreatDoor
