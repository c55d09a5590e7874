import Derived.Test.YtnillajhhimeiaaGreatDoorJoB
import Derived.Test.YtnillajhhimeiaaGreatDoorJoG
import Derived.Test.YtnillajhhimeiaaGreatDoorJoS
import Derived.Test.YtnillajhhimeiaaGreatDoorSrtD
namespace Go.Proofs.YtnillajhhimeiaaGreatDoor
open Go.RowKit
set_option maxHeartbeats 2000000 in
theorem dof_any {N : Nat} (n d : Int) (w : World) (hN : N ≤ w.heap.size) (n1 : -9223372036854775808 ≤ n) (n2 : n ≤ 9223372036854775807) (d1 : -9223372036854775808 ≤ d) (d2 : d ≤ 9223372036854775807) (p : Rat) (hp : (n : Rat) / (d : Rat) = p) :
    Calls Tryz.prog 30 #[.int .i64 n,.int .i64 d] w (RatPost N w p) := by
  have HP := Lib.hid ((mk_div n d).trans hp)
  clear hp
  go_enter Tryz.func30,Tryz.ntmps30
  go_wp2_with fail
  refine (rof_any (N := N) n d _ (by simp;omega) n1 n2 d1 d2 p HP.out).mono ?_
  rintro e wa ⟨rx,cx,rx2,cx2,rfl,hn,hn',hb⟩
  obtain ⟨hcwa,hfwa⟩ := bcell hb
  have hzwa0 : w.heap.size < wa.heap.size := by have := hb.size;(try simp at this);omega
  have HBwa := Lib.hid hb
  have HNwa := Lib.hid hn
  have HN'wa := Lib.hid hn'
  clear hb hn hn'
  have HX := Lib.hid ((Bx.new w #[.bool false,.slice none 0 0,.slice none 0 0] 29).below HBwa.out)
  have HF := Lib.hid (fun v0 v1 v2 => fin3 hN (Nat.le_refl _) HX.out HNwa.out HN'wa.out ((bel1 w _).trans (HBwa.out.mono (by first | omega | (simp;done) | (simp;omega)))) v0 v1 v2)
  go_wp2_with fail
  exact bodyPost_ret (v := .agg #[.bool (decide ((p).num < 0)),.slice rx (nlen (p).num.natAbs) cx,.slice rx2 (nlen (p).den) cx2]) (by simp [results,Tryz.results30,go_sem,hcwa,hzwa0]) rfl ⟨_,_,_,_,rfl,(HF.out _ _ _).1.alloc _,(HF.out _ _ _).2.1.alloc _,(HF.out _ _ _).2.2.trans ((bel1 _ _).mono (by simp;omega))⟩
def DshareJ (σ : Int) (s : Bool) (a d : Option Addr) (na ca nd cd : Nat) (W : World) (z0 : Act) (L : Nat → Bool) (z1 : Act) (w : World) : Prop :=
  ∃ u3 u4 u5 u6 u7 u8 u9 u10 u11 u2,z1 = ((((((((((z0.put (some 3) u3).put (some 4) u4).put (some 5) u5).put (some 6) u6).put (some 7) u7).put (some 8) u8).put (some 9) u9).put (some 10) u10).put (some 11) u11).put (some 2) u2) ∧ Since W w ∧ (L 0 = true → u3 = .agg #[.bool s,.slice a na ca,.slice d nd cd]) ∧ (L 1 = true → u4 = .int .i64 σ) ∧ (L 2 = true → u5 = .bool false) ∧ (L 3 = true → u6 = .bool false) ∧ (L 8 = true → u11 = .bool false) ∧ (L 9 = true → u2 = .bool false)
set_option maxHeartbeats 4000000 in
theorem dshare_any {N : Nat} (s : Bool) (a d : Option Addr) (na ca nd cd L : Nat) (q : Rat) (w : World) (hN : N ≤ w.heap.size) (h : Rt N w s a na ca d nd cd q L) (hL : L ≤ 68719476736) (b : Bool) (hb : prb q = b) :
    Calls Tryz.prog 42 #[.agg #[.bool s,.slice a na ca,.slice d nd cd]] w fun e w' => e = .returned (.bool b) ∧ Below w.heap.size w w' := by
  obtain ⟨p,hp⟩ : ∃ p : Rat,(((1 : Int) : Rat)) / ((1 : Int) : Rat) = p := ⟨_,rfl⟩
  have hp1 : p = 1 := by rw [← hp];decide +kernel
  have HP := Lib.hid hp
  have HZ := Lib.hid (show rsz p ≤ 1 by rw [hp1];exact rsz_one)
  obtain ⟨σ,hσ⟩ : ∃ σ,q.num.sign = σ := ⟨_,rfl⟩
  have HSG := Lib.hid hσ
  obtain ⟨κ,hκ⟩ : ∃ κ,cmpQ q p = κ := ⟨_,rfl⟩
  have HK := Lib.hid hκ
  by_cases h0 : q < 0
  · obtain rfl : false = b := by rw [← hb];unfold prb;rw [decide_eq_false];grind
    have d0 : decide (0 ≤ σ) = false := by rw [← hσ];exact sgn_lt q h0
    clear hb h0 hσ hp hp1 hκ HK
    have hN0 := hN
    have HR := Lib.hid h
    clear h
    have HB := Lib.hid (Below.refl w.heap.size w)
    go_enter Tryz.func42,Tryz.ntmps42
    go_wp2_with fail
    refine region_name fun W0 hW => ?_
    have hs_W0 : w.heap.size ≤ W0.heap.size := by rw [← hW];(first | omega | (simp;done) | (simp;omega))
    have HK_W0 := Lib.hid (show Kp N w W0 by rw [← hW];exact KpA)
    have k_P_0 : W0.cell? ⟨w.heap.size,0,none⟩ = some (.bool s) := by rw [← hW];(first | (go_simp;done) | (simp;done) | (simp [go_sem];done) | (simp [go_sem];done))
    have k_P_1 : W0.cell? ⟨w.heap.size,1,none⟩ = some (.slice a na ca) := by rw [← hW];(first | (go_simp;done) | (simp;done) | (simp [go_sem];done) | (simp [go_sem];done))
    have k_P_2 : W0.cell? ⟨w.heap.size,2,none⟩ = some (.slice d nd cd) := by rw [← hW];(first | (go_simp;done) | (simp;done) | (simp [go_sem];done) | (simp [go_sem];done))
    have f_P : ∀ o,W0.frozen? ⟨w.heap.size,o,none⟩ = false := by intro o;rw [← hW];(first | (go_simp;done) | (simp;done) | (simp [go_sem];done) | (simp [go_sem];done))
    have HX_P := Lib.hid (show Bn W0 (w.heap.size) by rw [← hW];exact KpA)
    replace HR := Lib.hid (HR.out.keep HK_W0.out)
    replace HB := Lib.hid (show Below w.heap.size w W0 by rw [← hW];exact BlA)
    replace hN : N ≤ W0.heap.size := by rw [← hW];(first | omega | (simp;done) | (simp;omega))
    have hs0 : w.heap.size ≤ W0.heap.size := by rw [← hW];(first | omega | (simp;done) | (simp;omega))
    have hl_P : w.heap.size < W0.heap.size := by rw [← hW];(first | omega | (simp;done) | (simp;omega))
    clear hW HK_W0
    refine region_inv2 (by kernel_rfl) (DshareJ σ s a d na ca nd cd (W0)) ?_ ?_ ?_ ?_
    · exact ⟨undef,undef,undef,undef,undef,undef,undef,undef,undef,.bool false,by simp only [Act.put,List.setIfInBounds_toArray,List.set_cons_zero,List.set_cons_succ],Since.drawn _,(fun h => by cases h),(fun h => by cases h),(fun h => by cases h),(fun h => by cases h),(fun h => by cases h),(fun h => by cases h)⟩
    · exact acyc_spec (by kernel_rfl)
    · intro Ls a0 wq i o ho hLi hafter hJ
      obtain ⟨u3,u4,u5,u6,u7,u8,u9,u10,u11,u2,rfl,hS,p0,p1,p2,p3,p8,p9⟩ := hJ
      have hi : i < 10 := (Array.getElem?_eq_some_iff.1 ho).1
      obtain rfl | rfl | rfl | rfl | rfl | rfl | rfl | rfl | rfl | rfl : i = 0 ∨ i = 1 ∨ i = 2 ∨ i = 3 ∨ i = 4 ∨ i = 5 ∨ i = 6 ∨ i = 7 ∨ i = 8 ∨ i = 9 := by omega
      · simp only [List.getElem?_toArray,List.getElem?_cons_zero,Option.some.injEq] at ho
        subst ho
        have c0 := (hS.1.cell (p := ⟨w.heap.size,0,none⟩) hl_P).trans k_P_0
        have c1 := (hS.1.cell (p := ⟨w.heap.size,1,none⟩) hl_P).trans k_P_1
        have c2 := (hS.1.cell (p := ⟨w.heap.size,2,none⟩) hl_P).trans k_P_2
        have P0 := Lib.hid p0
        have P1 := Lib.hid p1
        have P2 := Lib.hid p2
        have P3 := Lib.hid p3
        have P8 := Lib.hid p8
        have P9 := Lib.hid p9
        have HS := Lib.hid hS
        clear hS hLi hafter p0 p1 p2 p3 p8 p9
        simp only [Act.put,List.setIfInBounds_toArray,List.set_cons_zero,List.set_cons_succ]
        go_wp2_with fail
        exact ⟨.agg #[.bool s,.slice a na ca,.slice d nd cd],u4,u5,u6,u7,u8,u9,u10,u11,u2,by simp only [Act.put,List.setIfInBounds_toArray,List.set_cons_zero,List.set_cons_succ],HS.out,(fun _ => rfl),(fun h => by first | rfl | exact P1.out (by simpa using h)),(fun h => by first | rfl | exact P2.out (by simpa using h)),(fun h => by first | rfl | exact P3.out (by simpa using h)),(fun h => by first | rfl | exact P8.out (by simpa using h)),(fun h => by first | rfl | exact P9.out (by simpa using h))⟩
      · simp only [List.getElem?_toArray,List.getElem?_cons_zero,List.getElem?_cons_succ,Option.some.injEq] at ho
        subst ho
        obtain rfl := p0 (hafter ⟨0,.data⟩ (by simp) rfl)
        have P0 := Lib.hid p0
        have P1 := Lib.hid p1
        have P2 := Lib.hid p2
        have P3 := Lib.hid p3
        have P8 := Lib.hid p8
        have P9 := Lib.hid p9
        have HS := Lib.hid hS
        clear hS hLi hafter p0 p1 p2 p3 p8 p9
        simp only [Act.put,List.setIfInBounds_toArray,List.set_cons_zero,List.set_cons_succ]
        go_wp2_with fail
        refine (rsign_any (N := N) _ _ _ _ _ _ _ L q _ (by have := HS.out.2;omega) (HR.out.below HS.out.1)).mono ?_
        rw [HSG.out]
        rintro e wn ⟨rfl,hb⟩
        have Hb := Lib.hid hb
        clear hb
        go_wp2_with fail
        exact ⟨.agg #[.bool s,.slice a na ca,.slice d nd cd],.int .i64 σ,u5,u6,u7,u8,u9,u10,u11,u2,by simp only [Act.put,List.setIfInBounds_toArray,List.set_cons_zero,List.set_cons_succ],HS.out.below Hb.out,(fun h => by first | rfl | exact P0.out (by simpa using h)),(fun _ => rfl),(fun h => by first | rfl | exact P2.out (by simpa using h)),(fun h => by first | rfl | exact P3.out (by simpa using h)),(fun h => by first | rfl | exact P8.out (by simpa using h)),(fun h => by first | rfl | exact P9.out (by simpa using h))⟩
      · simp only [List.getElem?_toArray,List.getElem?_cons_zero,List.getElem?_cons_succ,Option.some.injEq] at ho
        subst ho
        obtain rfl := p1 (hafter ⟨1,.data⟩ (by simp) rfl)
        have P0 := Lib.hid p0
        have P1 := Lib.hid p1
        have P2 := Lib.hid p2
        have P3 := Lib.hid p3
        have P8 := Lib.hid p8
        have P9 := Lib.hid p9
        have HS := Lib.hid hS
        clear hS hLi hafter p0 p1 p2 p3 p8 p9
        simp only [Act.put,List.setIfInBounds_toArray,List.set_cons_zero,List.set_cons_succ]
        go_wp2_with fail
        exact ⟨u3,.int .i64 σ,.bool false,u6,u7,u8,u9,u10,u11,u2,by simp only [Act.put,List.setIfInBounds_toArray,List.set_cons_zero,List.set_cons_succ],HS.out,(fun h => by first | rfl | exact P0.out (by simpa using h)),(fun h => by first | rfl | exact P1.out (by simpa using h)),(fun _ => rfl),(fun h => by first | rfl | exact P3.out (by simpa using h)),(fun h => by first | rfl | exact P8.out (by simpa using h)),(fun h => by first | rfl | exact P9.out (by simpa using h))⟩
      · simp only [List.getElem?_toArray,List.getElem?_cons_zero,List.getElem?_cons_succ,Option.some.injEq] at ho
        subst ho
        obtain rfl := p2 (hafter ⟨2,.data⟩ (by simp) rfl)
        have P0 := Lib.hid p0
        have P1 := Lib.hid p1
        have P2 := Lib.hid p2
        have P3 := Lib.hid p3
        have P8 := Lib.hid p8
        have P9 := Lib.hid p9
        have HS := Lib.hid hS
        clear hS hLi hafter p0 p1 p2 p3 p8 p9
        simp only [Act.put,List.setIfInBounds_toArray,List.set_cons_zero,List.set_cons_succ]
        go_wp2_with fail
        exact ⟨u3,u4,.bool false,.bool false,u7,u8,u9,u10,u11,u2,by simp only [Act.put,List.setIfInBounds_toArray,List.set_cons_zero,List.set_cons_succ],HS.out,(fun h => by first | rfl | exact P0.out (by simpa using h)),(fun h => by first | rfl | exact P1.out (by simpa using h)),(fun h => by first | rfl | exact P2.out (by simpa using h)),(fun _ => rfl),(fun h => by first | rfl | exact P8.out (by simpa using h)),(fun h => by first | rfl | exact P9.out (by simpa using h))⟩
      · simp only [List.getElem?_toArray,List.getElem?_cons_zero,List.getElem?_cons_succ,Option.some.injEq] at ho
        subst ho
        obtain rfl := p3 (hafter ⟨3,.guard⟩ (by simp) rfl)
        have P0 := Lib.hid p0
        have P1 := Lib.hid p1
        have P2 := Lib.hid p2
        have P3 := Lib.hid p3
        have P8 := Lib.hid p8
        have P9 := Lib.hid p9
        have HS := Lib.hid hS
        clear hS hLi hafter p0 p1 p2 p3 p8 p9
        simp only [Act.put,List.setIfInBounds_toArray,List.set_cons_zero,List.set_cons_succ]
        go_wp2_with fail
        exact ⟨u3,u4,u5,.bool false,undef,u8,u9,u10,u11,u2,by simp only [Act.put,List.setIfInBounds_toArray,List.set_cons_zero,List.set_cons_succ],HS.out,(fun h => by first | rfl | exact P0.out (by simpa using h)),(fun h => by first | rfl | exact P1.out (by simpa using h)),(fun h => by first | rfl | exact P2.out (by simpa using h)),(fun h => by first | rfl | exact P3.out (by simpa using h)),(fun h => by first | rfl | exact P8.out (by simpa using h)),(fun h => by first | rfl | exact P9.out (by simpa using h))⟩
      · simp only [List.getElem?_toArray,List.getElem?_cons_zero,List.getElem?_cons_succ,Option.some.injEq] at ho
        subst ho
        obtain rfl := p3 (hafter ⟨3,.guard⟩ (by simp) rfl)
        have P0 := Lib.hid p0
        have P1 := Lib.hid p1
        have P2 := Lib.hid p2
        have P3 := Lib.hid p3
        have P8 := Lib.hid p8
        have P9 := Lib.hid p9
        have HS := Lib.hid hS
        clear hS hLi hafter p0 p1 p2 p3 p8 p9
        simp only [Act.put,List.setIfInBounds_toArray,List.set_cons_zero,List.set_cons_succ]
        go_wp2_with fail
        exact ⟨u3,u4,u5,.bool false,u7,undef,u9,u10,u11,u2,by simp only [Act.put,List.setIfInBounds_toArray,List.set_cons_zero,List.set_cons_succ],HS.out,(fun h => by first | rfl | exact P0.out (by simpa using h)),(fun h => by first | rfl | exact P1.out (by simpa using h)),(fun h => by first | rfl | exact P2.out (by simpa using h)),(fun h => by first | rfl | exact P3.out (by simpa using h)),(fun h => by first | rfl | exact P8.out (by simpa using h)),(fun h => by first | rfl | exact P9.out (by simpa using h))⟩
      · simp only [List.getElem?_toArray,List.getElem?_cons_zero,List.getElem?_cons_succ,Option.some.injEq] at ho
        subst ho
        obtain rfl := p3 (hafter ⟨3,.guard⟩ (by simp) rfl)
        have P0 := Lib.hid p0
        have P1 := Lib.hid p1
        have P2 := Lib.hid p2
        have P3 := Lib.hid p3
        have P8 := Lib.hid p8
        have P9 := Lib.hid p9
        have HS := Lib.hid hS
        clear hS hLi hafter p0 p1 p2 p3 p8 p9
        simp only [Act.put,List.setIfInBounds_toArray,List.set_cons_zero,List.set_cons_succ]
        go_wp2_with fail
        exact ⟨u3,u4,u5,.bool false,u7,u8,undef,u10,u11,u2,by simp only [Act.put,List.setIfInBounds_toArray,List.set_cons_zero,List.set_cons_succ],HS.out,(fun h => by first | rfl | exact P0.out (by simpa using h)),(fun h => by first | rfl | exact P1.out (by simpa using h)),(fun h => by first | rfl | exact P2.out (by simpa using h)),(fun h => by first | rfl | exact P3.out (by simpa using h)),(fun h => by first | rfl | exact P8.out (by simpa using h)),(fun h => by first | rfl | exact P9.out (by simpa using h))⟩
      · simp only [List.getElem?_toArray,List.getElem?_cons_zero,List.getElem?_cons_succ,Option.some.injEq] at ho
        subst ho
        obtain rfl := p3 (hafter ⟨3,.guard⟩ (by simp) rfl)
        have P0 := Lib.hid p0
        have P1 := Lib.hid p1
        have P2 := Lib.hid p2
        have P3 := Lib.hid p3
        have P8 := Lib.hid p8
        have P9 := Lib.hid p9
        have HS := Lib.hid hS
        clear hS hLi hafter p0 p1 p2 p3 p8 p9
        simp only [Act.put,List.setIfInBounds_toArray,List.set_cons_zero,List.set_cons_succ]
        go_wp2_with fail
        exact ⟨u3,u4,u5,.bool false,u7,u8,u9,undef,u11,u2,by simp only [Act.put,List.setIfInBounds_toArray,List.set_cons_zero,List.set_cons_succ],HS.out,(fun h => by first | rfl | exact P0.out (by simpa using h)),(fun h => by first | rfl | exact P1.out (by simpa using h)),(fun h => by first | rfl | exact P2.out (by simpa using h)),(fun h => by first | rfl | exact P3.out (by simpa using h)),(fun h => by first | rfl | exact P8.out (by simpa using h)),(fun h => by first | rfl | exact P9.out (by simpa using h))⟩
      · simp only [List.getElem?_toArray,List.getElem?_cons_zero,List.getElem?_cons_succ,Option.some.injEq] at ho
        subst ho
        obtain rfl := p3 (hafter ⟨3,.data⟩ (by simp) rfl)
        have P0 := Lib.hid p0
        have P1 := Lib.hid p1
        have P2 := Lib.hid p2
        have P3 := Lib.hid p3
        have P8 := Lib.hid p8
        have P9 := Lib.hid p9
        have HS := Lib.hid hS
        clear hS hLi hafter p0 p1 p2 p3 p8 p9
        simp only [Act.put,List.setIfInBounds_toArray,List.set_cons_zero,List.set_cons_succ]
        go_wp2_with fail
        exact ⟨u3,u4,u5,.bool false,u7,u8,u9,u10,.bool false,u2,by simp only [Act.put,List.setIfInBounds_toArray,List.set_cons_zero,List.set_cons_succ],HS.out,(fun h => by first | rfl | exact P0.out (by simpa using h)),(fun h => by first | rfl | exact P1.out (by simpa using h)),(fun h => by first | rfl | exact P2.out (by simpa using h)),(fun h => by first | rfl | exact P3.out (by simpa using h)),(fun _ => rfl),(fun h => by first | rfl | exact P9.out (by simpa using h))⟩
      · simp only [List.getElem?_toArray,List.getElem?_cons_zero,List.getElem?_cons_succ,Option.some.injEq] at ho
        subst ho
        obtain rfl := p8 (hafter ⟨8,.data⟩ (by simp) rfl)
        have P0 := Lib.hid p0
        have P1 := Lib.hid p1
        have P2 := Lib.hid p2
        have P3 := Lib.hid p3
        have P8 := Lib.hid p8
        have P9 := Lib.hid p9
        have HS := Lib.hid hS
        clear hS hLi hafter p0 p1 p2 p3 p8 p9
        simp only [Act.put,List.setIfInBounds_toArray,List.set_cons_zero,List.set_cons_succ]
        go_wp2_with fail
        exact ⟨u3,u4,u5,u6,u7,u8,u9,u10,.bool false,.bool false,by simp only [Act.put,List.setIfInBounds_toArray,List.set_cons_zero,List.set_cons_succ],HS.out,(fun h => by first | rfl | exact P0.out (by simpa using h)),(fun h => by first | rfl | exact P1.out (by simpa using h)),(fun h => by first | rfl | exact P2.out (by simpa using h)),(fun h => by first | rfl | exact P3.out (by simpa using h)),(fun h => by first | rfl | exact P8.out (by simpa using h)),(fun _ => rfl)⟩
    · intro Ls a0 wq hall hJ
      obtain ⟨u3,u4,u5,u6,u7,u8,u9,u10,u11,u2,rfl,hS,p0,p1,p2,p3,p8,p9⟩ := hJ
      replace p0 := p0 (hall 0 (by decide))
      replace p1 := p1 (hall 1 (by decide))
      replace p2 := p2 (hall 2 (by decide))
      replace p3 := p3 (hall 3 (by decide))
      replace p8 := p8 (hall 8 (by decide))
      replace p9 := p9 (hall 9 (by decide))
      subst p9
      have HS := Lib.hid hS
      clear hS p0 p1 p2 p3 p8
      simp only [Act.put,List.setIfInBounds_toArray,List.set_cons_zero,List.set_cons_succ]
      go_wp2_with fail
      go_ret
      exact ⟨rfl,HB.out.trans (HS.out.1.mono hs0)⟩
  · have h1 : 0 ≤ q := by grind
    have d0 : decide (0 ≤ σ) = true := by rw [← hσ];exact sgn_ge q h1
    have d1 : decide (κ ≤ 0) = b := by
      rw [← hκ,hp1,cmp_le,← hb];unfold prb
      by_cases h2 : q ≤ 1
      · rw [decide_eq_true h2,decide_eq_true ⟨h1,h2⟩]
      · rw [decide_eq_false h2,decide_eq_false (fun h => h2 h.2)]
    clear hb h0 h1 hσ hp hp1 hκ
    have hN0 := hN
    have HR := Lib.hid h
    clear h
    have HB := Lib.hid (Below.refl w.heap.size w)
    go_enter Tryz.func42,Tryz.ntmps42
    go_wp2_with fail
    refine region_name fun W0 hW => ?_
    have hs_W0 : w.heap.size ≤ W0.heap.size := by rw [← hW];(first | omega | (simp;done) | (simp;omega))
    have HK_W0 := Lib.hid (show Kp N w W0 by rw [← hW];exact KpA)
    have k_P_0 : W0.cell? ⟨w.heap.size,0,none⟩ = some (.bool s) := by rw [← hW];(first | (go_simp;done) | (simp;done) | (simp [go_sem];done) | (simp [go_sem];done))
    have k_P_1 : W0.cell? ⟨w.heap.size,1,none⟩ = some (.slice a na ca) := by rw [← hW];(first | (go_simp;done) | (simp;done) | (simp [go_sem];done) | (simp [go_sem];done))
    have k_P_2 : W0.cell? ⟨w.heap.size,2,none⟩ = some (.slice d nd cd) := by rw [← hW];(first | (go_simp;done) | (simp;done) | (simp [go_sem];done) | (simp [go_sem];done))
    have f_P : ∀ o,W0.frozen? ⟨w.heap.size,o,none⟩ = false := by intro o;rw [← hW];(first | (go_simp;done) | (simp;done) | (simp [go_sem];done) | (simp [go_sem];done))
    have HX_P := Lib.hid (show Bn W0 (w.heap.size) by rw [← hW];exact KpA)
    replace HR := Lib.hid (HR.out.keep HK_W0.out)
    replace HB := Lib.hid (show Below w.heap.size w W0 by rw [← hW];exact BlA)
    replace hN : N ≤ W0.heap.size := by rw [← hW];(first | omega | (simp;done) | (simp;omega))
    have hs0 : w.heap.size ≤ W0.heap.size := by rw [← hW];(first | omega | (simp;done) | (simp;omega))
    have hl_P : w.heap.size < W0.heap.size := by rw [← hW];(first | omega | (simp;done) | (simp;omega))
    clear hW HK_W0
    go_region_held3 (fun w' => w'.cell? ⟨w.heap.size,0,none⟩ = some (.bool s) ∧ w'.cell? ⟨w.heap.size,1,none⟩ = some (.slice a na ca) ∧ w'.cell? ⟨w.heap.size,2,none⟩ = some (.slice d nd cd))
      (first | (go_keep;done) | ((try dsimp only);(repeat' apply And.intro) <;> (first | (go_keep;done) | (exact cell_keep_alloc_drew (by first | omega | (simp;omega)) (by first | assumption | go_simp)) | (exact cell_keep_alloc (by first | omega | (simp;omega)) (by first | assumption | go_simp)) | (rw [cell_set2 _ _ _ _ _ _ _ _ (by omega)];assumption) | (rw [cell_set3 _ _ _ _ _ _ _ _ _ _ (by omega)];assumption))))
      (first
        | (go_at_call 76;refine (rsign_any (N := N) _ _ _ _ _ _ _ L q _ (by exact hN) (by exact HR.out)).mono ?_;rw [HSG.out];rintro e wa ⟨rfl,hb⟩;replace hb : Below W0.heap.size W0 wa := (by first | exact hb | exact bel_of_drew hb);have hs_wa : W0.heap.size ≤ wa.heap.size := hb.size;replace k_P_0 : wa.cell? ⟨w.heap.size,0,none⟩ = some (.bool s) := (hb.cell (p := ⟨w.heap.size,0,none⟩) hl_P).trans k_P_0;replace k_P_1 : wa.cell? ⟨w.heap.size,1,none⟩ = some (.slice a na ca) := (hb.cell (p := ⟨w.heap.size,1,none⟩) hl_P).trans k_P_1;replace k_P_2 : wa.cell? ⟨w.heap.size,2,none⟩ = some (.slice d nd cd) := (hb.cell (p := ⟨w.heap.size,2,none⟩) hl_P).trans k_P_2;replace f_P : ∀ o,wa.frozen? ⟨w.heap.size,o,none⟩ = false := fun o => (hb.frozen (p := ⟨w.heap.size,o,none⟩) hl_P).trans (f_P o);replace HX_P := Lib.hid (HX_P.out.below hb);replace HR := Lib.hid (HR.out.below hb);replace HB := Lib.hid (HB.out.trans (hb.mono hs0));replace hN : N ≤ wa.heap.size := Nat.le_trans hN hb.size;replace hs0 : w.heap.size ≤ wa.heap.size := Nat.le_trans hs0 hb.size;replace hl_P : w.heap.size < wa.heap.size := Nat.lt_of_lt_of_le hl_P hb.size;clear hb;skip)
        | (go_at_call 30;refine (dof_any (N := N) 1 1 _ (by exact hN) (by omega) (by omega) (by omega) (by omega) p HP.out).mono ?_;rintro e wb ⟨rx,cx,rx2,cx2,rfl,hn,hn',hb⟩;replace hb : Below wa.heap.size wa wb := (by first | exact hb | exact bel_of_drew hb);have hs_wb : wa.heap.size ≤ wb.heap.size := hb.size;replace k_P_0 : wb.cell? ⟨w.heap.size,0,none⟩ = some (.bool s) := (hb.cell (p := ⟨w.heap.size,0,none⟩) hl_P).trans k_P_0;replace k_P_1 : wb.cell? ⟨w.heap.size,1,none⟩ = some (.slice a na ca) := (hb.cell (p := ⟨w.heap.size,1,none⟩) hl_P).trans k_P_1;replace k_P_2 : wb.cell? ⟨w.heap.size,2,none⟩ = some (.slice d nd cd) := (hb.cell (p := ⟨w.heap.size,2,none⟩) hl_P).trans k_P_2;replace f_P : ∀ o,wb.frozen? ⟨w.heap.size,o,none⟩ = false := fun o => (hb.frozen (p := ⟨w.heap.size,o,none⟩) hl_P).trans (f_P o);replace HX_P := Lib.hid (HX_P.out.below hb);replace HR := Lib.hid (HR.out.below hb);replace HB := Lib.hid (HB.out.trans (hb.mono hs0));replace hN : N ≤ wb.heap.size := Nat.le_trans hN hb.size;replace hs0 : w.heap.size ≤ wb.heap.size := Nat.le_trans hs0 hb.size;replace hl_P : w.heap.size < wb.heap.size := Nat.lt_of_lt_of_le hl_P hb.size;clear hb;have HX1 := Lib.hid hn;clear hn;have HX2 := Lib.hid hn';clear hn';skip)
        | (go_at_call 40;refine (rcmp_any (N := N) _ _ _ _ _ _ _ _ _ _ _ _ _ _ L 1 q p _ (by exact hN) (by exact HR.out) (by exact Rt.of_norm HX1.out HX2.out 1 HZ.out) (by omega) (by omega)).mono ?_;rw [HK.out];rintro e wc ⟨rfl,hb⟩;replace hb : Below wb.heap.size wb wc := (by first | exact hb | exact bel_of_drew hb);have hs_wc : wb.heap.size ≤ wc.heap.size := hb.size;replace k_P_0 : wc.cell? ⟨w.heap.size,0,none⟩ = some (.bool s) := (hb.cell (p := ⟨w.heap.size,0,none⟩) hl_P).trans k_P_0;replace k_P_1 : wc.cell? ⟨w.heap.size,1,none⟩ = some (.slice a na ca) := (hb.cell (p := ⟨w.heap.size,1,none⟩) hl_P).trans k_P_1;replace k_P_2 : wc.cell? ⟨w.heap.size,2,none⟩ = some (.slice d nd cd) := (hb.cell (p := ⟨w.heap.size,2,none⟩) hl_P).trans k_P_2;replace f_P : ∀ o,wc.frozen? ⟨w.heap.size,o,none⟩ = false := fun o => (hb.frozen (p := ⟨w.heap.size,o,none⟩) hl_P).trans (f_P o);replace HX_P := Lib.hid (HX_P.out.below hb);replace HR := Lib.hid (HR.out.below hb);replace HX1 := Lib.hid (HX1.out.below hb);replace HX2 := Lib.hid (HX2.out.below hb);replace HB := Lib.hid (HB.out.trans (hb.mono hs0));replace hN : N ≤ wc.heap.size := Nat.le_trans hN hb.size;replace hs0 : w.heap.size ≤ wc.heap.size := Nat.le_trans hs0 hb.size;replace hl_P : w.heap.size < wc.heap.size := Nat.lt_of_lt_of_le hl_P hb.size;clear hb;skip))
    go_wp2_with fail
    go_ret
    exact ⟨rfl,HB.out⟩
end Go.Proofs.YtnillajhhimeiaaGreatDoor
namespace Go.Proofs.YtnillajhhimeiaaGreatDoor
theorem cntP_mono {F G : Nat → Bool} : ∀ {n : Nat},(∀ i,i < n → F i = true → G i = true) → cntP n F ≤ cntP n G
  | 0,_ => by rw [cntP_zero];omega
  | n + 1,h => by
    have ih := cntP_mono (n := n) (fun i hi => h i (by omega))
    rw [cntP_succ,cntP_succ]
    by_cases e : F n = true
    · rw [if_pos e,if_pos (h n (by omega) e)];omega
    · rw [if_neg e];split <;> omega
theorem mulQ_le {a b : Rat} {m k : Nat} (h0 : 0 ≤ a) (hab : a ≤ b) (hmk : m ≤ k) : a * ((m : Nat) : Rat) ≤ b * ((k : Nat) : Rat) := by
  have h1 : ((m : Nat) : Rat) ≤ ((k : Nat) : Rat) := by exact_mod_cast hmk
  have h2 : (0 : Rat) ≤ ((k : Nat) : Rat) := by exact_mod_cast Nat.zero_le k
  exact Rat.le_trans (Rat.mul_le_mul_of_nonneg_left h1 h0) (Rat.mul_le_mul_of_nonneg_right hab h2)
def loQ (q : Nat → Rat) (n : Nat) (x : Rat) : Nat := cntP n (fun u => decide (q u < x))
def bonQ (q : Nat → Rat) (n : Nat) (al : Rat) (i : Nat) : Bool := decide (q i * ((n : Nat) : Rat) ≤ al)
def holQ (q : Nat → Rat) (n : Nat) (al : Rat) (i : Nat) : Bool := decide (∀ j,j < n → q j ≤ q i → q j * ((n - loQ q n (q j) : Nat) : Rat) ≤ al)
def ltQ (q : Nat → Rat) (x y : Nat) : Bool := decide (q x < q y)
theorem ltQ_weak (q : Nat → Rat) : Weak (ltQ q) where
  asymm x y h := by
    unfold ltQ at *
    rw [decide_eq_true_eq] at h
    exact decide_eq_false (by grind)
  neg x y z h k := by
    unfold ltQ at *
    rw [decide_eq_false_iff_not] at h k
    exact decide_eq_false (by grind)
theorem loQ_mono (q : Nat → Rat) (n : Nat) {x y : Rat} (h : x ≤ y) : loQ q n x ≤ loQ q n y := cntP_mono (fun i _ hi => by
  rw [decide_eq_true_eq] at hi ⊢
  grind)
theorem lo_le_rnk (q : Nat → Rat) (n j : Nat) : loQ q n (q j) ≤ rnk (keyT (ltQ q)) n j := cntP_mono (fun u _ hu => by
  unfold keyT ltQ
  rw [hu];rfl)
theorem keyT_le {q : Nat → Rat} {x y : Nat} (h : keyT (ltQ q) x y = true) : q x ≤ q y := by
  unfold keyT ltQ at h
  by_cases h1 : q x < q y
  · grind
  · by_cases h2 : q y < q x
    · rw [decide_eq_false h1,decide_eq_true h2] at h;cases h
    · grind
theorem grp_first {q : Nat → Rat} {n : Nat} {d : Nat → Nat} (hp : Prm n d) (hs : Srt (keyT (ltQ q)) 0 n d) {j : Nat} (hj : j < n) : loQ q n (q j) < n ∧ q (d (loQ q n (q j))) = q j := by
  have hO := (ltQ_weak q).ord
  obtain ⟨s,hs1,rfl⟩ := hp.surj j hj
  have h1 := lo_le_rnk q n (d s)
  rw [Srt.rnk hO hp hs hs1] at h1
  obtain ⟨r,er⟩ : ∃ r,loQ q n (q (d s)) = r := ⟨_,rfl⟩
  rw [er] at h1 ⊢
  have a : q (d r) ≤ q (d s) := by
    rcases Nat.lt_or_ge r s with h | h
    · exact keyT_le (hs r s (Nat.zero_le _) h hs1)
    · rw [show r = s by omega];exact Rat.le_refl
  refine ⟨by omega,?_⟩
  by_cases b : q (d r) < q (d s)
  · exfalso
    have h2 : cntP n (fun i => decide (i < r + 1)) ≤ cntP n (fun i => decide (q (d i) < q (d s))) := cntP_mono (fun i hi h => by
      rw [decide_eq_true_eq] at h ⊢
      have : q (d i) ≤ q (d r) := by
        rcases Nat.lt_or_ge i r with k | k
        · exact keyT_le (hs i r (Nat.zero_le _) k (by omega))
        · rw [show i = r by omega];exact Rat.le_refl
      grind)
    have h3 : cntP n (fun i => decide (q (d i) < q (d s))) = cntP n (fun u => decide (q u < q (d s))) := hp.cnt (fun u => decide (q u < q (d s)))
    rw [cntP_lt n (r + 1) (by omega),h3] at h2
    unfold loQ at er
    omega
  · grind
theorem hol_eq {q : Nat → Rat} {n : Nat} {d : Nat → Nat} {al : Rat} (h0 : ∀ i, i < n → 0 ≤ q i) (hp : Prm n d) (hs : Srt (keyT (ltQ q)) 0 n d) {r : Nat}
    (h1 : ∀ k,k < r → q (d k) * ((n - k : Nat) : Rat) ≤ al) (h2 : r < n → ¬ q (d r) * ((n - r : Nat) : Rat) ≤ al) {i : Nat} (hi : i < n) :
    holQ q n al i = decide (rnk (keyT (ltQ q)) n i < r) := by
  have hO := (ltQ_weak q).ord
  obtain ⟨s,hs1,rfl⟩ := hp.surj i hi
  have hrs := Srt.rnk hO hp hs hs1
  rw [hrs]
  unfold holQ
  by_cases h : s < r
  · rw [decide_eq_true h]
    refine decide_eq_true (fun j hj hle => ?_)
    obtain ⟨g1,g2⟩ := grp_first hp hs hj
    have g3 := loQ_mono q n hle
    have g4 := lo_le_rnk q n (d s)
    rw [hrs] at g4
    have := h1 _ (show loQ q n (q j) < r by omega)
    rw [g2] at this
    exact this
  · rw [decide_eq_false h]
    refine decide_eq_false (fun hall => ?_)
    have hrn : r < n := by omega
    have hle : q (d r) ≤ q (d s) := by
      rcases Nat.lt_or_ge r s with h | h
      · exact keyT_le (hs r s (Nat.zero_le _) h hs1)
      · rw [show r = s by omega];exact Rat.le_refl
    have k1 := hall (d r) (hp.lt r hrn) hle
    have k2 := lo_le_rnk q n (d r)
    rw [Srt.rnk hO hp hs hrn] at k2
    exact h2 hrn (Rat.le_trans (mulQ_le (h0 _ (hp.lt r hrn)) Rat.le_refl (by omega)) k1)
def fishQ (a b c d : Nat) : Rat := bothQ (hyQ (a + b + c + d) (a + c) (a + b)) (min (a + c) (a + b) + 1) a
theorem both_le1 (q : Nat → Rat) (n k : Nat) (h : ∀ i,i < n → 0 ≤ q i) (hv : sQ q n = 1) : bothQ q n k ≤ 1 := by
  rw [← hv]
  exact sQ_le (fun i hi => by by_cases hh : q i ≤ q k;(· rw [if_pos hh];exact Rat.le_refl);(· rw [if_neg hh];exact h i hi))
theorem both_ge1 (q : Nat → Rat) (n k : Nat) (h : ∀ i,i < n → 0 ≤ q i) (hk : k < n) : q k ≤ bothQ q n k := by
  have := sQ_one_le (f := fun i => if q i ≤ q k then q i else 0) (n := n) (k := k) (fun i hi => by by_cases hh : q i ≤ q k;(· rw [if_pos hh];exact h i hi);(· rw [if_neg hh];exact Rat.le_refl)) hk
  rw [if_pos Rat.le_refl] at this
  exact this
theorem frq_pos {m d : Nat} (hm : 0 < m) (hd : 0 < d) : 0 < frq m d := by
  rw [frq_div]
  have h1 := natQ_pos hm
  have h2 := natQ_pos hd
  have h3 := Rat.inv_pos.2 h2
  rw [Rat.div_def]
  exact Rat.mul_pos h1 h3
theorem fish_range (a b c d : Nat) (h : a + b + c + d ≤ 120) : 0 < fishQ a b c d ∧ fishQ a b c d ≤ 1 := by
  obtain ⟨_,_,h0,h1⟩ := valid_iff.1 (hyQ_valid (a + b + c + d) (a + c) (a + b) h (by omega) (by omega))
  refine ⟨?_,both_le1 _ _ _ h0 h1⟩
  have h2 := both_ge1 _ _ a h0 (by omega)
  have h3 : 0 < hyQ (a + b + c + d) (a + c) (a + b) a := frq_pos (Nat.mul_pos (chs_pos (by omega)) (chs_pos (by omega))) (chs_pos (by omega))
  unfold fishQ
  grind
theorem chs_total : ∀ n : Nat,sN (chs n) (n + 1) = 2 ^ n
  | 0 => by simp [sN,chs_zero]
  | n + 1 => by
    have h1 := chs_total n
    have h2 : sN (chs n) (n + 2) = 2 ^ n := by
      show sN (chs n) (n + 1) + chs n (n + 1) = _
      rw [h1,chs_high (by omega)];rfl
    rw [sN_first] at h2
    rw [sN_first,sN_congr (n := n + 1) (g := fun i => chs n i + chs n (i + 1)) (fun i _ => chs_ss n i),sN_add,h1,Nat.pow_succ]
    rw [chs_zero] at h2 ⊢
    omega
def siQ (n i : Nat) : Rat := frq (chs n i) (2 ^ n)
theorem siQ_valid (n : Nat) (h : n ≤ 120) : valid (siQ n) (n + 1) = true := by
  refine valid_iff.2 ⟨by omega,by omega,fun i _ => frq_nonneg _ _,?_⟩
  have e : sQ (siQ n) (n + 1) = frq (sN (chs n) (n + 1)) (2 ^ n) := sQ_frq _ _ _
  rw [e,chs_total,frq_div]
  have := natQ_ne (Nat.two_pow_pos n)
  grind
def signQ (n k : Nat) : Rat := bothQ (siQ n) (n + 1) k
end Go.Proofs.YtnillajhhimeiaaGreatDoor
namespace Go.Proofs.YtnillajhhimeiaaGreatDoor
open Go.RowKit
theorem wrapN (n : Nat) (h : n ≤ 1000000) : IntKind.i64.wrap (n : Int) = (n : Int) := by rw [IntKind.wrap_i64];omega
theorem natR_rsz (n : Nat) (h : n < 4294967296) (p : Rat) (hp : (((n : Nat) : Int) : Rat) / ((1 : Int) : Rat) = p) : rsz p ≤ 1 ∧ p = ((n : Nat) : Rat) := by
  have e : p = ((n : Nat) : Rat) := by
    rw [← hp,show ((1 : Int) : Rat) = 1 from rfl]
    have : ((((n : Nat) : Int) : Rat)) = ((n : Nat) : Rat) := rfl
    rw [this];grind
  refine ⟨?_,e⟩
  rw [e]
  exact rsz_small _ (by simpa using h) (by simp)
set_option maxHeartbeats 4000000 in
theorem dwithin_any {N : Nat} (s s2 : Bool) (a d a2 d2 : Option Addr) (na ca nd cd na2 ca2 nd2 cd2 L n : Nat) (q al : Rat) (w : World) (hN : N ≤ w.heap.size) (h : Rt N w s a na ca d nd cd q L) (h2 : Rt N w s2 a2 na2 ca2 d2 nd2 cd2 al L) (hL : L ≤ 2097152) (hn : n ≤ 1000) (b : Bool) (hb : decide (q * ((n : Nat) : Rat) ≤ al) = b) :
    Calls Tryz.prog 35 #[.agg #[.bool s,.slice a na ca,.slice d nd cd],.int .i64 n,.agg #[.bool s2,.slice a2 na2 ca2,.slice d2 nd2 cd2]] w fun e w' => e = .returned (.bool b) ∧ Below w.heap.size w w' := by
  obtain ⟨x,hx⟩ : ∃ x : Rat,(((n : Nat) : Int) : Rat) / ((1 : Int) : Rat) = x := ⟨_,rfl⟩
  obtain ⟨hz,ex⟩ := natR_rsz n (by omega) x hx
  have HX := Lib.hid hx
  have HZ := Lib.hid hz
  obtain ⟨y,hy⟩ : ∃ y : Rat,q * x = y := ⟨_,rfl⟩
  have HY := Lib.hid hy
  have HZ2 := Lib.hid (show rsz y ≤ L + 1 by have h1 := rsz_mul q x;have h2 := h.rsz_le;rw [hy] at h1;omega)
  obtain ⟨κ,hκ⟩ : ∃ κ,cmpQ y al = κ := ⟨_,rfl⟩
  have HK := Lib.hid hκ
  have dk : decide (κ ≤ 0) = b := by rw [← hκ,cmp_le,← hy,ex];exact hb
  have hwn : IntKind.i64.wrap (n : Int) = n := wrapN n (by omega)
  clear hx hz ex hy hκ hb
  have HR := Lib.hid h
  have HA := Lib.hid h2
  clear h h2
  have HB := Lib.hid (Below.refl w.heap.size w)
  go_enter Tryz.func35,Tryz.ntmps35
  go_wp2_with fail
  refine region_name fun W0 hW => ?_
  have hs_W0 : w.heap.size ≤ W0.heap.size := by rw [← hW];(first | omega | (simp;done) | (simp;omega))
  have HK_W0 := Lib.hid (show Kp N w W0 by rw [← hW];exact KpA)
  have k_P_0 : W0.cell? ⟨w.heap.size,0,none⟩ = some (.bool s) := by rw [← hW];(first | (go_simp;done) | (simp;done) | (simp [go_sem];done) | (simp [go_sem];done))
  have k_P_1 : W0.cell? ⟨w.heap.size,1,none⟩ = some (.slice a na ca) := by rw [← hW];(first | (go_simp;done) | (simp;done) | (simp [go_sem];done) | (simp [go_sem];done))
  have k_P_2 : W0.cell? ⟨w.heap.size,2,none⟩ = some (.slice d nd cd) := by rw [← hW];(first | (go_simp;done) | (simp;done) | (simp [go_sem];done) | (simp [go_sem];done))
  have f_P : ∀ o,W0.frozen? ⟨w.heap.size,o,none⟩ = false := by intro o;rw [← hW];(first | (go_simp;done) | (simp;done) | (simp [go_sem];done) | (simp [go_sem];done))
  have HX_P := Lib.hid (show Bn W0 (w.heap.size) by rw [← hW];exact KpA)
  have k_A_0 : W0.cell? ⟨w.heap.size + 1,0,none⟩ = some (.bool s2) := by rw [← hW];(first | (go_simp;done) | (simp;done) | (simp [go_sem];done) | (simp [go_sem];done))
  have k_A_1 : W0.cell? ⟨w.heap.size + 1,1,none⟩ = some (.slice a2 na2 ca2) := by rw [← hW];(first | (go_simp;done) | (simp;done) | (simp [go_sem];done) | (simp [go_sem];done))
  have k_A_2 : W0.cell? ⟨w.heap.size + 1,2,none⟩ = some (.slice d2 nd2 cd2) := by rw [← hW];(first | (go_simp;done) | (simp;done) | (simp [go_sem];done) | (simp [go_sem];done))
  have f_A : ∀ o,W0.frozen? ⟨w.heap.size + 1,o,none⟩ = false := by intro o;rw [← hW];(first | (go_simp;done) | (simp;done) | (simp [go_sem];done) | (simp [go_sem];done))
  have HX_A := Lib.hid (show Bn W0 (w.heap.size + 1) by rw [← hW];exact KpA)
  replace HR := Lib.hid (HR.out.keep HK_W0.out)
  replace HA := Lib.hid (HA.out.keep HK_W0.out)
  replace HB := Lib.hid (show Below w.heap.size w W0 by rw [← hW];exact BlA)
  replace hN : N ≤ W0.heap.size := by rw [← hW];(first | omega | (simp;done) | (simp;omega))
  have hs0 : w.heap.size ≤ W0.heap.size := by rw [← hW];(first | omega | (simp;done) | (simp;omega))
  have hl_P : w.heap.size < W0.heap.size := by rw [← hW];(first | omega | (simp;done) | (simp;omega))
  have hl_A : w.heap.size + 1 < W0.heap.size := by rw [← hW];(first | omega | (simp;done) | (simp;omega))
  clear hW HK_W0
  go_region_held3 (fun w' => w'.cell? ⟨w.heap.size,0,none⟩ = some (.bool s) ∧ w'.cell? ⟨w.heap.size,1,none⟩ = some (.slice a na ca) ∧ w'.cell? ⟨w.heap.size,2,none⟩ = some (.slice d nd cd) ∧ w'.cell? ⟨w.heap.size + 1,0,none⟩ = some (.bool s2) ∧ w'.cell? ⟨w.heap.size + 1,1,none⟩ = some (.slice a2 na2 ca2) ∧ w'.cell? ⟨w.heap.size + 1,2,none⟩ = some (.slice d2 nd2 cd2))
    (first | (go_keep;done) | ((try dsimp only);(repeat' apply And.intro) <;> (first | (go_keep;done) | (exact cell_keep_alloc_drew (by first | omega | (simp;omega)) (by first | assumption | go_simp)) | (exact cell_keep_alloc (by first | omega | (simp;omega)) (by first | assumption | go_simp)) | (rw [cell_set2 _ _ _ _ _ _ _ _ (by omega)];assumption) | (rw [cell_set3 _ _ _ _ _ _ _ _ _ _ (by omega)];assumption))))
    (first
      | (go_at_call 30;refine (dof_any (N := N) n 1 _ (by exact hN) (by omega) (by omega) (by omega) (by omega) x HX.out).mono ?_;rintro e wa ⟨rx,cx,rx2,cx2,rfl,hn,hn',hb⟩;replace hb : Below W0.heap.size W0 wa := (by first | exact hb | exact bel_of_drew hb);have hs_wa : W0.heap.size ≤ wa.heap.size := hb.size;replace k_P_0 : wa.cell? ⟨w.heap.size,0,none⟩ = some (.bool s) := (hb.cell (p := ⟨w.heap.size,0,none⟩) hl_P).trans k_P_0;replace k_P_1 : wa.cell? ⟨w.heap.size,1,none⟩ = some (.slice a na ca) := (hb.cell (p := ⟨w.heap.size,1,none⟩) hl_P).trans k_P_1;replace k_P_2 : wa.cell? ⟨w.heap.size,2,none⟩ = some (.slice d nd cd) := (hb.cell (p := ⟨w.heap.size,2,none⟩) hl_P).trans k_P_2;replace f_P : ∀ o,wa.frozen? ⟨w.heap.size,o,none⟩ = false := fun o => (hb.frozen (p := ⟨w.heap.size,o,none⟩) hl_P).trans (f_P o);replace HX_P := Lib.hid (HX_P.out.below hb);replace k_A_0 : wa.cell? ⟨w.heap.size + 1,0,none⟩ = some (.bool s2) := (hb.cell (p := ⟨w.heap.size + 1,0,none⟩) hl_A).trans k_A_0;replace k_A_1 : wa.cell? ⟨w.heap.size + 1,1,none⟩ = some (.slice a2 na2 ca2) := (hb.cell (p := ⟨w.heap.size + 1,1,none⟩) hl_A).trans k_A_1;replace k_A_2 : wa.cell? ⟨w.heap.size + 1,2,none⟩ = some (.slice d2 nd2 cd2) := (hb.cell (p := ⟨w.heap.size + 1,2,none⟩) hl_A).trans k_A_2;replace f_A : ∀ o,wa.frozen? ⟨w.heap.size + 1,o,none⟩ = false := fun o => (hb.frozen (p := ⟨w.heap.size + 1,o,none⟩) hl_A).trans (f_A o);replace HX_A := Lib.hid (HX_A.out.below hb);replace HR := Lib.hid (HR.out.below hb);replace HA := Lib.hid (HA.out.below hb);replace HB := Lib.hid (HB.out.trans (hb.mono hs0));replace hN : N ≤ wa.heap.size := Nat.le_trans hN hb.size;replace hs0 : w.heap.size ≤ wa.heap.size := Nat.le_trans hs0 hb.size;replace hl_P : w.heap.size < wa.heap.size := Nat.lt_of_lt_of_le hl_P hb.size;replace hl_A : w.heap.size + 1 < wa.heap.size := Nat.lt_of_lt_of_le hl_A hb.size;clear hb;have HX1 := Lib.hid hn;clear hn;have HX2 := Lib.hid hn';clear hn';skip)
      | (go_at_call 69;refine (rmul_any (N := N) _ _ _ _ _ _ _ _ _ _ _ _ _ _ L 1 q x _ (by exact hN) (by exact HR.out) (by exact Rt.of_norm HX1.out HX2.out 1 HZ.out) (by omega) (by omega) y HY.out).mono ?_;rintro e wb ⟨ry,cy,ry2,cy2,rfl,hn,hn',hb⟩;replace hb : Below wa.heap.size wa wb := (by first | exact hb | exact bel_of_drew hb);have hs_wb : wa.heap.size ≤ wb.heap.size := hb.size;replace k_P_0 : wb.cell? ⟨w.heap.size,0,none⟩ = some (.bool s) := (hb.cell (p := ⟨w.heap.size,0,none⟩) hl_P).trans k_P_0;replace k_P_1 : wb.cell? ⟨w.heap.size,1,none⟩ = some (.slice a na ca) := (hb.cell (p := ⟨w.heap.size,1,none⟩) hl_P).trans k_P_1;replace k_P_2 : wb.cell? ⟨w.heap.size,2,none⟩ = some (.slice d nd cd) := (hb.cell (p := ⟨w.heap.size,2,none⟩) hl_P).trans k_P_2;replace f_P : ∀ o,wb.frozen? ⟨w.heap.size,o,none⟩ = false := fun o => (hb.frozen (p := ⟨w.heap.size,o,none⟩) hl_P).trans (f_P o);replace HX_P := Lib.hid (HX_P.out.below hb);replace k_A_0 : wb.cell? ⟨w.heap.size + 1,0,none⟩ = some (.bool s2) := (hb.cell (p := ⟨w.heap.size + 1,0,none⟩) hl_A).trans k_A_0;replace k_A_1 : wb.cell? ⟨w.heap.size + 1,1,none⟩ = some (.slice a2 na2 ca2) := (hb.cell (p := ⟨w.heap.size + 1,1,none⟩) hl_A).trans k_A_1;replace k_A_2 : wb.cell? ⟨w.heap.size + 1,2,none⟩ = some (.slice d2 nd2 cd2) := (hb.cell (p := ⟨w.heap.size + 1,2,none⟩) hl_A).trans k_A_2;replace f_A : ∀ o,wb.frozen? ⟨w.heap.size + 1,o,none⟩ = false := fun o => (hb.frozen (p := ⟨w.heap.size + 1,o,none⟩) hl_A).trans (f_A o);replace HX_A := Lib.hid (HX_A.out.below hb);replace HR := Lib.hid (HR.out.below hb);replace HA := Lib.hid (HA.out.below hb);replace HX1 := Lib.hid (HX1.out.below hb);replace HX2 := Lib.hid (HX2.out.below hb);replace HB := Lib.hid (HB.out.trans (hb.mono hs0));replace hN : N ≤ wb.heap.size := Nat.le_trans hN hb.size;replace hs0 : w.heap.size ≤ wb.heap.size := Nat.le_trans hs0 hb.size;replace hl_P : w.heap.size < wb.heap.size := Nat.lt_of_lt_of_le hl_P hb.size;replace hl_A : w.heap.size + 1 < wb.heap.size := Nat.lt_of_lt_of_le hl_A hb.size;clear hb;have HY1 := Lib.hid hn;clear hn;have HY2 := Lib.hid hn';clear hn';skip)
      | (go_at_call 40;refine (rcmp_any (N := N) _ _ _ _ _ _ _ _ _ _ _ _ _ _ (L + 1) L y al _ (by exact hN) (by exact Rt.of_norm HY1.out HY2.out (L + 1) HZ2.out) (by exact HA.out) (by omega) (by omega)).mono ?_;rw [HK.out];rintro e wc ⟨rfl,hb⟩;replace hb : Below wb.heap.size wb wc := (by first | exact hb | exact bel_of_drew hb);have hs_wc : wb.heap.size ≤ wc.heap.size := hb.size;replace k_P_0 : wc.cell? ⟨w.heap.size,0,none⟩ = some (.bool s) := (hb.cell (p := ⟨w.heap.size,0,none⟩) hl_P).trans k_P_0;replace k_P_1 : wc.cell? ⟨w.heap.size,1,none⟩ = some (.slice a na ca) := (hb.cell (p := ⟨w.heap.size,1,none⟩) hl_P).trans k_P_1;replace k_P_2 : wc.cell? ⟨w.heap.size,2,none⟩ = some (.slice d nd cd) := (hb.cell (p := ⟨w.heap.size,2,none⟩) hl_P).trans k_P_2;replace f_P : ∀ o,wc.frozen? ⟨w.heap.size,o,none⟩ = false := fun o => (hb.frozen (p := ⟨w.heap.size,o,none⟩) hl_P).trans (f_P o);replace HX_P := Lib.hid (HX_P.out.below hb);replace k_A_0 : wc.cell? ⟨w.heap.size + 1,0,none⟩ = some (.bool s2) := (hb.cell (p := ⟨w.heap.size + 1,0,none⟩) hl_A).trans k_A_0;replace k_A_1 : wc.cell? ⟨w.heap.size + 1,1,none⟩ = some (.slice a2 na2 ca2) := (hb.cell (p := ⟨w.heap.size + 1,1,none⟩) hl_A).trans k_A_1;replace k_A_2 : wc.cell? ⟨w.heap.size + 1,2,none⟩ = some (.slice d2 nd2 cd2) := (hb.cell (p := ⟨w.heap.size + 1,2,none⟩) hl_A).trans k_A_2;replace f_A : ∀ o,wc.frozen? ⟨w.heap.size + 1,o,none⟩ = false := fun o => (hb.frozen (p := ⟨w.heap.size + 1,o,none⟩) hl_A).trans (f_A o);replace HX_A := Lib.hid (HX_A.out.below hb);replace HR := Lib.hid (HR.out.below hb);replace HA := Lib.hid (HA.out.below hb);replace HX1 := Lib.hid (HX1.out.below hb);replace HX2 := Lib.hid (HX2.out.below hb);replace HY1 := Lib.hid (HY1.out.below hb);replace HY2 := Lib.hid (HY2.out.below hb);replace HB := Lib.hid (HB.out.trans (hb.mono hs0));replace hN : N ≤ wc.heap.size := Nat.le_trans hN hb.size;replace hs0 : w.heap.size ≤ wc.heap.size := Nat.le_trans hs0 hb.size;replace hl_P : w.heap.size < wc.heap.size := Nat.lt_of_lt_of_le hl_P hb.size;replace hl_A : w.heap.size + 1 < wc.heap.size := Nat.lt_of_lt_of_le hl_A hb.size;clear hb;skip))
  go_wp2_with fail
  go_ret
  exact ⟨rfl,HB.out⟩
def chkC (q : Nat → Rat) (n : Nat) (al : Rat) : Int := if 60 < n then 5 else if (∀ j,j < n → prb (q j) = true) ∧ prb al = true then 0 else 3
set_option maxHeartbeats 1000000 in
theorem dcheck_long {N : Nat} (a : Option Addr) (n cap : Nat) (q : Nat → Rat) (s2 : Bool) (a2 d2 : Option Addr) (na2 ca2 nd2 cd2 L : Nat) (al : Rat) (w : World) (_hN : N ≤ w.heap.size) (h : Rs N w a n cap q L) (_h2 : Rt N w s2 a2 na2 ca2 d2 nd2 cd2 al L) (_hL : L ≤ 2097152) (hn : 60 < n) :
    Calls Tryz.prog 34 #[.slice a n cap,.agg #[.bool s2,.slice a2 na2 ca2,.slice d2 nd2 cd2]] w fun e w' => e = .returned (.int .i64 5) ∧ Below w.heap.size w w' := by
  have bc := h.1
  have bm := h.2.1
  unfold maxLen at bm
  clear h
  go_enter Tryz.func34,Tryz.ntmps34
  go_wp2_with fail
  go_ret
  exact ⟨rfl,bel1 _ _⟩
set_option maxHeartbeats 4000000 in
theorem dcheck_any {N : Nat} (a : Option Addr) (n cap : Nat) (q : Nat → Rat) (s2 : Bool) (a2 d2 : Option Addr) (na2 ca2 nd2 cd2 L : Nat) (al : Rat) (w : World) (hN : N ≤ w.heap.size) (h : Rs N w a n cap q L) (h2 : Rt N w s2 a2 na2 ca2 d2 nd2 cd2 al L) (hL : L ≤ 2097152) (c : Int) (hc : chkC q n al = c) :
    Calls Tryz.prog 34 #[.slice a n cap,.agg #[.bool s2,.slice a2 na2 ca2,.slice d2 nd2 cd2]] w fun e w' => e = .returned (.int .i64 c) ∧ Below w.heap.size w w' := by
  rcases Nat.lt_or_ge 60 n with h60 | h60
  · rw [show c = 5 by rw [← hc];unfold chkC;rw [if_pos h60]]
    exact dcheck_long a n cap q s2 a2 d2 na2 ca2 nd2 cd2 L al w hN h h2 hL h60
  unfold chkC at hc
  rw [if_neg (by omega)] at hc
  have HCC := Lib.hid hc
  clear hc
  have HA := Lib.hid h
  have HAA := Lib.hid h2
  have bc := h.1
  have bm := h.2.1
  unfold maxLen at bm
  clear h h2
  have hN0 := hN
  have HB := Lib.hid (Below.refl w.heap.size w)
  go_enter Tryz.func34,Tryz.ntmps34
  go_wp2_with fail
  go_loopw [12] (fun i wr => ∃ k : Nat,k ≤ n ∧ i = .int .i64 k ∧ Hid (∀ j,j < k → prb (q j) = true) ∧ Below w.heap.size w wr ∧ Box3 wr w.heap.size (.bool s2) (.slice a2 na2 ca2) (.slice d2 nd2 cd2)) (fun i _ => n - (intOf i).toNat)
  case atStart => exact ⟨0,Nat.zero_le _,rfl,(fun j hj => by omega),bel1 _ _,⟨by first | omega | (simp;done) | (simp;omega),by exact KpA,fun o => by first | (go_simp;done) | (simp;done) | (simp [go_sem];done) | (simp [go_sem];done),by first | with_reducible assumption | (go_simp;done) | (simp;done) | (simp [go_sem];done) | (simp [go_sem];done),by first | with_reducible assumption | (go_simp;done) | (simp;done) | (simp [go_sem];done) | (simp [go_sem];done),by first | with_reducible assumption | (go_simp;done) | (simp;done) | (simp [go_sem];done) | (simp [go_sem];done)⟩⟩
  case round =>
    obtain ⟨k,hk,rfl,hin,hbel,hbx⟩ := hrel
    have hsz : w.heap.size ≤ wr.heap.size := hbel.size
    have HAA2 := Lib.hid (HAA.out.below hbel)
    clear HAA
    have HAA := HAA2
    clear HAA2
    have HA2 := Lib.hid (HA.out.below hbel)
    have HB := Lib.hid hbel
    have hs0 : w.heap.size ≤ wr.heap.size := by omega
    have hN2 : N ≤ wr.heap.size := by omega
    clear hbel
    clear hN
    have hN := hN2
    clear hN2
    obtain ⟨hl_A,bn_A,f_A,k_A_0,k_A_1,k_A_2⟩ := hbx
    have HX_A := Lib.hid bn_A
    clear bn_A
    by_cases hkn : k < n
    · obtain ⟨b,off,rfl,hc⟩ := HA2.out.2.2 (by omega)
      obtain ⟨sk,ra,rn,rc,da,dn,dc,g0,g1,g2,hrt⟩ := hc k hkn
      have HR := Lib.hid hrt
      clear hc hrt HA2
      rcases Bool.eq_false_or_eq_true (prb (q k)) with hpb | hpb
      · have HPB := Lib.hid hpb
        clear hpb
        go_wp2_with fail
        refine calls_name fun W1 hW => ?_
        have HL_W1 := Lib.hid (show Below wr.heap.size wr W1 by rw [← hW];exact BlA)
        have hs_W1 : wr.heap.size ≤ W1.heap.size := by rw [← hW];(first | omega | (simp;done) | (simp;omega))
        have hd_A_P : w.heap.size < wr.heap.size := by omega
        have HK_W1 := Lib.hid (show Kp N wr W1 by rw [← hW];exact KpA)
        replace k_A_0 : W1.cell? ⟨w.heap.size,0,none⟩ = some (.bool s2) := (HL_W1.out.cell (p := ⟨w.heap.size,0,none⟩) hl_A).trans k_A_0
        replace k_A_1 : W1.cell? ⟨w.heap.size,1,none⟩ = some (.slice a2 na2 ca2) := (HL_W1.out.cell (p := ⟨w.heap.size,1,none⟩) hl_A).trans k_A_1
        replace k_A_2 : W1.cell? ⟨w.heap.size,2,none⟩ = some (.slice d2 nd2 cd2) := (HL_W1.out.cell (p := ⟨w.heap.size,2,none⟩) hl_A).trans k_A_2
        replace f_A : ∀ o,W1.frozen? ⟨w.heap.size,o,none⟩ = false := fun o => (HL_W1.out.frozen (p := ⟨w.heap.size,o,none⟩) hl_A).trans (f_A o)
        replace HX_A := Lib.hid (show Bn W1 (w.heap.size) by rw [← hW];exact KpA)
        have k_P_0 : W1.cell? ⟨wr.heap.size,0,none⟩ = some (.bool sk) := by rw [← hW];(first | (go_simp;done) | (simp;done) | (simp [go_sem];done) | (simp [go_sem,k_A_0,k_A_1,k_A_2,f_A,hl_A];done))
        have k_P_1 : W1.cell? ⟨wr.heap.size,1,none⟩ = some (.slice ra rn rc) := by rw [← hW];(first | (go_simp;done) | (simp;done) | (simp [go_sem];done) | (simp [go_sem,k_A_0,k_A_1,k_A_2,f_A,hl_A];done))
        have k_P_2 : W1.cell? ⟨wr.heap.size,2,none⟩ = some (.slice da dn dc) := by rw [← hW];(first | (go_simp;done) | (simp;done) | (simp [go_sem];done) | (simp [go_sem,k_A_0,k_A_1,k_A_2,f_A,hl_A];done))
        have f_P : ∀ o,W1.frozen? ⟨wr.heap.size,o,none⟩ = false := by intro o;rw [← hW];(first | (go_simp;done) | (simp;done) | (simp [go_sem];done) | (simp [go_sem,k_A_0,k_A_1,k_A_2,f_A,hl_A];done))
        have HX_P := Lib.hid (show Bn W1 (wr.heap.size) by rw [← hW];exact KpA)
        replace HR := Lib.hid (HR.out.keep HK_W1.out)
        replace HB := Lib.hid (show Below w.heap.size w W1 by rw [← hW];exact BlA)
        replace hN : N ≤ W1.heap.size := by rw [← hW];(first | omega | (simp;done) | (simp;omega))
        replace hs0 : w.heap.size ≤ W1.heap.size := by rw [← hW];(first | omega | (simp;done) | (simp;omega))
        replace hl_A : w.heap.size < W1.heap.size := by rw [← hW];(first | omega | (simp;done) | (simp;omega))
        have hl_P : wr.heap.size < W1.heap.size := by rw [← hW];(first | omega | (simp;done) | (simp;omega))
        replace HAA := Lib.hid (HAA.out.below HL_W1.out)
        clear HL_W1
        clear hW HK_W1
        refine (dshare_any (N := N) _ _ _ _ _ _ _ L (q k) _ hN HR.out (by omega) true HPB.out).mono ?_
        rintro e wa ⟨rfl,hb⟩
        have hs_wa : W1.heap.size ≤ wa.heap.size := hb.size
        replace k_A_0 : wa.cell? ⟨w.heap.size,0,none⟩ = some (.bool s2) := (hb.cell (p := ⟨w.heap.size,0,none⟩) hl_A).trans k_A_0
        replace k_A_1 : wa.cell? ⟨w.heap.size,1,none⟩ = some (.slice a2 na2 ca2) := (hb.cell (p := ⟨w.heap.size,1,none⟩) hl_A).trans k_A_1
        replace k_A_2 : wa.cell? ⟨w.heap.size,2,none⟩ = some (.slice d2 nd2 cd2) := (hb.cell (p := ⟨w.heap.size,2,none⟩) hl_A).trans k_A_2
        replace f_A : ∀ o,wa.frozen? ⟨w.heap.size,o,none⟩ = false := fun o => (hb.frozen (p := ⟨w.heap.size,o,none⟩) hl_A).trans (f_A o)
        replace HX_A := Lib.hid (HX_A.out.below hb)
        replace k_P_0 : wa.cell? ⟨wr.heap.size,0,none⟩ = some (.bool sk) := (hb.cell (p := ⟨wr.heap.size,0,none⟩) hl_P).trans k_P_0
        replace k_P_1 : wa.cell? ⟨wr.heap.size,1,none⟩ = some (.slice ra rn rc) := (hb.cell (p := ⟨wr.heap.size,1,none⟩) hl_P).trans k_P_1
        replace k_P_2 : wa.cell? ⟨wr.heap.size,2,none⟩ = some (.slice da dn dc) := (hb.cell (p := ⟨wr.heap.size,2,none⟩) hl_P).trans k_P_2
        replace f_P : ∀ o,wa.frozen? ⟨wr.heap.size,o,none⟩ = false := fun o => (hb.frozen (p := ⟨wr.heap.size,o,none⟩) hl_P).trans (f_P o)
        replace HX_P := Lib.hid (HX_P.out.below hb)
        replace HR := Lib.hid (HR.out.below hb)
        replace HB := Lib.hid (HB.out.trans (hb.mono hs0))
        replace hN : N ≤ wa.heap.size := Nat.le_trans hN hb.size
        replace hs0 : w.heap.size ≤ wa.heap.size := Nat.le_trans hs0 hb.size
        replace hl_A : w.heap.size < wa.heap.size := Nat.lt_of_lt_of_le hl_A hb.size
        replace hl_P : wr.heap.size < wa.heap.size := Nat.lt_of_lt_of_le hl_P hb.size
        replace HAA := Lib.hid (HAA.out.below hb)
        clear hb
        go_wp2_with fail
        go_roundw
        case rel => exact ⟨k + 1,by omega,by go_num,all_succ hin.out HPB.out,HB.out,hl_A,HX_A.out,f_A,k_A_0,k_A_1,k_A_2⟩
        case measure => simp [intOf];omega
      · have HPB := Lib.hid hpb
        clear hpb
        go_wp2_with fail
        refine calls_name fun W1 hW => ?_
        have HL_W1 := Lib.hid (show Below wr.heap.size wr W1 by rw [← hW];exact BlA)
        have hs_W1 : wr.heap.size ≤ W1.heap.size := by rw [← hW];(first | omega | (simp;done) | (simp;omega))
        have hd_A_P : w.heap.size < wr.heap.size := by omega
        have HK_W1 := Lib.hid (show Kp N wr W1 by rw [← hW];exact KpA)
        replace k_A_0 : W1.cell? ⟨w.heap.size,0,none⟩ = some (.bool s2) := (HL_W1.out.cell (p := ⟨w.heap.size,0,none⟩) hl_A).trans k_A_0
        replace k_A_1 : W1.cell? ⟨w.heap.size,1,none⟩ = some (.slice a2 na2 ca2) := (HL_W1.out.cell (p := ⟨w.heap.size,1,none⟩) hl_A).trans k_A_1
        replace k_A_2 : W1.cell? ⟨w.heap.size,2,none⟩ = some (.slice d2 nd2 cd2) := (HL_W1.out.cell (p := ⟨w.heap.size,2,none⟩) hl_A).trans k_A_2
        replace f_A : ∀ o,W1.frozen? ⟨w.heap.size,o,none⟩ = false := fun o => (HL_W1.out.frozen (p := ⟨w.heap.size,o,none⟩) hl_A).trans (f_A o)
        replace HX_A := Lib.hid (show Bn W1 (w.heap.size) by rw [← hW];exact KpA)
        have k_P_0 : W1.cell? ⟨wr.heap.size,0,none⟩ = some (.bool sk) := by rw [← hW];(first | (go_simp;done) | (simp;done) | (simp [go_sem];done) | (simp [go_sem,k_A_0,k_A_1,k_A_2,f_A,hl_A];done))
        have k_P_1 : W1.cell? ⟨wr.heap.size,1,none⟩ = some (.slice ra rn rc) := by rw [← hW];(first | (go_simp;done) | (simp;done) | (simp [go_sem];done) | (simp [go_sem,k_A_0,k_A_1,k_A_2,f_A,hl_A];done))
        have k_P_2 : W1.cell? ⟨wr.heap.size,2,none⟩ = some (.slice da dn dc) := by rw [← hW];(first | (go_simp;done) | (simp;done) | (simp [go_sem];done) | (simp [go_sem,k_A_0,k_A_1,k_A_2,f_A,hl_A];done))
        have f_P : ∀ o,W1.frozen? ⟨wr.heap.size,o,none⟩ = false := by intro o;rw [← hW];(first | (go_simp;done) | (simp;done) | (simp [go_sem];done) | (simp [go_sem,k_A_0,k_A_1,k_A_2,f_A,hl_A];done))
        have HX_P := Lib.hid (show Bn W1 (wr.heap.size) by rw [← hW];exact KpA)
        replace HR := Lib.hid (HR.out.keep HK_W1.out)
        replace HB := Lib.hid (show Below w.heap.size w W1 by rw [← hW];exact BlA)
        replace hN : N ≤ W1.heap.size := by rw [← hW];(first | omega | (simp;done) | (simp;omega))
        replace hs0 : w.heap.size ≤ W1.heap.size := by rw [← hW];(first | omega | (simp;done) | (simp;omega))
        replace hl_A : w.heap.size < W1.heap.size := by rw [← hW];(first | omega | (simp;done) | (simp;omega))
        have hl_P : wr.heap.size < W1.heap.size := by rw [← hW];(first | omega | (simp;done) | (simp;omega))
        replace HAA := Lib.hid (HAA.out.below HL_W1.out)
        clear HL_W1
        clear hW HK_W1
        refine (dshare_any (N := N) _ _ _ _ _ _ _ L (q k) _ hN HR.out (by omega) false HPB.out).mono ?_
        rintro e wa ⟨rfl,hb⟩
        have hs_wa : W1.heap.size ≤ wa.heap.size := hb.size
        replace k_A_0 : wa.cell? ⟨w.heap.size,0,none⟩ = some (.bool s2) := (hb.cell (p := ⟨w.heap.size,0,none⟩) hl_A).trans k_A_0
        replace k_A_1 : wa.cell? ⟨w.heap.size,1,none⟩ = some (.slice a2 na2 ca2) := (hb.cell (p := ⟨w.heap.size,1,none⟩) hl_A).trans k_A_1
        replace k_A_2 : wa.cell? ⟨w.heap.size,2,none⟩ = some (.slice d2 nd2 cd2) := (hb.cell (p := ⟨w.heap.size,2,none⟩) hl_A).trans k_A_2
        replace f_A : ∀ o,wa.frozen? ⟨w.heap.size,o,none⟩ = false := fun o => (hb.frozen (p := ⟨w.heap.size,o,none⟩) hl_A).trans (f_A o)
        replace HX_A := Lib.hid (HX_A.out.below hb)
        replace k_P_0 : wa.cell? ⟨wr.heap.size,0,none⟩ = some (.bool sk) := (hb.cell (p := ⟨wr.heap.size,0,none⟩) hl_P).trans k_P_0
        replace k_P_1 : wa.cell? ⟨wr.heap.size,1,none⟩ = some (.slice ra rn rc) := (hb.cell (p := ⟨wr.heap.size,1,none⟩) hl_P).trans k_P_1
        replace k_P_2 : wa.cell? ⟨wr.heap.size,2,none⟩ = some (.slice da dn dc) := (hb.cell (p := ⟨wr.heap.size,2,none⟩) hl_P).trans k_P_2
        replace f_P : ∀ o,wa.frozen? ⟨wr.heap.size,o,none⟩ = false := fun o => (hb.frozen (p := ⟨wr.heap.size,o,none⟩) hl_P).trans (f_P o)
        replace HX_P := Lib.hid (HX_P.out.below hb)
        replace HR := Lib.hid (HR.out.below hb)
        replace HB := Lib.hid (HB.out.trans (hb.mono hs0))
        replace hN : N ≤ wa.heap.size := Nat.le_trans hN hb.size
        replace hs0 : w.heap.size ≤ wa.heap.size := Nat.le_trans hs0 hb.size
        replace hl_A : w.heap.size < wa.heap.size := Nat.lt_of_lt_of_le hl_A hb.size
        replace hl_P : wr.heap.size < wa.heap.size := Nat.lt_of_lt_of_le hl_P hb.size
        replace HAA := Lib.hid (HAA.out.below hb)
        clear hb
        go_wp2_with fail
        go_ret
        have ec : c = 3 := by rw [← HCC.out,if_neg (fun hh => absurd ((hh.1 k hkn).symm.trans HPB.out) (by decide))]
        exact ⟨by rw [ec];rfl,HB.out⟩
    · rcases Bool.eq_false_or_eq_true (prb al) with hpa | hpa
      · obtain rfl : k = n := by omega
        have HPA := Lib.hid hpa
        clear hpa
        go_wp2_with fail
        refine (dshare_any (N := N) _ _ _ _ _ _ _ L al _ hN HAA.out (by omega) true HPA.out).mono ?_
        rintro e wa ⟨rfl,hb⟩
        have hs_wa : wr.heap.size ≤ wa.heap.size := hb.size
        replace k_A_0 : wa.cell? ⟨w.heap.size,0,none⟩ = some (.bool s2) := (hb.cell (p := ⟨w.heap.size,0,none⟩) hl_A).trans k_A_0
        replace k_A_1 : wa.cell? ⟨w.heap.size,1,none⟩ = some (.slice a2 na2 ca2) := (hb.cell (p := ⟨w.heap.size,1,none⟩) hl_A).trans k_A_1
        replace k_A_2 : wa.cell? ⟨w.heap.size,2,none⟩ = some (.slice d2 nd2 cd2) := (hb.cell (p := ⟨w.heap.size,2,none⟩) hl_A).trans k_A_2
        replace f_A : ∀ o,wa.frozen? ⟨w.heap.size,o,none⟩ = false := fun o => (hb.frozen (p := ⟨w.heap.size,o,none⟩) hl_A).trans (f_A o)
        replace HX_A := Lib.hid (HX_A.out.below hb)
        replace HB := Lib.hid (HB.out.trans (hb.mono hs0))
        replace hN : N ≤ wa.heap.size := Nat.le_trans hN hb.size
        replace hs0 : w.heap.size ≤ wa.heap.size := Nat.le_trans hs0 hb.size
        replace hl_A : w.heap.size < wa.heap.size := Nat.lt_of_lt_of_le hl_A hb.size
        replace HAA := Lib.hid (HAA.out.below hb)
        clear hb
        go_wp2_with fail
        go_ret
        have ec : c = 0 := by rw [← HCC.out,if_pos ⟨hin.out,HPA.out⟩]
        exact ⟨by rw [ec];rfl,HB.out⟩
      · obtain rfl : k = n := by omega
        have HPA := Lib.hid hpa
        clear hpa
        go_wp2_with fail
        refine (dshare_any (N := N) _ _ _ _ _ _ _ L al _ hN HAA.out (by omega) false HPA.out).mono ?_
        rintro e wa ⟨rfl,hb⟩
        have hs_wa : wr.heap.size ≤ wa.heap.size := hb.size
        replace k_A_0 : wa.cell? ⟨w.heap.size,0,none⟩ = some (.bool s2) := (hb.cell (p := ⟨w.heap.size,0,none⟩) hl_A).trans k_A_0
        replace k_A_1 : wa.cell? ⟨w.heap.size,1,none⟩ = some (.slice a2 na2 ca2) := (hb.cell (p := ⟨w.heap.size,1,none⟩) hl_A).trans k_A_1
        replace k_A_2 : wa.cell? ⟨w.heap.size,2,none⟩ = some (.slice d2 nd2 cd2) := (hb.cell (p := ⟨w.heap.size,2,none⟩) hl_A).trans k_A_2
        replace f_A : ∀ o,wa.frozen? ⟨w.heap.size,o,none⟩ = false := fun o => (hb.frozen (p := ⟨w.heap.size,o,none⟩) hl_A).trans (f_A o)
        replace HX_A := Lib.hid (HX_A.out.below hb)
        replace HB := Lib.hid (HB.out.trans (hb.mono hs0))
        replace hN : N ≤ wa.heap.size := Nat.le_trans hN hb.size
        replace hs0 : w.heap.size ≤ wa.heap.size := Nat.le_trans hs0 hb.size
        replace hl_A : w.heap.size < wa.heap.size := Nat.lt_of_lt_of_le hl_A hb.size
        replace HAA := Lib.hid (HAA.out.below hb)
        clear hb
        go_wp2_with fail
        go_ret
        have ec : c = 3 := by rw [← HCC.out,if_neg (fun hh => absurd (hh.2.symm.trans HPA.out) (by decide))]
        exact ⟨by rw [ec];rfl,HB.out⟩
end Go.Proofs.YtnillajhhimeiaaGreatDoor
namespace Go.Proofs.YtnillajhhimeiaaGreatDoor
open Go.RowKit
def Rw (w : World) (b : Nat) (T : TypeId) (n : Nat) (f : Nat → Value) : Prop := w.rowIs b T n f
theorem Rw.below {w w' : World} {b n : Nat} {T : TypeId} {f : Nat → Value} (h : Rw w b T n f) (hb : Below w.heap.size w w') : Rw w' b T n f :=
  World.rowIs.of_block h (hb.block b (World.rowIs.lt h))
def BlsPost (w : World) (n : Nat) (f : Nat → Bool) (e : Ending) (w' : World) : Prop :=
  ∃ b,e = .returned (.tuple #[.slice (some ⟨b,0,none⟩) n n,.int .i64 0]) ∧ w.heap.size ≤ b ∧ b < w'.heap.size ∧ Rw w' b 4 n (fun i => .bool (f i)) ∧ Below w.heap.size w w'
theorem Tryz.underBools : Tryz.prog.underlying 39 = some (.slice 4) := by kernel_rfl
theorem Tryz.infoBool : (Tryz.prog.info? 4).map (fun i => (i.zero,i.size,i.bytes)) = some (some (.bool false),1,1) := by kernel_rfl
theorem make_bools (n : Nat) (h : n ≤ 100000) (w : World) :
    (Instr.makeSlice 39 (.int .i64 (n : Int)) (.int .i64 (n : Int))).run Tryz.prog w = .ok (.slice (some ⟨w.heap.size,0,none⟩) n n) (w.alloc (.cells (madeCells #[.bool false] n) 4)) :=
  run_make_row' (P := Tryz.prog) 39 4 (.bool false) 1 Tryz.underBools Tryz.infoBool rfl .i64 .i64 n (by omega) (by omega) w
theorem Tryz.underIntsD : Tryz.prog.underlying 45 = some (.slice 3) := by kernel_rfl
theorem Tryz.infoIntD : (Tryz.prog.info? 3).map (fun i => (i.zero,i.size,i.bytes)) = some (some (.int .i64 0),1,8) := by kernel_rfl
theorem make_intsD (n : Nat) (h : n ≤ 100000) (w : World) :
    (Instr.makeSlice 45 (.int .i64 (n : Int)) (.int .i64 (n : Int))).run Tryz.prog w = .ok (.slice (some ⟨w.heap.size,0,none⟩) n n) (w.alloc (.cells (madeCells #[.int .i64 0] n) 3)) :=
  run_make_row' (P := Tryz.prog) 45 3 (.int .i64 0) 8 Tryz.underIntsD Tryz.infoIntD rfl .i64 .i64 n (by omega) (by omega) w
theorem chk_ok {q : Nat → Rat} {n : Nat} {al : Rat} (h : chkC q n al = 0) : n ≤ 60 ∧ (∀ j,j < n → prb (q j) = true) ∧ prb al = true := by
  unfold chkC at h
  by_cases h1 : 60 < n
  · rw [if_pos h1] at h;omega
  · rw [if_neg h1] at h
    by_cases h2 : (∀ j,j < n → prb (q j) = true) ∧ prb al = true
    · exact ⟨by omega,h2⟩
    · rw [if_neg h2] at h;omega
theorem rowIs_riD {w : World} {g n : Nat} {f : Nat → Value} (h : w.rowIs g 3 n f) : Ri w g n := by
  obtain ⟨c,h1,h2⟩ := h
  exact ⟨c,h1,h2.1⟩
set_option maxHeartbeats 2000000 in
theorem holm_bad {N : Nat} (a : Option Addr) (n cap : Nat) (q : Nat → Rat) (s2 : Bool) (a2 d2 : Option Addr) (na2 ca2 nd2 cd2 L : Nat) (al : Rat) (w : World) (hN : N ≤ w.heap.size) (h : Rs N w a n cap q L) (h2 : Rt N w s2 a2 na2 ca2 d2 nd2 cd2 al L) (hL : L ≤ 2097152) (c : Int) (hc : chkC q n al = c) (h0 : c ≠ 0) :
    Calls Tryz.prog 17 #[.slice a n cap,.agg #[.bool s2,.slice a2 na2 ca2,.slice d2 nd2 cd2]] w (ErrPost w c) := by
  have HC := Lib.hid hc
  have z0 : (c == 0) = false := by simpa using h0
  clear hc
  have HA := Lib.hid h
  have HAA := Lib.hid h2
  have bc := h.1
  have bm := h.2.1
  unfold maxLen at bm
  clear h h2
  have hN0 := hN
  have HB := Lib.hid (Below.refl w.heap.size w)
  go_enter Tryz.func17,Tryz.ntmps17
  go_wp2_with fail
  refine calls_name fun W0 hW => ?_
  have hs_W0 : w.heap.size ≤ W0.heap.size := by rw [← hW];(first | omega | (simp;done) | (simp;omega))
  have HL_W0 := Lib.hid (show Below w.heap.size w W0 by rw [← hW];exact BlA)
  have k_S_0 : W0.cell? ⟨w.heap.size,0,none⟩ = some (.slice a n cap) := by rw [← hW];(first | (go_simp;done) | (simp;done) | (simp [go_sem];done) | (simp [go_sem];done))
  have f_S : ∀ o,W0.frozen? ⟨w.heap.size,o,none⟩ = false := by intro o;rw [← hW];(first | (go_simp;done) | (simp;done) | (simp [go_sem];done) | (simp [go_sem];done))
  have HX_S := Lib.hid (show Bn W0 (w.heap.size) by rw [← hW];exact KpA)
  have k_A_0 : W0.cell? ⟨w.heap.size + 1,0,none⟩ = some (.bool s2) := by rw [← hW];(first | (go_simp;done) | (simp;done) | (simp [go_sem];done) | (simp [go_sem];done))
  have k_A_1 : W0.cell? ⟨w.heap.size + 1,1,none⟩ = some (.slice a2 na2 ca2) := by rw [← hW];(first | (go_simp;done) | (simp;done) | (simp [go_sem];done) | (simp [go_sem];done))
  have k_A_2 : W0.cell? ⟨w.heap.size + 1,2,none⟩ = some (.slice d2 nd2 cd2) := by rw [← hW];(first | (go_simp;done) | (simp;done) | (simp [go_sem];done) | (simp [go_sem];done))
  have f_A : ∀ o,W0.frozen? ⟨w.heap.size + 1,o,none⟩ = false := by intro o;rw [← hW];(first | (go_simp;done) | (simp;done) | (simp [go_sem];done) | (simp [go_sem];done))
  have HX_A := Lib.hid (show Bn W0 (w.heap.size + 1) by rw [← hW];exact KpA)
  replace HB := Lib.hid (show Below w.heap.size w W0 by rw [← hW];exact BlA)
  replace hN : N ≤ W0.heap.size := by rw [← hW];(first | omega | (simp;done) | (simp;omega))
  have hs0 : w.heap.size ≤ W0.heap.size := by rw [← hW];(first | omega | (simp;done) | (simp;omega))
  have hl_S : w.heap.size < W0.heap.size := by rw [← hW];(first | omega | (simp;done) | (simp;omega))
  have hl_A : w.heap.size + 1 < W0.heap.size := by rw [← hW];(first | omega | (simp;done) | (simp;omega))
  replace HA := Lib.hid (HA.out.below HL_W0.out)
  replace HAA := Lib.hid (HAA.out.below HL_W0.out)
  clear HL_W0
  clear hW
  refine (dcheck_any (N := N) _ n _ q _ _ _ _ _ _ _ L al _ hN HA.out HAA.out hL c HC.out).mono ?_
  rintro e wa ⟨rfl,hb⟩
  have hs_wa : W0.heap.size ≤ wa.heap.size := hb.size
  replace k_S_0 : wa.cell? ⟨w.heap.size,0,none⟩ = some (.slice a n cap) := (hb.cell (p := ⟨w.heap.size,0,none⟩) hl_S).trans k_S_0
  replace f_S : ∀ o,wa.frozen? ⟨w.heap.size,o,none⟩ = false := fun o => (hb.frozen (p := ⟨w.heap.size,o,none⟩) hl_S).trans (f_S o)
  replace HX_S := Lib.hid (HX_S.out.below hb)
  replace k_A_0 : wa.cell? ⟨w.heap.size + 1,0,none⟩ = some (.bool s2) := (hb.cell (p := ⟨w.heap.size + 1,0,none⟩) hl_A).trans k_A_0
  replace k_A_1 : wa.cell? ⟨w.heap.size + 1,1,none⟩ = some (.slice a2 na2 ca2) := (hb.cell (p := ⟨w.heap.size + 1,1,none⟩) hl_A).trans k_A_1
  replace k_A_2 : wa.cell? ⟨w.heap.size + 1,2,none⟩ = some (.slice d2 nd2 cd2) := (hb.cell (p := ⟨w.heap.size + 1,2,none⟩) hl_A).trans k_A_2
  replace f_A : ∀ o,wa.frozen? ⟨w.heap.size + 1,o,none⟩ = false := fun o => (hb.frozen (p := ⟨w.heap.size + 1,o,none⟩) hl_A).trans (f_A o)
  replace HX_A := Lib.hid (HX_A.out.below hb)
  replace HB := Lib.hid (HB.out.trans (hb.mono hs0))
  replace hN : N ≤ wa.heap.size := Nat.le_trans hN hb.size
  replace hs0 : w.heap.size ≤ wa.heap.size := Nat.le_trans hs0 hb.size
  replace hl_S : w.heap.size < wa.heap.size := Nat.lt_of_lt_of_le hl_S hb.size
  replace hl_A : w.heap.size + 1 < wa.heap.size := Nat.lt_of_lt_of_le hl_A hb.size
  replace HA := Lib.hid (HA.out.below hb)
  replace HAA := Lib.hid (HAA.out.below hb)
  clear hb
  go_wp2_with fail
  go_ret2
  exact ⟨rfl,HB.out⟩
set_option maxHeartbeats 4000000 in
theorem bonf_ok {N : Nat} (a : Option Addr) (n cap : Nat) (q : Nat → Rat) (s2 : Bool) (a2 d2 : Option Addr) (na2 ca2 nd2 cd2 L : Nat) (al : Rat) (w : World) (hN : N ≤ w.heap.size) (h : Rs N w a n cap q L) (h2 : Rt N w s2 a2 na2 ca2 d2 nd2 cd2 al L) (hL : L ≤ 2097152) (hc : chkC q n al = 0) :
    Calls Tryz.prog 14 #[.slice a n cap,.agg #[.bool s2,.slice a2 na2 ca2,.slice d2 nd2 cd2]] w (BlsPost w n (bonQ q n al)) := by
  have HC := Lib.hid hc
  obtain ⟨h60,_,_⟩ := chk_ok hc
  clear hc
  have HA := Lib.hid h
  have HAA := Lib.hid h2
  have bc := h.1
  have bm := h.2.1
  unfold maxLen at bm
  clear h h2
  have hN0 := hN
  have HB := Lib.hid (Below.refl w.heap.size w)
  go_enter Tryz.func14,Tryz.ntmps14
  go_wp2_with fail
  refine calls_name fun W0 hW => ?_
  have hs_W0 : w.heap.size ≤ W0.heap.size := by rw [← hW];(first | omega | (simp;done) | (simp;omega))
  have HL_W0 := Lib.hid (show Below w.heap.size w W0 by rw [← hW];exact BlA)
  have k_A_0 : W0.cell? ⟨w.heap.size,0,none⟩ = some (.bool s2) := by rw [← hW];(first | (go_simp;done) | (simp;done) | (simp [go_sem];done) | (simp [go_sem];done))
  have k_A_1 : W0.cell? ⟨w.heap.size,1,none⟩ = some (.slice a2 na2 ca2) := by rw [← hW];(first | (go_simp;done) | (simp;done) | (simp [go_sem];done) | (simp [go_sem];done))
  have k_A_2 : W0.cell? ⟨w.heap.size,2,none⟩ = some (.slice d2 nd2 cd2) := by rw [← hW];(first | (go_simp;done) | (simp;done) | (simp [go_sem];done) | (simp [go_sem];done))
  have f_A : ∀ o,W0.frozen? ⟨w.heap.size,o,none⟩ = false := by intro o;rw [← hW];(first | (go_simp;done) | (simp;done) | (simp [go_sem];done) | (simp [go_sem];done))
  have HX_A := Lib.hid (show Bn W0 (w.heap.size) by rw [← hW];exact KpA)
  replace HB := Lib.hid (show Below w.heap.size w W0 by rw [← hW];exact BlA)
  replace hN : N ≤ W0.heap.size := by rw [← hW];(first | omega | (simp;done) | (simp;omega))
  have hs0 : w.heap.size ≤ W0.heap.size := by rw [← hW];(first | omega | (simp;done) | (simp;omega))
  have hl_A : w.heap.size < W0.heap.size := by rw [← hW];(first | omega | (simp;done) | (simp;omega))
  replace HA := Lib.hid (HA.out.below HL_W0.out)
  replace HAA := Lib.hid (HAA.out.below HL_W0.out)
  clear HL_W0
  clear hW
  have mk1 := fun w => make_bools n (by omega) w
  refine (dcheck_any (N := N) _ n _ q _ _ _ _ _ _ _ L al _ hN HA.out HAA.out hL 0 HC.out).mono ?_
  rintro e wa ⟨rfl,hb⟩
  have hs_wa : W0.heap.size ≤ wa.heap.size := hb.size
  replace k_A_0 : wa.cell? ⟨w.heap.size,0,none⟩ = some (.bool s2) := (hb.cell (p := ⟨w.heap.size,0,none⟩) hl_A).trans k_A_0
  replace k_A_1 : wa.cell? ⟨w.heap.size,1,none⟩ = some (.slice a2 na2 ca2) := (hb.cell (p := ⟨w.heap.size,1,none⟩) hl_A).trans k_A_1
  replace k_A_2 : wa.cell? ⟨w.heap.size,2,none⟩ = some (.slice d2 nd2 cd2) := (hb.cell (p := ⟨w.heap.size,2,none⟩) hl_A).trans k_A_2
  replace f_A : ∀ o,wa.frozen? ⟨w.heap.size,o,none⟩ = false := fun o => (hb.frozen (p := ⟨w.heap.size,o,none⟩) hl_A).trans (f_A o)
  replace HX_A := Lib.hid (HX_A.out.below hb)
  replace HB := Lib.hid (HB.out.trans (hb.mono hs0))
  replace hN : N ≤ wa.heap.size := Nat.le_trans hN hb.size
  replace hs0 : w.heap.size ≤ wa.heap.size := Nat.le_trans hs0 hb.size
  replace hl_A : w.heap.size < wa.heap.size := Nat.lt_of_lt_of_le hl_A hb.size
  replace HA := Lib.hid (HA.out.below hb)
  replace HAA := Lib.hid (HAA.out.below hb)
  clear hb
  go_wp2_with fail
  have hwa : w.heap.size < wa.heap.size := hl_A
  go_loopw [8,21] (fun _ i wr => ∃ k : Nat,k ≤ n ∧ i = .int .i64 k ∧ Rw wr wa.heap.size 4 n (fun j => .bool (decide (j < k) && bonQ q n al j)) ∧ Below wa.heap.size wa wr) (fun _ i _ => n - (intOf i).toNat)
  case atStart => exact ⟨0,Nat.zero_le _,rfl,(World.rowIs_made wa (.bool false) n 4).congr (fun j hj => by simp),(Below.refl _ _).alloc (Nat.le_refl _) _⟩
  case round =>
    obtain ⟨k,hk,rfl,hrow,hbel⟩ := hrel
    have HRW := Lib.hid hrow
    clear hrow
    have HBW := Lib.hid hbel
    have hsz := hbel.size
    have hlr := World.rowIs.lt HRW.out
    have hl_A' : w.heap.size < wr.heap.size := Nat.lt_of_lt_of_le hl_A hbel.size
    have k_A_0' : wr.cell? ⟨w.heap.size,0,none⟩ = some (.bool s2) := (hbel.cell (p := ⟨w.heap.size,0,none⟩) hl_A).trans k_A_0
    have k_A_1' : wr.cell? ⟨w.heap.size,1,none⟩ = some (.slice a2 na2 ca2) := (hbel.cell (p := ⟨w.heap.size,1,none⟩) hl_A).trans k_A_1
    have k_A_2' : wr.cell? ⟨w.heap.size,2,none⟩ = some (.slice d2 nd2 cd2) := (hbel.cell (p := ⟨w.heap.size,2,none⟩) hl_A).trans k_A_2
    have f_A' : ∀ o,wr.frozen? ⟨w.heap.size,o,none⟩ = false := fun o => (hbel.frozen (p := ⟨w.heap.size,o,none⟩) hl_A).trans (f_A o)
    have HX_A' := Lib.hid (HX_A.out.below hbel)
    clear hl_A f_A HX_A k_A_0 k_A_1 k_A_2
    have hl_A := hl_A'
    have f_A := f_A'
    have HX_A := HX_A'
    have k_A_0 := k_A_0'
    have k_A_1 := k_A_1'
    have k_A_2 := k_A_2'
    clear hl_A' f_A' HX_A' k_A_0' k_A_1' k_A_2'
    have HA2 := Lib.hid (HA.out.below hbel)
    have HAA2 := Lib.hid (HAA.out.below hbel)
    have HB2 := Lib.hid (HB.out.trans (hbel.mono hs0))
    have hN2 : N ≤ wr.heap.size := by omega
    have hs2 : w.heap.size ≤ wr.heap.size := by omega
    clear HA HAA HB hN hs0 hbel
    have HA := HA2
    have HAA := HAA2
    have HB := HB2
    have hN := hN2
    have hs0 := hs2
    clear HA2 HAA2 HB2 hN2 hs2
    by_cases hkn : k < n
    · obtain ⟨b0,off,rfl,hc⟩ := HA.out.2.2 (by omega)
      obtain ⟨sk,ra,rn,rc,da,dn,dc,g0,g1,g2,hrt⟩ := hc k hkn
      have HR := Lib.hid hrt
      clear hc hrt HA
      obtain ⟨v,hv⟩ : ∃ v,bonQ q n al k = v := ⟨_,rfl⟩
      have HV := Lib.hid hv
      have HV2 := Lib.hid (show decide (q k * ((n : Nat) : Rat) ≤ al) = v from hv)
      clear hv
      go_wp2_with fail
      refine calls_name fun W1 hW => ?_
      have HL_W1 := Lib.hid (show Below wr.heap.size wr W1 by rw [← hW];exact BlA)
      have hs_W1 : wr.heap.size ≤ W1.heap.size := by rw [← hW];(first | omega | (simp;done) | (simp;omega))
      have hd_A_P : w.heap.size < wr.heap.size := by omega
      have HK_W1 := Lib.hid (show Kp N wr W1 by rw [← hW];exact KpA)
      have HBW_W1 := Lib.hid (show Below wa.heap.size wa W1 by rw [← hW];exact BlA)
      replace k_A_0 : W1.cell? ⟨w.heap.size,0,none⟩ = some (.bool s2) := (HL_W1.out.cell (p := ⟨w.heap.size,0,none⟩) hl_A).trans k_A_0
      replace k_A_1 : W1.cell? ⟨w.heap.size,1,none⟩ = some (.slice a2 na2 ca2) := (HL_W1.out.cell (p := ⟨w.heap.size,1,none⟩) hl_A).trans k_A_1
      replace k_A_2 : W1.cell? ⟨w.heap.size,2,none⟩ = some (.slice d2 nd2 cd2) := (HL_W1.out.cell (p := ⟨w.heap.size,2,none⟩) hl_A).trans k_A_2
      replace f_A : ∀ o,W1.frozen? ⟨w.heap.size,o,none⟩ = false := fun o => (HL_W1.out.frozen (p := ⟨w.heap.size,o,none⟩) hl_A).trans (f_A o)
      replace HX_A := Lib.hid (show Bn W1 (w.heap.size) by rw [← hW];exact KpA)
      have k_P_0 : W1.cell? ⟨wr.heap.size,0,none⟩ = some (.bool sk) := by rw [← hW];(first | (go_simp;done) | (simp;done) | (simp [go_sem];done) | (simp [go_sem,k_A_0,k_A_1,k_A_2,f_A,hl_A];done))
      have k_P_1 : W1.cell? ⟨wr.heap.size,1,none⟩ = some (.slice ra rn rc) := by rw [← hW];(first | (go_simp;done) | (simp;done) | (simp [go_sem];done) | (simp [go_sem,k_A_0,k_A_1,k_A_2,f_A,hl_A];done))
      have k_P_2 : W1.cell? ⟨wr.heap.size,2,none⟩ = some (.slice da dn dc) := by rw [← hW];(first | (go_simp;done) | (simp;done) | (simp [go_sem];done) | (simp [go_sem,k_A_0,k_A_1,k_A_2,f_A,hl_A];done))
      have f_P : ∀ o,W1.frozen? ⟨wr.heap.size,o,none⟩ = false := by intro o;rw [← hW];(first | (go_simp;done) | (simp;done) | (simp [go_sem];done) | (simp [go_sem,k_A_0,k_A_1,k_A_2,f_A,hl_A];done))
      have HX_P := Lib.hid (show Bn W1 (wr.heap.size) by rw [← hW];exact KpA)
      replace HR := Lib.hid (HR.out.keep HK_W1.out)
      replace HB := Lib.hid (show Below w.heap.size w W1 by rw [← hW];exact BlA)
      replace hN : N ≤ W1.heap.size := by rw [← hW];(first | omega | (simp;done) | (simp;omega))
      replace hs0 : w.heap.size ≤ W1.heap.size := by rw [← hW];(first | omega | (simp;done) | (simp;omega))
      replace hl_A : w.heap.size < W1.heap.size := by rw [← hW];(first | omega | (simp;done) | (simp;omega))
      have hl_P : wr.heap.size < W1.heap.size := by rw [← hW];(first | omega | (simp;done) | (simp;omega))
      replace HAA := Lib.hid (HAA.out.below HL_W1.out)
      replace HRW := Lib.hid (HRW.out.below HL_W1.out)
      clear HL_W1
      clear hW HK_W1
      clear HBW
      refine (dwithin_any (N := N) _ _ _ _ _ _ _ _ _ _ _ _ _ _ L n (q k) al _ hN HR.out HAA.out hL (by omega) v HV2.out).mono ?_
      rintro e wb ⟨rfl,hb⟩
      have HBW := Lib.hid (HBW_W1.out.trans (hb.mono (by omega)))
      have hs_wb : W1.heap.size ≤ wb.heap.size := hb.size
      replace k_A_0 : wb.cell? ⟨w.heap.size,0,none⟩ = some (.bool s2) := (hb.cell (p := ⟨w.heap.size,0,none⟩) hl_A).trans k_A_0
      replace k_A_1 : wb.cell? ⟨w.heap.size,1,none⟩ = some (.slice a2 na2 ca2) := (hb.cell (p := ⟨w.heap.size,1,none⟩) hl_A).trans k_A_1
      replace k_A_2 : wb.cell? ⟨w.heap.size,2,none⟩ = some (.slice d2 nd2 cd2) := (hb.cell (p := ⟨w.heap.size,2,none⟩) hl_A).trans k_A_2
      replace f_A : ∀ o,wb.frozen? ⟨w.heap.size,o,none⟩ = false := fun o => (hb.frozen (p := ⟨w.heap.size,o,none⟩) hl_A).trans (f_A o)
      replace HX_A := Lib.hid (HX_A.out.below hb)
      replace k_P_0 : wb.cell? ⟨wr.heap.size,0,none⟩ = some (.bool sk) := (hb.cell (p := ⟨wr.heap.size,0,none⟩) hl_P).trans k_P_0
      replace k_P_1 : wb.cell? ⟨wr.heap.size,1,none⟩ = some (.slice ra rn rc) := (hb.cell (p := ⟨wr.heap.size,1,none⟩) hl_P).trans k_P_1
      replace k_P_2 : wb.cell? ⟨wr.heap.size,2,none⟩ = some (.slice da dn dc) := (hb.cell (p := ⟨wr.heap.size,2,none⟩) hl_P).trans k_P_2
      replace f_P : ∀ o,wb.frozen? ⟨wr.heap.size,o,none⟩ = false := fun o => (hb.frozen (p := ⟨wr.heap.size,o,none⟩) hl_P).trans (f_P o)
      replace HX_P := Lib.hid (HX_P.out.below hb)
      replace HR := Lib.hid (HR.out.below hb)
      replace HB := Lib.hid (HB.out.trans (hb.mono hs0))
      replace hN : N ≤ wb.heap.size := Nat.le_trans hN hb.size
      replace hs0 : w.heap.size ≤ wb.heap.size := Nat.le_trans hs0 hb.size
      replace hl_A : w.heap.size < wb.heap.size := Nat.lt_of_lt_of_le hl_A hb.size
      replace hl_P : wr.heap.size < wb.heap.size := Nat.lt_of_lt_of_le hl_P hb.size
      replace HAA := Lib.hid (HAA.out.below hb)
      replace HRW := Lib.hid (HRW.out.below hb)
      clear hb
      have c1 := World.rowIs.cell HRW.out hkn
      have f1 := World.rowIs.frozen HRW.out k
      go_wp2_with fail
      go_roundw
      case rel =>
        refine ⟨k + 1,by omega,by go_num,(World.rowIs.set HRW.out k _).congr (fun j hj => ?_),HBW.out.setCell (Nat.le_refl _) _⟩
        by_cases e : j = k
        · subst e;rw [if_pos rfl,HV.out,decide_eq_true (show j < j + 1 by omega)];rfl
        · rw [if_neg e]
          by_cases e2 : j < k
          · rw [decide_eq_true e2,decide_eq_true (show j < k + 1 by omega)]
          · rw [decide_eq_false e2,decide_eq_false (show ¬ j < k + 1 by omega)]
      case measure => simp [intOf];omega
    · obtain rfl : k = n := by omega
      go_wp2_with fail
      go_ret2
      exact ⟨_,rfl,by omega,hlr,World.rowIs.congr HRW.out (fun j hj => by rw [decide_eq_true hj];rfl),HB.out⟩
theorem cmp_neg (p q : Rat) : cmpQ p q < 0 ↔ p < q := by
  unfold cmpQ
  by_cases h1 : p < q
  · rw [if_pos h1];simp [h1]
  · rw [if_neg h1]
    by_cases h2 : q < p
    · rw [if_pos h2];simp [h1]
    · rw [if_neg h2];simp [h1]
set_option maxHeartbeats 2000000 in
theorem dless_any {N : Nat} (a : Option Addr) (n cap x y bx L : Nat) (q : Nat → Rat) (w : World) (hN : N ≤ w.heap.size) (h : Rs N w a n cap q L) (hL : L ≤ 2097152) (hx : x < n) (hy : y < n) (hc : w.cell? ⟨bx, 0, none⟩ = some (.slice a n cap)) :
    Calls Tryz.prog 39 #[.int .i64 x,.int .i64 y,.pointer (some ⟨bx,0,none⟩)] w fun e w' => ∃ c : Int,e = .returned (.int .i64 c) ∧ Below w.heap.size w w' ∧ (c < 0 ↔ q x < q y) := by
  obtain ⟨b,off,rfl,ho⟩ := h.2.2 (by omega)
  obtain ⟨sx,rx,rnx,rcx,dx,dnx,dcx,gx0,gx1,gx2,hxt⟩ := ho x hx
  obtain ⟨sy,ry,rny,rcy,dy,dny,dcy,gy0,gy1,gy2,hyt⟩ := ho y hy
  have hlb : bx < w.heap.size := World.block_lt_of_cell? w _ hc
  have hle : b < w.heap.size := World.block_lt_of_cell? w _ gx0
  have HX := Lib.hid hxt
  have HY := Lib.hid hyt
  have bc := h.1
  have bm := h.2.1
  unfold maxLen at bm
  clear h ho hxt hyt
  have HB := Lib.hid (Below.refl w.heap.size w)
  have hs0 : w.heap.size ≤ w.heap.size := Nat.le_refl _
  obtain ⟨κ,hκ⟩ : ∃ κ,cmpQ (q x) (q y) = κ := ⟨_,rfl⟩
  have HK := Lib.hid hκ
  clear hκ
  have hxz : (x : Int) < (n : Int) := by omega
  have hyz : (y : Int) < (n : Int) := by omega
  go_enter Tryz.func39,Tryz.ntmps39
  go_wp2_with fail
  go_region_held3 (fun w' => w'.cell? ⟨bx,0,none⟩ = some (.slice (some ⟨b,off,none⟩) n cap) ∧ w'.cell? ⟨b,off + x * 3,none⟩ = some (.bool sx) ∧ w'.cell? ⟨b,off + x * 3 + 1,none⟩ = some (.slice rx rnx rcx) ∧ w'.cell? ⟨b,off + x * 3 + 2,none⟩ = some (.slice dx dnx dcx) ∧ w'.cell? ⟨b,off + y * 3,none⟩ = some (.bool sy) ∧ w'.cell? ⟨b,off + y * 3 + 1,none⟩ = some (.slice ry rny rcy) ∧ w'.cell? ⟨b,off + y * 3 + 2,none⟩ = some (.slice dy dny dcy))
    (first | (go_keep;done) | ((try dsimp only);(repeat' apply And.intro) <;> (first | (go_keep;done) | (exact cell_keep_alloc_drew (by first | omega | (simp;omega)) (by first | assumption | go_simp)) | (exact cell_keep_alloc (by first | omega | (simp;omega)) (by first | assumption | go_simp)) | (rw [cell_set2 _ _ _ _ _ _ _ _ (by omega)];assumption) | (rw [cell_set3 _ _ _ _ _ _ _ _ _ _ (by omega)];assumption))))
    (first
      | (go_at_call 40;refine (rcmp_any (N := N) _ _ _ _ _ _ _ _ _ _ _ _ _ _ L L (q x) (q y) _ (by exact hN) (by exact HX.out) (by exact HY.out) (by omega) (by omega)).mono ?_;rw [HK.out];rintro e wc ⟨rfl,hb⟩;replace hb : Below w.heap.size w wc := (by first | exact hb | exact bel_of_drew hb);have hc' : wc.cell? ⟨bx,0,none⟩ = some (.slice (some ⟨b,off,none⟩) n cap) := (hb.cell (p := ⟨bx,0,none⟩) hlb).trans hc;have gx0' : wc.cell? ⟨b,off + x * 3,none⟩ = some (.bool sx) := (hb.cell (p := ⟨b,off + x * 3,none⟩) hle).trans gx0;have gx1' : wc.cell? ⟨b,off + x * 3 + 1,none⟩ = some (.slice rx rnx rcx) := (hb.cell (p := ⟨b,off + x * 3 + 1,none⟩) hle).trans gx1;have gx2' : wc.cell? ⟨b,off + x * 3 + 2,none⟩ = some (.slice dx dnx dcx) := (hb.cell (p := ⟨b,off + x * 3 + 2,none⟩) hle).trans gx2;have gy0' : wc.cell? ⟨b,off + y * 3,none⟩ = some (.bool sy) := (hb.cell (p := ⟨b,off + y * 3,none⟩) hle).trans gy0;have gy1' : wc.cell? ⟨b,off + y * 3 + 1,none⟩ = some (.slice ry rny rcy) := (hb.cell (p := ⟨b,off + y * 3 + 1,none⟩) hle).trans gy1;have gy2' : wc.cell? ⟨b,off + y * 3 + 2,none⟩ = some (.slice dy dny dcy) := (hb.cell (p := ⟨b,off + y * 3 + 2,none⟩) hle).trans gy2;have hs_wc : w.heap.size ≤ wc.heap.size := hb.size;replace HX := Lib.hid (HX.out.below hb);replace HY := Lib.hid (HY.out.below hb);replace HB := Lib.hid (HB.out.trans (hb.mono hs0));replace hN : N ≤ wc.heap.size := Nat.le_trans hN hb.size;have hs0 : w.heap.size ≤ wc.heap.size := Nat.le_trans hs0 hb.size;clear hb;skip))
  go_wp2_with fail
  go_ret
  exact ⟨_,rfl,HB.out,by rw [← HK.out];exact cmp_neg _ _⟩
theorem rnk_step {q : Nat → Rat} {n : Nat} {d : Nat → Nat} (hp : Prm n d) (hs : Srt (keyT (ltQ q)) 0 n d) {r : Nat} (hr : r < n) {j : Nat} (hj : j < n) : decide (rnk (keyT (ltQ q)) n j < r + 1) = if j = d r then true else decide (rnk (keyT (ltQ q)) n j < r) := by
  obtain ⟨s,hs1,rfl⟩ := hp.surj j hj
  rw [Srt.rnk (ltQ_weak q).ord hp hs hs1]
  by_cases e : s = r
  · subst e;rw [if_pos rfl,decide_eq_true (by omega)]
  · rw [if_neg (fun h => e (hp.inj s r hs1 hr h))]
    by_cases h : s < r
    · rw [decide_eq_true h,decide_eq_true (by omega)]
    · rw [decide_eq_false h,decide_eq_false (by omega)]
set_option maxHeartbeats 8000000 in
set_option maxRecDepth 100000 in
theorem holm_ok {N : Nat} (a : Option Addr) (n cap : Nat) (q : Nat → Rat) (s2 : Bool) (a2 d2 : Option Addr) (na2 ca2 nd2 cd2 L : Nat) (al : Rat) (w : World) (hN : N ≤ w.heap.size) (h : Rs N w a n cap q L) (h2 : Rt N w s2 a2 na2 ca2 d2 nd2 cd2 al L) (hL : L ≤ 2097152) (hc : chkC q n al = 0) :
    Calls Tryz.prog 17 #[.slice a n cap,.agg #[.bool s2,.slice a2 na2 ca2,.slice d2 nd2 cd2]] w (BlsPost w n (holQ q n al)) := by
  have HC := Lib.hid hc
  obtain ⟨h60,hpr,_⟩ := chk_ok hc
  have HGE : Hid (∀ i,i < n → 0 ≤ q i) := Lib.hid (fun i hi => by have := hpr i hi;unfold prb at this;rw [decide_eq_true_eq] at this;exact this.1)
  clear hc hpr
  have HAw := Lib.hid h
  have HA := Lib.hid h
  have HAA := Lib.hid h2
  have bc := h.1
  have bm := h.2.1
  unfold maxLen at bm
  clear h h2
  have hN0 := hN
  have HB := Lib.hid (Below.refl w.heap.size w)
  go_enter Tryz.func17,Tryz.ntmps17
  go_wp2_with fail
  refine calls_name fun W0 hW => ?_
  have hs_W0 : w.heap.size ≤ W0.heap.size := by rw [← hW];(first | omega | (simp;done) | (simp;omega))
  have HL_W0 := Lib.hid (show Below w.heap.size w W0 by rw [← hW];exact BlA)
  have k_S_0 : W0.cell? ⟨w.heap.size,0,none⟩ = some (.slice a n cap) := by rw [← hW];(first | (go_simp;done) | (simp;done) | (simp [go_sem];done) | (simp [go_sem];done))
  have f_S : ∀ o,W0.frozen? ⟨w.heap.size,o,none⟩ = false := by intro o;rw [← hW];(first | (go_simp;done) | (simp;done) | (simp [go_sem];done) | (simp [go_sem];done))
  have HX_S := Lib.hid (show Bn W0 (w.heap.size) by rw [← hW];exact KpA)
  have k_A_0 : W0.cell? ⟨w.heap.size + 1,0,none⟩ = some (.bool s2) := by rw [← hW];(first | (go_simp;done) | (simp;done) | (simp [go_sem];done) | (simp [go_sem];done))
  have k_A_1 : W0.cell? ⟨w.heap.size + 1,1,none⟩ = some (.slice a2 na2 ca2) := by rw [← hW];(first | (go_simp;done) | (simp;done) | (simp [go_sem];done) | (simp [go_sem];done))
  have k_A_2 : W0.cell? ⟨w.heap.size + 1,2,none⟩ = some (.slice d2 nd2 cd2) := by rw [← hW];(first | (go_simp;done) | (simp;done) | (simp [go_sem];done) | (simp [go_sem];done))
  have f_A : ∀ o,W0.frozen? ⟨w.heap.size + 1,o,none⟩ = false := by intro o;rw [← hW];(first | (go_simp;done) | (simp;done) | (simp [go_sem];done) | (simp [go_sem];done))
  have HX_A := Lib.hid (show Bn W0 (w.heap.size + 1) by rw [← hW];exact KpA)
  replace HB := Lib.hid (show Below w.heap.size w W0 by rw [← hW];exact BlA)
  replace hN : N ≤ W0.heap.size := by rw [← hW];(first | omega | (simp;done) | (simp;omega))
  have hs0 : w.heap.size ≤ W0.heap.size := by rw [← hW];(first | omega | (simp;done) | (simp;omega))
  have hl_S : w.heap.size < W0.heap.size := by rw [← hW];(first | omega | (simp;done) | (simp;omega))
  have hl_A : w.heap.size + 1 < W0.heap.size := by rw [← hW];(first | omega | (simp;done) | (simp;omega))
  replace HA := Lib.hid (HA.out.below HL_W0.out)
  replace HAA := Lib.hid (HAA.out.below HL_W0.out)
  clear HL_W0
  clear hW
  have mk1 := fun w => make_intsD n (by omega) w
  have mk2 := fun w => make_bools n (by omega) w
  refine (dcheck_any (N := N) _ n _ q _ _ _ _ _ _ _ L al _ hN HA.out HAA.out hL 0 HC.out).mono ?_
  rintro e wa ⟨rfl,hb⟩
  have hs_wa : W0.heap.size ≤ wa.heap.size := hb.size
  replace k_S_0 : wa.cell? ⟨w.heap.size,0,none⟩ = some (.slice a n cap) := (hb.cell (p := ⟨w.heap.size,0,none⟩) hl_S).trans k_S_0
  replace f_S : ∀ o,wa.frozen? ⟨w.heap.size,o,none⟩ = false := fun o => (hb.frozen (p := ⟨w.heap.size,o,none⟩) hl_S).trans (f_S o)
  replace HX_S := Lib.hid (HX_S.out.below hb)
  replace k_A_0 : wa.cell? ⟨w.heap.size + 1,0,none⟩ = some (.bool s2) := (hb.cell (p := ⟨w.heap.size + 1,0,none⟩) hl_A).trans k_A_0
  replace k_A_1 : wa.cell? ⟨w.heap.size + 1,1,none⟩ = some (.slice a2 na2 ca2) := (hb.cell (p := ⟨w.heap.size + 1,1,none⟩) hl_A).trans k_A_1
  replace k_A_2 : wa.cell? ⟨w.heap.size + 1,2,none⟩ = some (.slice d2 nd2 cd2) := (hb.cell (p := ⟨w.heap.size + 1,2,none⟩) hl_A).trans k_A_2
  replace f_A : ∀ o,wa.frozen? ⟨w.heap.size + 1,o,none⟩ = false := fun o => (hb.frozen (p := ⟨w.heap.size + 1,o,none⟩) hl_A).trans (f_A o)
  replace HX_A := Lib.hid (HX_A.out.below hb)
  replace HB := Lib.hid (HB.out.trans (hb.mono hs0))
  replace hN : N ≤ wa.heap.size := Nat.le_trans hN hb.size
  replace hs0 : w.heap.size ≤ wa.heap.size := Nat.le_trans hs0 hb.size
  replace hl_S : w.heap.size < wa.heap.size := Nat.lt_of_lt_of_le hl_S hb.size
  replace hl_A : w.heap.size + 1 < wa.heap.size := Nat.lt_of_lt_of_le hl_A hb.size
  replace HA := Lib.hid (HA.out.below hb)
  replace HAA := Lib.hid (HAA.out.below hb)
  clear hb
  go_wp2_with fail
  have hwa : w.heap.size + 1 < wa.heap.size := hl_A
  go_loopw [8,23] (fun _ i wr => ∃ k : Nat,k ≤ n ∧ i = .int .i64 k ∧ Rw wr wa.heap.size 3 n (fun j => .int .i64 ((if j < k then j else 0 : Nat) : Int)) ∧ Below wa.heap.size wa wr) (fun _ i _ => n - (intOf i).toNat)
  case atStart => exact ⟨0,Nat.zero_le _,rfl,(World.rowIs_made wa (.int .i64 0) n 3).congr (fun j hj => by simp),(Below.refl _ _).alloc (Nat.le_refl _) _⟩
  case round =>
    obtain ⟨k,hk,rfl,hrow,hbel⟩ := hrel
    have HRW := Lib.hid hrow
    have HBW := Lib.hid hbel
    clear hrow
    have hsz := hbel.size
    have hlr := World.rowIs.lt HRW.out
    by_cases hkn : k < n
    · have c1 := World.rowIs.cell HRW.out hkn
      have f1 := World.rowIs.frozen HRW.out k
      clear hbel
      go_wp2_with fail
      go_roundw
      case rel =>
        refine ⟨k + 1,by omega,by go_num,(World.rowIs.set HRW.out k _).congr (fun j hj => ?_),HBW.out.setCell (Nat.le_refl _) _⟩
        by_cases e : j = k
        · rw [if_pos e,if_pos (by omega),e]
        · rw [if_neg e]
          by_cases e2 : j < k
          · rw [if_pos e2,if_pos (by omega)]
          · rw [if_neg e2,if_neg (by omega)]
      case measure => simp [intOf];omega
    · obtain rfl : n = k := by omega
      have HBX := Lib.hid ((hbel.cell (p := ⟨w.heap.size,0,none⟩) hl_S).trans k_S_0)
      have HBR := Lib.hid (HB.out.trans (hbel.mono hs0))
      have SW0 : Hid (Sw wa.heap.size n n (fun i => i) wr wr) := Lib.hid ⟨Skp.refl _ _,rowIs_riD HRW.out,fun i hi => by rw [World.rowIs.cell HRW.out hi,if_pos hi],fun i hi => hi⟩
      have CMP : Hid (Cmp wa.heap.size n (keyT (ltQ q)) 39 #[.pointer (some ⟨w.heap.size,0,none⟩)] wr) := Lib.hid (by
        intro W x y hsk hyx hxk
        have hb0 : Below w.heap.size wr W := ⟨hsk.1.os,hsk.1.tape,hsk.1.output,hsk.1.size,fun b hb => hsk.2 b (by omega) (by omega)⟩
        have hbx : W.cell? ⟨w.heap.size,0,none⟩ = some (.slice a n cap) := (World.cell?_of_block (w := wr) (a := ⟨w.heap.size,0,none⟩) (hsk.2 w.heap.size (by omega) (by omega))).trans HBX.out
        refine (dless_any (N := N) a n cap x y w.heap.size L q W (by have := hb0.size;omega) (HAw.out.below (HBR.out.trans hb0)) hL hxk (by omega) hbx).mono ?_
        rintro e w' ⟨c,he,hb,hcc⟩
        exact ⟨c,he,hb,by rw [keyT_gt _ hyx];unfold ltQ;simpa using hcc⟩)
      have SRT := Lib.hid (sortStable_any wa.heap.size n n n (keyT (ltQ q)) (ltQ_weak q).ord 39 #[.pointer (some ⟨w.heap.size,0,none⟩)] (fun i => i) wr wr (by intro args w;rfl) CMP.out SW0.out (fun i j _ h _ => h) h60)
      clear CMP SW0 HRW HBX HBR hbel hlr
      go_wp2_with fail
      refine SRT.out.mono ?_
      rintro e w2 ⟨rfl,d,hsw,hrg,hst⟩
      have bw2 : Below wa.heap.size wr w2 := ⟨hsw.sk.1.os,hsw.sk.1.tape,hsw.sk.1.output,hsw.sk.1.size,fun b hb => hsw.sk.2 b (by omega) (by omega)⟩
      have BW2 : Below wa.heap.size wa w2 := HBW.out.trans bw2
      have HDK := Lib.hid hsw.cell
      have HDL := Lib.hid hsw.lt
      have hg2 := hsw.bk.lt
      have HPM := Lib.hid (Prm.of_srt (ltQ_weak q).ord hrg hst)
      have HST := Lib.hid hst
      clear hsw hrg hst SRT HBW bw2
      have hl_S' : w.heap.size < w2.heap.size := Nat.lt_of_lt_of_le hl_S BW2.size
      have k_S_0' : w2.cell? ⟨w.heap.size,0,none⟩ = some (.slice a n cap) := (BW2.cell (p := ⟨w.heap.size,0,none⟩) hl_S).trans k_S_0
      have f_S' : ∀ o,w2.frozen? ⟨w.heap.size,o,none⟩ = false := fun o => (BW2.frozen (p := ⟨w.heap.size,o,none⟩) hl_S).trans (f_S o)
      have HX_S' := Lib.hid (HX_S.out.below BW2)
      clear hl_S f_S HX_S k_S_0
      have hl_S := hl_S'
      have f_S := f_S'
      have HX_S := HX_S'
      have k_S_0 := k_S_0'
      clear hl_S' f_S' HX_S' k_S_0'
      have hl_A' : w.heap.size + 1 < w2.heap.size := Nat.lt_of_lt_of_le hl_A BW2.size
      have k_A_0' : w2.cell? ⟨w.heap.size + 1,0,none⟩ = some (.bool s2) := (BW2.cell (p := ⟨w.heap.size + 1,0,none⟩) hl_A).trans k_A_0
      have k_A_1' : w2.cell? ⟨w.heap.size + 1,1,none⟩ = some (.slice a2 na2 ca2) := (BW2.cell (p := ⟨w.heap.size + 1,1,none⟩) hl_A).trans k_A_1
      have k_A_2' : w2.cell? ⟨w.heap.size + 1,2,none⟩ = some (.slice d2 nd2 cd2) := (BW2.cell (p := ⟨w.heap.size + 1,2,none⟩) hl_A).trans k_A_2
      have f_A' : ∀ o,w2.frozen? ⟨w.heap.size + 1,o,none⟩ = false := fun o => (BW2.frozen (p := ⟨w.heap.size + 1,o,none⟩) hl_A).trans (f_A o)
      have HX_A' := Lib.hid (HX_A.out.below BW2)
      clear hl_A f_A HX_A k_A_0 k_A_1 k_A_2
      have hl_A := hl_A'
      have f_A := f_A'
      have HX_A := HX_A'
      have k_A_0 := k_A_0'
      have k_A_1 := k_A_1'
      have k_A_2 := k_A_2'
      clear hl_A' f_A' HX_A' k_A_0' k_A_1' k_A_2'
      have HA2 := Lib.hid (HA.out.below BW2)
      have HAA2 := Lib.hid (HAA.out.below BW2)
      have HB2 := Lib.hid (HB.out.trans (BW2.mono hs0))
      have hN2 : N ≤ w2.heap.size := by omega
      have hs2 : w.heap.size ≤ w2.heap.size := by omega
      clear HA HAA HB hN hs0 BW2
      have HA := HA2
      have HAA := HAA2
      have HB := HB2
      have hN := hN2
      have hs0 := hs2
      clear HA2 HAA2 HB2 hN2 hs2
      go_wp2_with fail
      go_loopw [10,11,39] (fun _ _ i wr => ∃ r : Nat,r ≤ n ∧ i = .int .i64 r ∧ Rw wr w2.heap.size 4 n (fun j => .bool (decide (rnk (keyT (ltQ q)) n j < r))) ∧ Hid (∀ k,k < r → q (d k) * ((n - k : Nat) : Rat) ≤ al) ∧ Below w2.heap.size w2 wr) (fun _ _ i _ => n - (intOf i).toNat)
      case atStart => exact ⟨0,Nat.zero_le _,rfl,(World.rowIs_made w2 (.bool false) n 4).congr (fun j hj => by simp),Lib.hid (fun k hk => by omega),(Below.refl _ _).alloc (Nat.le_refl _) _⟩
      case round =>
        obtain ⟨r,hr,rfl,hrow,hin,hbel⟩ := hrel
        have HRW := Lib.hid hrow
        clear hrow
        have HBZ := Lib.hid hbel
        have hsz2 := hbel.size
        have hlr := World.rowIs.lt HRW.out
        have hl_S' : w.heap.size < wr.heap.size := Nat.lt_of_lt_of_le hl_S hbel.size
        have k_S_0' : wr.cell? ⟨w.heap.size,0,none⟩ = some (.slice a n cap) := (hbel.cell (p := ⟨w.heap.size,0,none⟩) hl_S).trans k_S_0
        have f_S' : ∀ o,wr.frozen? ⟨w.heap.size,o,none⟩ = false := fun o => (hbel.frozen (p := ⟨w.heap.size,o,none⟩) hl_S).trans (f_S o)
        have HX_S' := Lib.hid (HX_S.out.below hbel)
        clear hl_S f_S HX_S k_S_0
        have hl_S := hl_S'
        have f_S := f_S'
        have HX_S := HX_S'
        have k_S_0 := k_S_0'
        clear hl_S' f_S' HX_S' k_S_0'
        have hl_A' : w.heap.size + 1 < wr.heap.size := Nat.lt_of_lt_of_le hl_A hbel.size
        have k_A_0' : wr.cell? ⟨w.heap.size + 1,0,none⟩ = some (.bool s2) := (hbel.cell (p := ⟨w.heap.size + 1,0,none⟩) hl_A).trans k_A_0
        have k_A_1' : wr.cell? ⟨w.heap.size + 1,1,none⟩ = some (.slice a2 na2 ca2) := (hbel.cell (p := ⟨w.heap.size + 1,1,none⟩) hl_A).trans k_A_1
        have k_A_2' : wr.cell? ⟨w.heap.size + 1,2,none⟩ = some (.slice d2 nd2 cd2) := (hbel.cell (p := ⟨w.heap.size + 1,2,none⟩) hl_A).trans k_A_2
        have f_A' : ∀ o,wr.frozen? ⟨w.heap.size + 1,o,none⟩ = false := fun o => (hbel.frozen (p := ⟨w.heap.size + 1,o,none⟩) hl_A).trans (f_A o)
        have HX_A' := Lib.hid (HX_A.out.below hbel)
        clear hl_A f_A HX_A k_A_0 k_A_1 k_A_2
        have hl_A := hl_A'
        have f_A := f_A'
        have HX_A := HX_A'
        have k_A_0 := k_A_0'
        have k_A_1 := k_A_1'
        have k_A_2 := k_A_2'
        clear hl_A' f_A' HX_A' k_A_0' k_A_1' k_A_2'
        have HA2 := Lib.hid (HA.out.below hbel)
        have HAA2 := Lib.hid (HAA.out.below hbel)
        have HB2 := Lib.hid (HB.out.trans (hbel.mono hs0))
        have hN2 : N ≤ wr.heap.size := by omega
        have hs2 : w.heap.size ≤ wr.heap.size := by omega
        by_cases hrn : r < n
        · have c1 := (hbel.cell (p := ⟨wa.heap.size,r,none⟩) hg2).trans (HDK.out r hrn)
          obtain ⟨x,ex⟩ : ∃ x,d r = x := ⟨_,rfl⟩
          have hx := HDL.out r hrn
          rw [ex] at c1 hx
          have EX := Lib.hid ex
          obtain ⟨M,hM⟩ : ∃ M,n - r = M := ⟨_,rfl⟩
          have hwM : IntKind.i64.wrap ((n : Int) - (r : Int)) = (M : Int) := by rw [show (n : Int) - (r : Int) = (M : Int) by omega];exact wrapN M (by omega)
          have hwM2 : IntKind.i64.wrap (M : Int) = (M : Int) := wrapN M (by omega)
          have hM1 : M ≤ 60 := by omega
          obtain ⟨v,hv⟩ : ∃ v,decide (q x * ((M : Nat) : Rat) ≤ al) = v := ⟨_,rfl⟩
          have HV := Lib.hid hv
          have HM := Lib.hid hM
          clear HA HAA HB hN hs0 hbel hv ex hM
          have HA := HA2
          have HAA := HAA2
          have HB := HB2
          have hN := hN2
          have hs0 := hs2
          clear HA2 HAA2 HB2 hN2 hs2
          have hxz : (x : Int) < (n : Int) := by omega
          obtain ⟨b0,off,rfl,ho⟩ := HA.out.2.2 (by omega)
          obtain ⟨sk,ra,rn,rc,da,dn,dc,g0,g1,g2,hrt⟩ := ho x hx
          have HR := Lib.hid hrt
          have hle0 : b0 < wr.heap.size := World.block_lt_of_cell? wr _ g0
          clear ho hrt HA
          cases v
          · go_wp2_with fail
            go_region_held3 (fun w' => w'.cell? ⟨w.heap.size,0,none⟩ = some (.slice (some ⟨b0,off,none⟩) n cap) ∧ w'.cell? ⟨b0,off + x * 3,none⟩ = some (.bool sk) ∧ w'.cell? ⟨b0,off + x * 3 + 1,none⟩ = some (.slice ra rn rc) ∧ w'.cell? ⟨b0,off + x * 3 + 2,none⟩ = some (.slice da dn dc) ∧ w'.cell? ⟨w.heap.size + 1,0,none⟩ = some (.bool s2) ∧ w'.cell? ⟨w.heap.size + 1,1,none⟩ = some (.slice a2 na2 ca2) ∧ w'.cell? ⟨w.heap.size + 1,2,none⟩ = some (.slice d2 nd2 cd2))
              (first | (go_keep;done) | ((try dsimp only);(repeat' apply And.intro) <;> (first | (go_keep;done) | (exact cell_keep_alloc_drew (by first | omega | (simp;omega)) (by first | assumption | go_simp)) | (exact cell_keep_alloc (by first | omega | (simp;omega)) (by first | assumption | go_simp)) | (rw [cell_set2 _ _ _ _ _ _ _ _ (by omega)];assumption) | (rw [cell_set3 _ _ _ _ _ _ _ _ _ _ (by omega)];assumption))))
              (first
                | (go_at_call 35;refine (dwithin_any (N := N) _ _ _ _ _ _ _ _ _ _ _ _ _ _ L M (q x) al _ (by exact hN) (by exact HR.out) (by exact HAA.out) hL (by omega) false HV.out).mono ?_;rintro e wb ⟨rfl,hb⟩;replace hb : Below wr.heap.size wr wb := (by first | exact hb | exact bel_of_drew hb);have HBZ_wb := Lib.hid (HBZ.out.trans (hb.mono (by omega)));have hlr_wb := Nat.lt_of_lt_of_le hlr hb.size;have g0' : wb.cell? ⟨b0,off + x * 3,none⟩ = some (.bool sk) := (hb.cell (p := ⟨b0,off + x * 3,none⟩) hle0).trans g0;have g1' : wb.cell? ⟨b0,off + x * 3 + 1,none⟩ = some (.slice ra rn rc) := (hb.cell (p := ⟨b0,off + x * 3 + 1,none⟩) hle0).trans g1;have g2' : wb.cell? ⟨b0,off + x * 3 + 2,none⟩ = some (.slice da dn dc) := (hb.cell (p := ⟨b0,off + x * 3 + 2,none⟩) hle0).trans g2;have hs_wb : wr.heap.size ≤ wb.heap.size := hb.size;replace k_S_0 : wb.cell? ⟨w.heap.size,0,none⟩ = some (.slice (some ⟨b0,off,none⟩) n cap) := (hb.cell (p := ⟨w.heap.size,0,none⟩) hl_S).trans k_S_0;replace f_S : ∀ o,wb.frozen? ⟨w.heap.size,o,none⟩ = false := fun o => (hb.frozen (p := ⟨w.heap.size,o,none⟩) hl_S).trans (f_S o);replace HX_S := Lib.hid (HX_S.out.below hb);replace k_A_0 : wb.cell? ⟨w.heap.size + 1,0,none⟩ = some (.bool s2) := (hb.cell (p := ⟨w.heap.size + 1,0,none⟩) hl_A).trans k_A_0;replace k_A_1 : wb.cell? ⟨w.heap.size + 1,1,none⟩ = some (.slice a2 na2 ca2) := (hb.cell (p := ⟨w.heap.size + 1,1,none⟩) hl_A).trans k_A_1;replace k_A_2 : wb.cell? ⟨w.heap.size + 1,2,none⟩ = some (.slice d2 nd2 cd2) := (hb.cell (p := ⟨w.heap.size + 1,2,none⟩) hl_A).trans k_A_2;replace f_A : ∀ o,wb.frozen? ⟨w.heap.size + 1,o,none⟩ = false := fun o => (hb.frozen (p := ⟨w.heap.size + 1,o,none⟩) hl_A).trans (f_A o);replace HX_A := Lib.hid (HX_A.out.below hb);replace HR := Lib.hid (HR.out.below hb);replace HB := Lib.hid (HB.out.trans (hb.mono hs0));replace hN : N ≤ wb.heap.size := Nat.le_trans hN hb.size;replace hs0 : w.heap.size ≤ wb.heap.size := Nat.le_trans hs0 hb.size;replace hl_S : w.heap.size < wb.heap.size := Nat.lt_of_lt_of_le hl_S hb.size;replace hl_A : w.heap.size + 1 < wb.heap.size := Nat.lt_of_lt_of_le hl_A hb.size;replace HAA := Lib.hid (HAA.out.below hb);replace HRW := Lib.hid (HRW.out.below hb);clear hb;skip))
            go_wp2_with fail
            go_ret2
            exact ⟨_,rfl,by omega,hlr_wb,World.rowIs.congr HRW.out (fun j hj => by rw [hol_eq HGE.out HPM.out HST.out hin.out (fun _ => by rw [EX.out,HM.out];exact of_decide_eq_false HV.out) hj]),HB.out⟩
          · go_wp2_with fail
            go_region_held3 (fun w' => w'.cell? ⟨w.heap.size,0,none⟩ = some (.slice (some ⟨b0,off,none⟩) n cap) ∧ w'.cell? ⟨b0,off + x * 3,none⟩ = some (.bool sk) ∧ w'.cell? ⟨b0,off + x * 3 + 1,none⟩ = some (.slice ra rn rc) ∧ w'.cell? ⟨b0,off + x * 3 + 2,none⟩ = some (.slice da dn dc) ∧ w'.cell? ⟨w.heap.size + 1,0,none⟩ = some (.bool s2) ∧ w'.cell? ⟨w.heap.size + 1,1,none⟩ = some (.slice a2 na2 ca2) ∧ w'.cell? ⟨w.heap.size + 1,2,none⟩ = some (.slice d2 nd2 cd2))
              (first | (go_keep;done) | ((try dsimp only);(repeat' apply And.intro) <;> (first | (go_keep;done) | (exact cell_keep_alloc_drew (by first | omega | (simp;omega)) (by first | assumption | go_simp)) | (exact cell_keep_alloc (by first | omega | (simp;omega)) (by first | assumption | go_simp)) | (rw [cell_set2 _ _ _ _ _ _ _ _ (by omega)];assumption) | (rw [cell_set3 _ _ _ _ _ _ _ _ _ _ (by omega)];assumption))))
              (first
                | (go_at_call 35;refine (dwithin_any (N := N) _ _ _ _ _ _ _ _ _ _ _ _ _ _ L M (q x) al _ (by exact hN) (by exact HR.out) (by exact HAA.out) hL (by omega) true HV.out).mono ?_;rintro e wb ⟨rfl,hb⟩;replace hb : Below wr.heap.size wr wb := (by first | exact hb | exact bel_of_drew hb);have HBZ_wb := Lib.hid (HBZ.out.trans (hb.mono (by omega)));have hlr_wb := Nat.lt_of_lt_of_le hlr hb.size;have g0' : wb.cell? ⟨b0,off + x * 3,none⟩ = some (.bool sk) := (hb.cell (p := ⟨b0,off + x * 3,none⟩) hle0).trans g0;have g1' : wb.cell? ⟨b0,off + x * 3 + 1,none⟩ = some (.slice ra rn rc) := (hb.cell (p := ⟨b0,off + x * 3 + 1,none⟩) hle0).trans g1;have g2' : wb.cell? ⟨b0,off + x * 3 + 2,none⟩ = some (.slice da dn dc) := (hb.cell (p := ⟨b0,off + x * 3 + 2,none⟩) hle0).trans g2;have hs_wb : wr.heap.size ≤ wb.heap.size := hb.size;replace k_S_0 : wb.cell? ⟨w.heap.size,0,none⟩ = some (.slice (some ⟨b0,off,none⟩) n cap) := (hb.cell (p := ⟨w.heap.size,0,none⟩) hl_S).trans k_S_0;replace f_S : ∀ o,wb.frozen? ⟨w.heap.size,o,none⟩ = false := fun o => (hb.frozen (p := ⟨w.heap.size,o,none⟩) hl_S).trans (f_S o);replace HX_S := Lib.hid (HX_S.out.below hb);replace k_A_0 : wb.cell? ⟨w.heap.size + 1,0,none⟩ = some (.bool s2) := (hb.cell (p := ⟨w.heap.size + 1,0,none⟩) hl_A).trans k_A_0;replace k_A_1 : wb.cell? ⟨w.heap.size + 1,1,none⟩ = some (.slice a2 na2 ca2) := (hb.cell (p := ⟨w.heap.size + 1,1,none⟩) hl_A).trans k_A_1;replace k_A_2 : wb.cell? ⟨w.heap.size + 1,2,none⟩ = some (.slice d2 nd2 cd2) := (hb.cell (p := ⟨w.heap.size + 1,2,none⟩) hl_A).trans k_A_2;replace f_A : ∀ o,wb.frozen? ⟨w.heap.size + 1,o,none⟩ = false := fun o => (hb.frozen (p := ⟨w.heap.size + 1,o,none⟩) hl_A).trans (f_A o);replace HX_A := Lib.hid (HX_A.out.below hb);replace HR := Lib.hid (HR.out.below hb);replace HB := Lib.hid (HB.out.trans (hb.mono hs0));replace hN : N ≤ wb.heap.size := Nat.le_trans hN hb.size;replace hs0 : w.heap.size ≤ wb.heap.size := Nat.le_trans hs0 hb.size;replace hl_S : w.heap.size < wb.heap.size := Nat.lt_of_lt_of_le hl_S hb.size;replace hl_A : w.heap.size + 1 < wb.heap.size := Nat.lt_of_lt_of_le hl_A hb.size;replace HAA := Lib.hid (HAA.out.below hb);replace HRW := Lib.hid (HRW.out.below hb);clear hb;skip))
            have c2 := World.rowIs.cell HRW.out hx
            have f2 := World.rowIs.frozen HRW.out x
            go_wp2_with fail
            go_roundw
            case rel =>
              refine ⟨r + 1,by omega,by go_num,(World.rowIs.set HRW.out x _).congr (fun j hj => ?_),Lib.hid (fun k hk => ?_),HBZ_wb.out.setCell (Nat.le_refl _) _⟩
              · rw [rnk_step HPM.out HST.out hrn hj,EX.out]
                by_cases e : j = x
                · rw [if_pos e,if_pos e]
                · rw [if_neg e,if_neg e]
              · rcases Nat.lt_or_ge k r with h | h
                · exact hin.out k h
                · obtain rfl : k = r := by omega
                  rw [EX.out,HM.out];exact of_decide_eq_true HV.out
            case measure => simp [intOf];omega
        · obtain rfl : n = r := by omega
          go_wp2_with fail
          go_ret2
          exact ⟨_,rfl,by omega,hlr,World.rowIs.congr HRW.out (fun j hj => by rw [hol_eq HGE.out HPM.out HST.out hin.out (fun h => absurd h (by omega)) hj]),HB2.out⟩
end Go.Proofs.YtnillajhhimeiaaGreatDoor
