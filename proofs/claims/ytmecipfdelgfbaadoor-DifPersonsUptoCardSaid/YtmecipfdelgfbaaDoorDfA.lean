/- Contracts of dif.of and share. No condition but the numbers' size. -/
import Derived.Test.YtmecipfdelgfbaaDoorJoB
namespace Go.Proofs.YtmecipfdelgfbaaDoor
open Go.RowKit

set_option maxHeartbeats 2000000 in
theorem fof_any {N : Nat} (n d : Int) (w : World) (hN : N ≤ w.heap.size) (n1 : -9223372036854775808 ≤ n) (n2 : n ≤ 9223372036854775807) (d1 : -9223372036854775808 ≤ d) (d2 : d ≤ 9223372036854775807) (p : Rat) (hp : (n : Rat) / (d : Rat) = p) :
    Calls Tryd.prog 25 #[.int .i64 n, .int .i64 d] w (RatPost N w p) := by
  have HP := Lib.hid ((mk_div n d).trans hp)
  clear hp
  go_enter Tryd.func25, Tryd.ntmps25
  go_wp2_with fail
  refine (rof_any (N := N) n d _ (by simp; omega) n1 n2 d1 d2 p HP.out).mono ?_
  rintro e wa ⟨rx, cx, rx2, cx2, rfl, hn, hn', hb⟩
  obtain ⟨hcwa, hfwa⟩ := bcell hb
  have hzwa0 : w.heap.size < wa.heap.size := by have := hb.size; (try simp at this); omega
  have HBwa := Lib.hid hb
  have HNwa := Lib.hid hn
  have HN'wa := Lib.hid hn'
  clear hb hn hn'
  have HX := Lib.hid ((Bx.new w #[.bool false, .slice none 0 0, .slice none 0 0] 28).below HBwa.out)
  have HF := Lib.hid (fun v0 v1 v2 => fin3 hN (Nat.le_refl _) HX.out HNwa.out HN'wa.out ((bel1 w _).trans (HBwa.out.mono (by first | omega | (simp; done) | (simp; omega)))) v0 v1 v2)
  go_wp2_with fail
  exact bodyPost_ret (v := .agg #[.bool (decide ((p).num < 0)), .slice rx (nlen (p).num.natAbs) cx, .slice rx2 (nlen (p).den) cx2]) (by simp [results, Tryd.results25, go_sem, hcwa, hzwa0]) rfl ⟨_, _, _, _, rfl, (HF.out _ _ _).1.alloc _, (HF.out _ _ _).2.1.alloc _, (HF.out _ _ _).2.2.trans ((bel1 _ _).mono (by simp; omega))⟩

def FshareJ (σ : Int) (s : Bool) (a d : Option Addr) (na ca nd cd : Nat) (W : World) (z0 : Act) (L : Nat → Bool) (z1 : Act) (w : World) : Prop :=
  ∃ u3 u4 u5 u6 u7 u8 u9 u10 u11 u2, z1 = ((((((((((z0.put (some 3) u3).put (some 4) u4).put (some 5) u5).put (some 6) u6).put (some 7) u7).put (some 8) u8).put (some 9) u9).put (some 10) u10).put (some 11) u11).put (some 2) u2) ∧ Since W w ∧ (L 0 = true → u3 = .agg #[.bool s, .slice a na ca, .slice d nd cd]) ∧ (L 1 = true → u4 = .int .i64 σ) ∧ (L 2 = true → u5 = .bool false) ∧ (L 3 = true → u6 = .bool false) ∧ (L 8 = true → u11 = .bool false) ∧ (L 9 = true → u2 = .bool false)


set_option maxHeartbeats 4000000 in
theorem fshare_any {N : Nat} (s : Bool) (a d : Option Addr) (na ca nd cd L : Nat) (q : Rat) (w : World) (hN : N ≤ w.heap.size) (h : Rt N w s a na ca d nd cd q L) (hL : L ≤ 68719476736) (b : Bool) (hb : prb q = b) :
    Calls Tryd.prog 31 #[.agg #[.bool s, .slice a na ca, .slice d nd cd]] w fun e w' => e = .returned (.bool b) ∧ Below w.heap.size w w' := by
  obtain ⟨p, hp⟩ : ∃ p : Rat, (((1 : Int) : Rat)) / ((1 : Int) : Rat) = p := ⟨_, rfl⟩
  have hp1 : p = 1 := by rw [← hp]; decide +kernel
  have HP := Lib.hid hp
  have HZ := Lib.hid (show rsz p ≤ 1 by rw [hp1]; exact rsz_one)
  obtain ⟨σ, hσ⟩ : ∃ σ, q.num.sign = σ := ⟨_, rfl⟩
  have HSG := Lib.hid hσ
  obtain ⟨κ, hκ⟩ : ∃ κ, cmpQ q p = κ := ⟨_, rfl⟩
  have HK := Lib.hid hκ
  by_cases h0 : q < 0
  · obtain rfl : false = b := by rw [← hb]; unfold prb; rw [decide_eq_false]; grind
    have d0 : decide (0 ≤ σ) = false := by rw [← hσ]; exact sgn_lt q h0
    clear hb h0 hσ hp hp1 hκ HK
    have hN0 := hN
    have HR := Lib.hid h
    clear h
    have HB := Lib.hid (Below.refl w.heap.size w)
    go_enter Tryd.func31, Tryd.ntmps31
    go_wp2_with fail
    refine region_name fun W0 hW => ?_
    have hN_W0 : N ≤ W0.heap.size := by rw [← hW]; (first | omega | (simp; done) | (simp; omega))
    have hs_W0 : w.heap.size ≤ W0.heap.size := by rw [← hW]; (first | omega | (simp; done) | (simp; omega))
    have hs0_W0 : w.heap.size ≤ W0.heap.size := by rw [← hW]; (first | omega | (simp; done) | (simp; omega))
    have hl_P_W0 : w.heap.size < W0.heap.size := by rw [← hW]; (first | omega | (simp; done) | (simp; omega))
    have k_P_0_W0 : W0.cell? ⟨w.heap.size, 0, none⟩ = some (.bool s) := by rw [← hW]; (first | (go_simp; done) | (simp; done) | (simp [go_sem]; done) | (simp [go_sem]; done))
    have k_P_1_W0 : W0.cell? ⟨w.heap.size, 1, none⟩ = some (.slice a na ca) := by rw [← hW]; (first | (go_simp; done) | (simp; done) | (simp [go_sem]; done) | (simp [go_sem]; done))
    have k_P_2_W0 : W0.cell? ⟨w.heap.size, 2, none⟩ = some (.slice d nd cd) := by rw [← hW]; (first | (go_simp; done) | (simp; done) | (simp [go_sem]; done) | (simp [go_sem]; done))
    have f_P_W0 : ∀ o, W0.frozen? ⟨w.heap.size, o, none⟩ = false := by intro o; rw [← hW]; (first | (go_simp; done) | (simp; done) | (simp [go_sem]; done) | (simp [go_sem]; done))
    have HX_P_W0 := Lib.hid (show Bn W0 (w.heap.size) by rw [← hW]; (repeat' (first | with_reducible exact Kp.refl _ _ | with_reducible apply Kp.alloc | with_reducible apply Kp.drew | (with_reducible refine Kp.put ?_ ?_ ?_ _; rotate_left; (focus (first | omega | (simp; done) | (simp; omega))); rotate_left) | (with_reducible refine Bn.new _ _ _ _ ?_ ?_; (focus (first | omega | (simp; done) | (simp; omega))); decide) | with_reducible apply Bn.alloc | with_reducible apply Bn.drew | with_reducible apply Bn.set)))
    have HK_W0 := Lib.hid (show Kp N w W0 by rw [← hW]; (repeat' (first | with_reducible exact Kp.refl _ _ | with_reducible apply Kp.alloc | with_reducible apply Kp.drew | (with_reducible refine Kp.put ?_ ?_ ?_ _; rotate_left; (focus (first | omega | (simp; done) | (simp; omega))); rotate_left) | (with_reducible refine Bn.new _ _ _ _ ?_ ?_; (focus (first | omega | (simp; done) | (simp; omega))); decide) | with_reducible apply Bn.alloc | with_reducible apply Bn.drew | with_reducible apply Bn.set)))
    have HR_W0 := Lib.hid (HR.out.keep HK_W0.out)
    have HB_W0 := Lib.hid (show Below w.heap.size w W0 by rw [← hW]; (repeat' (first | with_reducible exact Below.refl _ _ | with_reducible exact HB.out | (with_reducible refine Below.alloc ?_ ?_ _; rotate_left; (focus (first | omega | (simp; done) | (simp; omega)))) | with_reducible apply Below.drew | (with_reducible refine Below.setCell ?_ ?_ _; rotate_left; (focus (first | omega | (simp; done) | (simp; omega)))))))
    clear hW HK_W0
    clear HR HB hN
    have hN := hN_W0
    have HB := HB_W0
    have hs0 := hs0_W0
    have hl_P := hl_P_W0
    have f_P := f_P_W0
    have HX_P := HX_P_W0
    have k_P_0 := k_P_0_W0
    have k_P_1 := k_P_1_W0
    have k_P_2 := k_P_2_W0
    have HR := HR_W0
    clear hN_W0 HB_W0 hs0_W0 hl_P_W0 f_P_W0 HX_P_W0 k_P_0_W0 k_P_1_W0 k_P_2_W0 HR_W0
    refine region_inv2 (by kernel_rfl) (FshareJ σ s a d na ca nd cd (W0)) ?_ ?_ ?_ ?_
    · exact ⟨undef, undef, undef, undef, undef, undef, undef, undef, undef, .bool false, by simp only [Act.put, List.setIfInBounds_toArray, List.set_cons_zero, List.set_cons_succ], Since.drawn _, (fun h => by cases h), (fun h => by cases h), (fun h => by cases h), (fun h => by cases h), (fun h => by cases h), (fun h => by cases h)⟩
    · exact acyc_spec (by kernel_rfl)
    · intro Ls a0 wq i o ho hLi hafter hJ
      obtain ⟨u3, u4, u5, u6, u7, u8, u9, u10, u11, u2, rfl, hS, p0, p1, p2, p3, p8, p9⟩ := hJ
      have hi : i < 10 := (Array.getElem?_eq_some_iff.1 ho).1
      obtain rfl | rfl | rfl | rfl | rfl | rfl | rfl | rfl | rfl | rfl : i = 0 ∨ i = 1 ∨ i = 2 ∨ i = 3 ∨ i = 4 ∨ i = 5 ∨ i = 6 ∨ i = 7 ∨ i = 8 ∨ i = 9 := by omega
      · simp only [List.getElem?_toArray, List.getElem?_cons_zero, Option.some.injEq] at ho
        subst ho
        have c0 := (hS.1.cell (p := ⟨w.heap.size, 0, none⟩) hl_P).trans k_P_0
        have c1 := (hS.1.cell (p := ⟨w.heap.size, 1, none⟩) hl_P).trans k_P_1
        have c2 := (hS.1.cell (p := ⟨w.heap.size, 2, none⟩) hl_P).trans k_P_2
        have P0 := Lib.hid p0
        have P1 := Lib.hid p1
        have P2 := Lib.hid p2
        have P3 := Lib.hid p3
        have P8 := Lib.hid p8
        have P9 := Lib.hid p9
        have HS := Lib.hid hS
        clear hS hLi hafter p0 p1 p2 p3 p8 p9
        simp only [Act.put, List.setIfInBounds_toArray, List.set_cons_zero, List.set_cons_succ]
        go_wp2_with fail
        exact ⟨.agg #[.bool s, .slice a na ca, .slice d nd cd], u4, u5, u6, u7, u8, u9, u10, u11, u2, by simp only [Act.put, List.setIfInBounds_toArray, List.set_cons_zero, List.set_cons_succ], HS.out, (fun _ => rfl), (fun h => by first | rfl | exact P1.out (by simpa using h)), (fun h => by first | rfl | exact P2.out (by simpa using h)), (fun h => by first | rfl | exact P3.out (by simpa using h)), (fun h => by first | rfl | exact P8.out (by simpa using h)), (fun h => by first | rfl | exact P9.out (by simpa using h))⟩
      · simp only [List.getElem?_toArray, List.getElem?_cons_zero, List.getElem?_cons_succ, Option.some.injEq] at ho
        subst ho
        obtain rfl := p0 (hafter ⟨0, .data⟩ (by simp) rfl)
        have P0 := Lib.hid p0
        have P1 := Lib.hid p1
        have P2 := Lib.hid p2
        have P3 := Lib.hid p3
        have P8 := Lib.hid p8
        have P9 := Lib.hid p9
        have HS := Lib.hid hS
        clear hS hLi hafter p0 p1 p2 p3 p8 p9
        simp only [Act.put, List.setIfInBounds_toArray, List.set_cons_zero, List.set_cons_succ]
        go_wp2_with fail
        refine (rsign_any (N := N) _ _ _ _ _ _ _ L q _ (by have := HS.out.2; omega) (HR.out.below HS.out.1)).mono ?_
        rw [HSG.out]
        rintro e wn ⟨rfl, hb⟩
        have Hb := Lib.hid hb
        clear hb
        go_wp2_with fail
        exact ⟨.agg #[.bool s, .slice a na ca, .slice d nd cd], .int .i64 σ, u5, u6, u7, u8, u9, u10, u11, u2, by simp only [Act.put, List.setIfInBounds_toArray, List.set_cons_zero, List.set_cons_succ], HS.out.below Hb.out, (fun h => by first | rfl | exact P0.out (by simpa using h)), (fun _ => rfl), (fun h => by first | rfl | exact P2.out (by simpa using h)), (fun h => by first | rfl | exact P3.out (by simpa using h)), (fun h => by first | rfl | exact P8.out (by simpa using h)), (fun h => by first | rfl | exact P9.out (by simpa using h))⟩
      · simp only [List.getElem?_toArray, List.getElem?_cons_zero, List.getElem?_cons_succ, Option.some.injEq] at ho
        subst ho
        obtain rfl := p1 (hafter ⟨1, .data⟩ (by simp) rfl)
        have P0 := Lib.hid p0
        have P1 := Lib.hid p1
        have P2 := Lib.hid p2
        have P3 := Lib.hid p3
        have P8 := Lib.hid p8
        have P9 := Lib.hid p9
        have HS := Lib.hid hS
        clear hS hLi hafter p0 p1 p2 p3 p8 p9
        simp only [Act.put, List.setIfInBounds_toArray, List.set_cons_zero, List.set_cons_succ]
        go_wp2_with fail
        exact ⟨u3, .int .i64 σ, .bool false, u6, u7, u8, u9, u10, u11, u2, by simp only [Act.put, List.setIfInBounds_toArray, List.set_cons_zero, List.set_cons_succ], HS.out, (fun h => by first | rfl | exact P0.out (by simpa using h)), (fun h => by first | rfl | exact P1.out (by simpa using h)), (fun _ => rfl), (fun h => by first | rfl | exact P3.out (by simpa using h)), (fun h => by first | rfl | exact P8.out (by simpa using h)), (fun h => by first | rfl | exact P9.out (by simpa using h))⟩
      · simp only [List.getElem?_toArray, List.getElem?_cons_zero, List.getElem?_cons_succ, Option.some.injEq] at ho
        subst ho
        obtain rfl := p2 (hafter ⟨2, .data⟩ (by simp) rfl)
        have P0 := Lib.hid p0
        have P1 := Lib.hid p1
        have P2 := Lib.hid p2
        have P3 := Lib.hid p3
        have P8 := Lib.hid p8
        have P9 := Lib.hid p9
        have HS := Lib.hid hS
        clear hS hLi hafter p0 p1 p2 p3 p8 p9
        simp only [Act.put, List.setIfInBounds_toArray, List.set_cons_zero, List.set_cons_succ]
        go_wp2_with fail
        exact ⟨u3, u4, .bool false, .bool false, u7, u8, u9, u10, u11, u2, by simp only [Act.put, List.setIfInBounds_toArray, List.set_cons_zero, List.set_cons_succ], HS.out, (fun h => by first | rfl | exact P0.out (by simpa using h)), (fun h => by first | rfl | exact P1.out (by simpa using h)), (fun h => by first | rfl | exact P2.out (by simpa using h)), (fun _ => rfl), (fun h => by first | rfl | exact P8.out (by simpa using h)), (fun h => by first | rfl | exact P9.out (by simpa using h))⟩
      · simp only [List.getElem?_toArray, List.getElem?_cons_zero, List.getElem?_cons_succ, Option.some.injEq] at ho
        subst ho
        obtain rfl := p3 (hafter ⟨3, .guard⟩ (by simp) rfl)
        have P0 := Lib.hid p0
        have P1 := Lib.hid p1
        have P2 := Lib.hid p2
        have P3 := Lib.hid p3
        have P8 := Lib.hid p8
        have P9 := Lib.hid p9
        have HS := Lib.hid hS
        clear hS hLi hafter p0 p1 p2 p3 p8 p9
        simp only [Act.put, List.setIfInBounds_toArray, List.set_cons_zero, List.set_cons_succ]
        go_wp2_with fail
        exact ⟨u3, u4, u5, .bool false, undef, u8, u9, u10, u11, u2, by simp only [Act.put, List.setIfInBounds_toArray, List.set_cons_zero, List.set_cons_succ], HS.out, (fun h => by first | rfl | exact P0.out (by simpa using h)), (fun h => by first | rfl | exact P1.out (by simpa using h)), (fun h => by first | rfl | exact P2.out (by simpa using h)), (fun h => by first | rfl | exact P3.out (by simpa using h)), (fun h => by first | rfl | exact P8.out (by simpa using h)), (fun h => by first | rfl | exact P9.out (by simpa using h))⟩
      · simp only [List.getElem?_toArray, List.getElem?_cons_zero, List.getElem?_cons_succ, Option.some.injEq] at ho
        subst ho
        obtain rfl := p3 (hafter ⟨3, .guard⟩ (by simp) rfl)
        have P0 := Lib.hid p0
        have P1 := Lib.hid p1
        have P2 := Lib.hid p2
        have P3 := Lib.hid p3
        have P8 := Lib.hid p8
        have P9 := Lib.hid p9
        have HS := Lib.hid hS
        clear hS hLi hafter p0 p1 p2 p3 p8 p9
        simp only [Act.put, List.setIfInBounds_toArray, List.set_cons_zero, List.set_cons_succ]
        go_wp2_with fail
        exact ⟨u3, u4, u5, .bool false, u7, undef, u9, u10, u11, u2, by simp only [Act.put, List.setIfInBounds_toArray, List.set_cons_zero, List.set_cons_succ], HS.out, (fun h => by first | rfl | exact P0.out (by simpa using h)), (fun h => by first | rfl | exact P1.out (by simpa using h)), (fun h => by first | rfl | exact P2.out (by simpa using h)), (fun h => by first | rfl | exact P3.out (by simpa using h)), (fun h => by first | rfl | exact P8.out (by simpa using h)), (fun h => by first | rfl | exact P9.out (by simpa using h))⟩
      · simp only [List.getElem?_toArray, List.getElem?_cons_zero, List.getElem?_cons_succ, Option.some.injEq] at ho
        subst ho
        obtain rfl := p3 (hafter ⟨3, .guard⟩ (by simp) rfl)
        have P0 := Lib.hid p0
        have P1 := Lib.hid p1
        have P2 := Lib.hid p2
        have P3 := Lib.hid p3
        have P8 := Lib.hid p8
        have P9 := Lib.hid p9
        have HS := Lib.hid hS
        clear hS hLi hafter p0 p1 p2 p3 p8 p9
        simp only [Act.put, List.setIfInBounds_toArray, List.set_cons_zero, List.set_cons_succ]
        go_wp2_with fail
        exact ⟨u3, u4, u5, .bool false, u7, u8, undef, u10, u11, u2, by simp only [Act.put, List.setIfInBounds_toArray, List.set_cons_zero, List.set_cons_succ], HS.out, (fun h => by first | rfl | exact P0.out (by simpa using h)), (fun h => by first | rfl | exact P1.out (by simpa using h)), (fun h => by first | rfl | exact P2.out (by simpa using h)), (fun h => by first | rfl | exact P3.out (by simpa using h)), (fun h => by first | rfl | exact P8.out (by simpa using h)), (fun h => by first | rfl | exact P9.out (by simpa using h))⟩
      · simp only [List.getElem?_toArray, List.getElem?_cons_zero, List.getElem?_cons_succ, Option.some.injEq] at ho
        subst ho
        obtain rfl := p3 (hafter ⟨3, .guard⟩ (by simp) rfl)
        have P0 := Lib.hid p0
        have P1 := Lib.hid p1
        have P2 := Lib.hid p2
        have P3 := Lib.hid p3
        have P8 := Lib.hid p8
        have P9 := Lib.hid p9
        have HS := Lib.hid hS
        clear hS hLi hafter p0 p1 p2 p3 p8 p9
        simp only [Act.put, List.setIfInBounds_toArray, List.set_cons_zero, List.set_cons_succ]
        go_wp2_with fail
        exact ⟨u3, u4, u5, .bool false, u7, u8, u9, undef, u11, u2, by simp only [Act.put, List.setIfInBounds_toArray, List.set_cons_zero, List.set_cons_succ], HS.out, (fun h => by first | rfl | exact P0.out (by simpa using h)), (fun h => by first | rfl | exact P1.out (by simpa using h)), (fun h => by first | rfl | exact P2.out (by simpa using h)), (fun h => by first | rfl | exact P3.out (by simpa using h)), (fun h => by first | rfl | exact P8.out (by simpa using h)), (fun h => by first | rfl | exact P9.out (by simpa using h))⟩
      · simp only [List.getElem?_toArray, List.getElem?_cons_zero, List.getElem?_cons_succ, Option.some.injEq] at ho
        subst ho
        obtain rfl := p3 (hafter ⟨3, .data⟩ (by simp) rfl)
        have P0 := Lib.hid p0
        have P1 := Lib.hid p1
        have P2 := Lib.hid p2
        have P3 := Lib.hid p3
        have P8 := Lib.hid p8
        have P9 := Lib.hid p9
        have HS := Lib.hid hS
        clear hS hLi hafter p0 p1 p2 p3 p8 p9
        simp only [Act.put, List.setIfInBounds_toArray, List.set_cons_zero, List.set_cons_succ]
        go_wp2_with fail
        exact ⟨u3, u4, u5, .bool false, u7, u8, u9, u10, .bool false, u2, by simp only [Act.put, List.setIfInBounds_toArray, List.set_cons_zero, List.set_cons_succ], HS.out, (fun h => by first | rfl | exact P0.out (by simpa using h)), (fun h => by first | rfl | exact P1.out (by simpa using h)), (fun h => by first | rfl | exact P2.out (by simpa using h)), (fun h => by first | rfl | exact P3.out (by simpa using h)), (fun _ => rfl), (fun h => by first | rfl | exact P9.out (by simpa using h))⟩
      · simp only [List.getElem?_toArray, List.getElem?_cons_zero, List.getElem?_cons_succ, Option.some.injEq] at ho
        subst ho
        obtain rfl := p8 (hafter ⟨8, .data⟩ (by simp) rfl)
        have P0 := Lib.hid p0
        have P1 := Lib.hid p1
        have P2 := Lib.hid p2
        have P3 := Lib.hid p3
        have P8 := Lib.hid p8
        have P9 := Lib.hid p9
        have HS := Lib.hid hS
        clear hS hLi hafter p0 p1 p2 p3 p8 p9
        simp only [Act.put, List.setIfInBounds_toArray, List.set_cons_zero, List.set_cons_succ]
        go_wp2_with fail
        exact ⟨u3, u4, u5, u6, u7, u8, u9, u10, .bool false, .bool false, by simp only [Act.put, List.setIfInBounds_toArray, List.set_cons_zero, List.set_cons_succ], HS.out, (fun h => by first | rfl | exact P0.out (by simpa using h)), (fun h => by first | rfl | exact P1.out (by simpa using h)), (fun h => by first | rfl | exact P2.out (by simpa using h)), (fun h => by first | rfl | exact P3.out (by simpa using h)), (fun h => by first | rfl | exact P8.out (by simpa using h)), (fun _ => rfl)⟩
    · intro Ls a0 wq hall hJ
      obtain ⟨u3, u4, u5, u6, u7, u8, u9, u10, u11, u2, rfl, hS, p0, p1, p2, p3, p8, p9⟩ := hJ
      replace p0 := p0 (hall 0 (by decide))
      replace p1 := p1 (hall 1 (by decide))
      replace p2 := p2 (hall 2 (by decide))
      replace p3 := p3 (hall 3 (by decide))
      replace p8 := p8 (hall 8 (by decide))
      replace p9 := p9 (hall 9 (by decide))
      subst p9
      have HS := Lib.hid hS
      clear hS p0 p1 p2 p3 p8
      simp only [Act.put, List.setIfInBounds_toArray, List.set_cons_zero, List.set_cons_succ]
      go_wp2_with fail
      go_ret
      exact ⟨rfl, HB.out.trans (HS.out.1.mono hs0)⟩
  · have h1 : 0 ≤ q := by grind
    have d0 : decide (0 ≤ σ) = true := by rw [← hσ]; exact sgn_ge q h1
    have d1 : decide (κ ≤ 0) = b := by
      rw [← hκ, hp1, cmp_le, ← hb]; unfold prb
      by_cases h2 : q ≤ 1
      · rw [decide_eq_true h2, decide_eq_true ⟨h1, h2⟩]
      · rw [decide_eq_false h2, decide_eq_false (fun h => h2 h.2)]
    clear hb h0 h1 hσ hp hp1 hκ
    have hN0 := hN
    have HR := Lib.hid h
    clear h
    have HB := Lib.hid (Below.refl w.heap.size w)
    go_enter Tryd.func31, Tryd.ntmps31
    go_wp2_with fail
    refine region_name fun W0 hW => ?_
    have hN_W0 : N ≤ W0.heap.size := by rw [← hW]; (first | omega | (simp; done) | (simp; omega))
    have hs_W0 : w.heap.size ≤ W0.heap.size := by rw [← hW]; (first | omega | (simp; done) | (simp; omega))
    have hs0_W0 : w.heap.size ≤ W0.heap.size := by rw [← hW]; (first | omega | (simp; done) | (simp; omega))
    have hl_P_W0 : w.heap.size < W0.heap.size := by rw [← hW]; (first | omega | (simp; done) | (simp; omega))
    have k_P_0_W0 : W0.cell? ⟨w.heap.size, 0, none⟩ = some (.bool s) := by rw [← hW]; (first | (go_simp; done) | (simp; done) | (simp [go_sem]; done) | (simp [go_sem]; done))
    have k_P_1_W0 : W0.cell? ⟨w.heap.size, 1, none⟩ = some (.slice a na ca) := by rw [← hW]; (first | (go_simp; done) | (simp; done) | (simp [go_sem]; done) | (simp [go_sem]; done))
    have k_P_2_W0 : W0.cell? ⟨w.heap.size, 2, none⟩ = some (.slice d nd cd) := by rw [← hW]; (first | (go_simp; done) | (simp; done) | (simp [go_sem]; done) | (simp [go_sem]; done))
    have f_P_W0 : ∀ o, W0.frozen? ⟨w.heap.size, o, none⟩ = false := by intro o; rw [← hW]; (first | (go_simp; done) | (simp; done) | (simp [go_sem]; done) | (simp [go_sem]; done))
    have HX_P_W0 := Lib.hid (show Bn W0 (w.heap.size) by rw [← hW]; (repeat' (first | with_reducible exact Kp.refl _ _ | with_reducible apply Kp.alloc | with_reducible apply Kp.drew | (with_reducible refine Kp.put ?_ ?_ ?_ _; rotate_left; (focus (first | omega | (simp; done) | (simp; omega))); rotate_left) | (with_reducible refine Bn.new _ _ _ _ ?_ ?_; (focus (first | omega | (simp; done) | (simp; omega))); decide) | with_reducible apply Bn.alloc | with_reducible apply Bn.drew | with_reducible apply Bn.set)))
    have HK_W0 := Lib.hid (show Kp N w W0 by rw [← hW]; (repeat' (first | with_reducible exact Kp.refl _ _ | with_reducible apply Kp.alloc | with_reducible apply Kp.drew | (with_reducible refine Kp.put ?_ ?_ ?_ _; rotate_left; (focus (first | omega | (simp; done) | (simp; omega))); rotate_left) | (with_reducible refine Bn.new _ _ _ _ ?_ ?_; (focus (first | omega | (simp; done) | (simp; omega))); decide) | with_reducible apply Bn.alloc | with_reducible apply Bn.drew | with_reducible apply Bn.set)))
    have HR_W0 := Lib.hid (HR.out.keep HK_W0.out)
    have HB_W0 := Lib.hid (show Below w.heap.size w W0 by rw [← hW]; (repeat' (first | with_reducible exact Below.refl _ _ | with_reducible exact HB.out | (with_reducible refine Below.alloc ?_ ?_ _; rotate_left; (focus (first | omega | (simp; done) | (simp; omega)))) | with_reducible apply Below.drew | (with_reducible refine Below.setCell ?_ ?_ _; rotate_left; (focus (first | omega | (simp; done) | (simp; omega)))))))
    clear hW HK_W0
    clear HR HB hN
    have hN := hN_W0
    have HB := HB_W0
    have hs0 := hs0_W0
    have hl_P := hl_P_W0
    have f_P := f_P_W0
    have HX_P := HX_P_W0
    have k_P_0 := k_P_0_W0
    have k_P_1 := k_P_1_W0
    have k_P_2 := k_P_2_W0
    have HR := HR_W0
    clear hN_W0 HB_W0 hs0_W0 hl_P_W0 f_P_W0 HX_P_W0 k_P_0_W0 k_P_1_W0 k_P_2_W0 HR_W0
    go_region_held3 (fun w' => w'.cell? ⟨w.heap.size, 0, none⟩ = some (.bool s) ∧ w'.cell? ⟨w.heap.size, 1, none⟩ = some (.slice a na ca) ∧ w'.cell? ⟨w.heap.size, 2, none⟩ = some (.slice d nd cd))
      (first | (go_keep; done) | ((try dsimp only); (repeat' apply And.intro) <;> (first | (go_keep; done) | (exact cell_keep_alloc_drew (by first | omega | (simp; omega)) (by first | assumption | go_simp)) | (exact cell_keep_alloc (by first | omega | (simp; omega)) (by first | assumption | go_simp)) | (rw [cell_set2 _ _ _ _ _ _ _ _ (by omega)]; assumption) | (rw [cell_set3 _ _ _ _ _ _ _ _ _ _ (by omega)]; assumption))))
      (first
        | (go_at_call 20; refine (rsign_any (N := N) _ _ _ _ _ _ _ L q _ (by exact hN) (by exact HR.out)).mono ?_; rw [HSG.out]; rintro e wa ⟨rfl, hb⟩; replace hb : Below W0.heap.size W0 wa := (by first | exact hb | exact bel_of_drew hb); have hN_wa : N ≤ wa.heap.size := Nat.le_trans hN hb.size; have hs_wa : W0.heap.size ≤ wa.heap.size := hb.size; have hs0_wa : w.heap.size ≤ wa.heap.size := Nat.le_trans hs0 hb.size; have hl_P_wa : w.heap.size < wa.heap.size := Nat.lt_of_lt_of_le hl_P hb.size; have k_P_0_wa : wa.cell? ⟨w.heap.size, 0, none⟩ = some (.bool s) := (hb.cell (p := ⟨w.heap.size, 0, none⟩) hl_P).trans k_P_0; have k_P_1_wa : wa.cell? ⟨w.heap.size, 1, none⟩ = some (.slice a na ca) := (hb.cell (p := ⟨w.heap.size, 1, none⟩) hl_P).trans k_P_1; have k_P_2_wa : wa.cell? ⟨w.heap.size, 2, none⟩ = some (.slice d nd cd) := (hb.cell (p := ⟨w.heap.size, 2, none⟩) hl_P).trans k_P_2; have f_P_wa : ∀ o, wa.frozen? ⟨w.heap.size, o, none⟩ = false := fun o => (hb.frozen (p := ⟨w.heap.size, o, none⟩) hl_P).trans (f_P o); have HX_P_wa := Lib.hid (HX_P.out.below hb); have HR_wa := Lib.hid (HR.out.below hb); have HB_wa := Lib.hid (HB.out.trans (hb.mono hs0)); clear hb; clear hl_P f_P HX_P k_P_0 k_P_1 k_P_2 HR HB hN hs0; have hN := hN_wa; have HB := HB_wa; have hs0 := hs0_wa; have hl_P := hl_P_wa; have f_P := f_P_wa; have HX_P := HX_P_wa; have k_P_0 := k_P_0_wa; have k_P_1 := k_P_1_wa; have k_P_2 := k_P_2_wa; have HR := HR_wa; clear hN_wa HB_wa hs0_wa hl_P_wa f_P_wa HX_P_wa k_P_0_wa k_P_1_wa k_P_2_wa HR_wa; skip)
        | (go_at_call 25; refine (fof_any (N := N) 1 1 _ (by exact hN) (by omega) (by omega) (by omega) (by omega) p HP.out).mono ?_; rintro e wb ⟨rx, cx, rx2, cx2, rfl, hn, hn', hb⟩; replace hb : Below wa.heap.size wa wb := (by first | exact hb | exact bel_of_drew hb); have hN_wb : N ≤ wb.heap.size := Nat.le_trans hN hb.size; have hs_wb : wa.heap.size ≤ wb.heap.size := hb.size; have hs0_wb : w.heap.size ≤ wb.heap.size := Nat.le_trans hs0 hb.size; have hl_P_wb : w.heap.size < wb.heap.size := Nat.lt_of_lt_of_le hl_P hb.size; have k_P_0_wb : wb.cell? ⟨w.heap.size, 0, none⟩ = some (.bool s) := (hb.cell (p := ⟨w.heap.size, 0, none⟩) hl_P).trans k_P_0; have k_P_1_wb : wb.cell? ⟨w.heap.size, 1, none⟩ = some (.slice a na ca) := (hb.cell (p := ⟨w.heap.size, 1, none⟩) hl_P).trans k_P_1; have k_P_2_wb : wb.cell? ⟨w.heap.size, 2, none⟩ = some (.slice d nd cd) := (hb.cell (p := ⟨w.heap.size, 2, none⟩) hl_P).trans k_P_2; have f_P_wb : ∀ o, wb.frozen? ⟨w.heap.size, o, none⟩ = false := fun o => (hb.frozen (p := ⟨w.heap.size, o, none⟩) hl_P).trans (f_P o); have HX_P_wb := Lib.hid (HX_P.out.below hb); have HR_wb := Lib.hid (HR.out.below hb); have HB_wb := Lib.hid (HB.out.trans (hb.mono hs0)); clear hb; clear hl_P f_P HX_P k_P_0 k_P_1 k_P_2 HR HB hN hs0; have hN := hN_wb; have HB := HB_wb; have hs0 := hs0_wb; have hl_P := hl_P_wb; have f_P := f_P_wb; have HX_P := HX_P_wb; have k_P_0 := k_P_0_wb; have k_P_1 := k_P_1_wb; have k_P_2 := k_P_2_wb; have HR := HR_wb; clear hN_wb HB_wb hs0_wb hl_P_wb f_P_wb HX_P_wb k_P_0_wb k_P_1_wb k_P_2_wb HR_wb; have HX1 := Lib.hid hn; clear hn; have HX2 := Lib.hid hn'; clear hn'; skip)
        | (go_at_call 14; refine (rcmp_any (N := N) _ _ _ _ _ _ _ _ _ _ _ _ _ _ L 1 q p _ (by exact hN) (by exact HR.out) (by exact Rt.of_norm HX1.out HX2.out 1 HZ.out) (by omega) (by omega)).mono ?_; rw [HK.out]; rintro e wc ⟨rfl, hb⟩; replace hb : Below wb.heap.size wb wc := (by first | exact hb | exact bel_of_drew hb); have hN_wc : N ≤ wc.heap.size := Nat.le_trans hN hb.size; have hs_wc : wb.heap.size ≤ wc.heap.size := hb.size; have hs0_wc : w.heap.size ≤ wc.heap.size := Nat.le_trans hs0 hb.size; have hl_P_wc : w.heap.size < wc.heap.size := Nat.lt_of_lt_of_le hl_P hb.size; have k_P_0_wc : wc.cell? ⟨w.heap.size, 0, none⟩ = some (.bool s) := (hb.cell (p := ⟨w.heap.size, 0, none⟩) hl_P).trans k_P_0; have k_P_1_wc : wc.cell? ⟨w.heap.size, 1, none⟩ = some (.slice a na ca) := (hb.cell (p := ⟨w.heap.size, 1, none⟩) hl_P).trans k_P_1; have k_P_2_wc : wc.cell? ⟨w.heap.size, 2, none⟩ = some (.slice d nd cd) := (hb.cell (p := ⟨w.heap.size, 2, none⟩) hl_P).trans k_P_2; have f_P_wc : ∀ o, wc.frozen? ⟨w.heap.size, o, none⟩ = false := fun o => (hb.frozen (p := ⟨w.heap.size, o, none⟩) hl_P).trans (f_P o); have HX_P_wc := Lib.hid (HX_P.out.below hb); have HR_wc := Lib.hid (HR.out.below hb); have HX1_wc := Lib.hid (HX1.out.below hb); have HX2_wc := Lib.hid (HX2.out.below hb); have HB_wc := Lib.hid (HB.out.trans (hb.mono hs0)); clear hb; clear hl_P f_P HX_P k_P_0 k_P_1 k_P_2 HR HX1 HX2 HB hN hs0; have hN := hN_wc; have HB := HB_wc; have hs0 := hs0_wc; have hl_P := hl_P_wc; have f_P := f_P_wc; have HX_P := HX_P_wc; have k_P_0 := k_P_0_wc; have k_P_1 := k_P_1_wc; have k_P_2 := k_P_2_wc; have HR := HR_wc; have HX1 := HX1_wc; have HX2 := HX2_wc; clear hN_wc HB_wc hs0_wc hl_P_wc f_P_wc HX_P_wc k_P_0_wc k_P_1_wc k_P_2_wc HR_wc HX1_wc HX2_wc; skip))
    go_wp2_with fail
    go_ret
    exact ⟨rfl, HB.out⟩

end Go.Proofs.YtmecipfdelgfbaaDoor
