/- Contract of exposure.counts: the map of the counts of all items of a list of uses. No condition. -/
import Derived.Test.YtmljfaplohbjcaaMpA
import Derived.Test.YtmljfaplohbjcaaExpD
namespace Go.Proofs.Ytmljfaplohbjcaa
open Go.RowKit

theorem mtI : MT Try.prog 51 3 3 (.int .i64) (.int .i64 0) := ⟨by kernel_rfl, by kernel_rfl, by kernel_rfl, fun _ => by kernel_rfl⟩
theorem mtB : MT Try.prog 50 3 4 .bool (.bool false) := ⟨by kernel_rfl, by kernel_rfl, by kernel_rfl, fun _ => by kernel_rfl⟩
/-- all counts by the first k uses -/
def cntF (it ct : Nat → Int) (k : Nat) : Int → Int := fun x => cntN it ct x k
theorem cntF_up {it ct : Nat → Int} {k : Nat} {x y : Int} (hx : it k = x) (hy : lim (cntF it ct k x + lim (ct k)) = y) : ∀ z, upI (cntF it ct k) x y z = cntF it ct (k + 1) z := by
  intro z
  unfold upI cntF
  simp only [cntN]
  by_cases e : z = x
  · subst e; rw [if_pos rfl, if_pos hx]; exact hy.symm
  · rw [if_neg e, if_neg (by rw [hx]; exact fun h => e h.symm)]
theorem W64.lim (x : Int) : W64 (lim x) := by have := lim_bd x; unfold W64; omega
/-- a map entry was written since W, as the last thing -/
def CutMi (W : World) (b n : Nat) (f : Int → Int) (w : World) : Prop := ∃ w1, Since W w1 ∧ w1.grownBy w (some b) ∧ Mi Try.prog 3 3 w b n f
def CtsJ (g b n : Nat) (x v c l y : Int) (f : Int → Int) (W : World) (z0 : Act) (L : Nat → Bool) (z1 : Act) (w : World) : Prop :=
  ∃ u13 u14 u15 u16 u17 u18 u19 u20 u21 u22 u23 u24, z1 = ((((((((((((z0.put (some 13) u13).put (some 14) u14).put (some 15) u15).put (some 16) u16).put (some 17) u17).put (some 18) u18).put (some 19) u19).put (some 20) u20).put (some 21) u21).put (some 22) u22).put (some 23) u23).put (some 24) u24) ∧
    ((L 12 = false ∧ Since W w ∧ (L 0 = true → u13 = .map (some b)) ∧ (L 1 = true → u14 = .pointer (some ⟨g, 0, none⟩)) ∧ (L 2 = true → u15 = .int .i64 x) ∧ (L 3 = true → u16 = .map (some b)) ∧ (L 4 = true → u17 = .pointer (some ⟨g, 0, none⟩)) ∧ (L 5 = true → u18 = .int .i64 x) ∧ (L 6 = true → u19 = .int .i64 v) ∧ (L 7 = true → u20 = .pointer (some ⟨g, 1, none⟩)) ∧ (L 8 = true → u21 = .int .i64 c) ∧ (L 9 = true → u22 = .int .i64 l) ∧ (L 10 = true → u23 = .int .i64 (v + l)) ∧ (L 11 = true → u24 = .int .i64 y)) ∨
     (L 12 = true ∧ (∀ j, j < 12 → L j = true) ∧ CutMi W b (n + 1) (upI f x y) w))


set_option maxRecDepth 20000 in
set_option maxHeartbeats 4000000 in
theorem counts_any (a : Option Addr) (n cap : Nat) (it ct : Nat → Int) (w : World) (h : Us w a n cap it ct) (h64 : ∀ i, i < n → W64 (it i)) (hn : n < maxLen) :
    Calls Try.prog 17 #[.slice a n cap] w fun e w' => ∃ b, e = .returned (.map (some b)) ∧ w.heap.size ≤ b ∧ Mi Try.prog 3 3 w' b n (cntF it ct n) ∧ Below w.heap.size w w' := by
  have HU := Lib.hid h
  have b1 := h.1
  have b2 := h.2.1
  have hn2 := hn
  unfold maxLen at b2 hn2
  clear h
  have hmm := @run_makeMap Try.prog
  go_enter Try.func17, Try.ntmps17
  go_wp2_with fail
  go_loopw [5, 9] (fun _ i wr => ∃ k : Nat, k ≤ n ∧ i = .int .i64 k ∧ Mi Try.prog 3 3 wr w.heap.size k (cntF it ct k) ∧ Below w.heap.size w wr) (fun _ i _ => n - (intOf i).toNat)
  case atStart => exact ⟨0, Nat.zero_le _, rfl, Mi.made w, bel1 _ _⟩
  case round =>
    obtain ⟨k, hk, rfl, hm, hbel⟩ := hrel
    have HM := Lib.hid hm
    have HB := Lib.hid hbel
    have hs0 := hbel.size
    clear hm
    by_cases hkn : k < n
    · obtain ⟨b', off, rfl, hc⟩ := HU.out.2.2 (by omega)
      have hcell0 := cell_mono' hbel (hc k hkn).1
      have hcell1 := cell_mono' hbel (hc k hkn).2
      obtain ⟨x, hx⟩ : ∃ x, it k = x := ⟨_, rfl⟩
      obtain ⟨c, hcc⟩ : ∃ x, ct k = x := ⟨_, rfl⟩
      rw [hx] at hcell0
      rw [hcc] at hcell1
      have HX := Lib.hid hx
      have HX64 := Lib.hid (show W64 x by rw [← hx]; exact h64 k hkn)
      obtain ⟨l, hl⟩ : ∃ l, lim c = l := ⟨_, rfl⟩
      have hl2 := lim_bd c
      rw [hl] at hl2
      have HL := Lib.hid hl
      obtain ⟨v, hv⟩ : ∃ v, cntF it ct k x = v := ⟨_, rfl⟩
      have hv2 := cntN_bd it ct x k
      rw [show cntN it ct x k = v from hv] at hv2
      have HV := Lib.hid hv
      obtain ⟨y, hy⟩ : ∃ y, lim (v + l) = y := ⟨_, rfl⟩
      have HY := Lib.hid hy
      have HY64 := Lib.hid (show W64 y by rw [← hy]; exact W64.lim _)
      have HUP := Lib.hid (cntF_up (it := it) (ct := ct) (k := k) hx (show lim (cntF it ct k x + lim (ct k)) = y by rw [hv, hcc, hl, hy]))
      have hkm : k < maxLen := by unfold maxLen; omega
      clear hc hx hcc hl hv hy hbel hmm
      obtain ⟨v1, v2⟩ := hv2
      obtain ⟨l1, l2⟩ := hl2
      have hix0 : (0 : Int) ≤ (k : Int) := by omega
      have hix1 : (k : Int) < (n : Int) := by omega
      go_wp2_with fail
      refine region_name fun W0 hW => ?_
      have hs_W0 : wr.heap.size ≤ W0.heap.size := by rw [← hW]; (first | omega | (simp; done) | (simp; omega))
      have hs0_W0 : w.heap.size ≤ W0.heap.size := by rw [← hW]; (first | omega | (simp; done) | (simp; omega))
      have hl_U_W0 : wr.heap.size < W0.heap.size := by rw [← hW]; (first | omega | (simp; done) | (simp; omega))
      have k_U_0_W0 : W0.cell? ⟨wr.heap.size, 0, none⟩ = some (.int .i64 x) := by rw [← hW]; (first | (go_simp; done) | (simp; done) | (simp [go_sem]; done) | (simp [go_sem]; done))
      have k_U_1_W0 : W0.cell? ⟨wr.heap.size, 1, none⟩ = some (.int .i64 c) := by rw [← hW]; (first | (go_simp; done) | (simp; done) | (simp [go_sem]; done) | (simp [go_sem]; done))
      have f_U_W0 : ∀ o, W0.frozen? ⟨wr.heap.size, o, none⟩ = false := by intro o; rw [← hW]; (first | (go_simp; done) | (simp; done) | (simp [go_sem]; done) | (simp [go_sem]; done))
      have HX_U_W0 := Lib.hid (show Bn W0 (wr.heap.size) by rw [← hW]; (repeat' (first | with_reducible exact Kp.refl _ _ | with_reducible apply Kp.alloc | with_reducible apply Kp.drew | (with_reducible refine Kp.put ?_ ?_ ?_ _; rotate_left; (focus (first | omega | (simp; done) | (simp; omega))); rotate_left) | (with_reducible refine Bn.new _ _ _ _ ?_ ?_; (focus (first | omega | (simp; done) | (simp; omega))); decide) | with_reducible apply Bn.alloc | with_reducible apply Bn.drew | with_reducible apply Bn.set)))
      have HB_W0 := Lib.hid (show Below w.heap.size w W0 by rw [← hW]; (repeat' (first | with_reducible exact Below.refl _ _ | with_reducible exact HB.out | (with_reducible refine Below.alloc ?_ ?_ _; rotate_left; (focus (first | omega | (simp; done) | (simp; omega)))) | with_reducible apply Below.drew | (with_reducible refine Below.setCell ?_ ?_ _; rotate_left; (focus (first | omega | (simp; done) | (simp; omega)))))))
      have HL_W0 := Lib.hid (show Below wr.heap.size wr W0 by rw [← hW]; (repeat' (first | with_reducible exact Below.refl _ _ | (with_reducible refine Below.alloc ?_ ?_ _; rotate_left; (focus (first | omega | (simp; done) | (simp; omega)))) | with_reducible apply Below.drew | (with_reducible refine Below.setCell ?_ ?_ _; rotate_left; (focus (first | omega | (simp; done) | (simp; omega)))))))
      have HM_W0 := Lib.hid (HM.out.below HL_W0.out)
      clear HL_W0
      clear hW
      clear HB hs0
      have HB := HB_W0
      have hs0 := hs0_W0
      have hl_U := hl_U_W0
      have f_U := f_U_W0
      have HX_U := HX_U_W0
      have k_U_0 := k_U_0_W0
      have k_U_1 := k_U_1_W0
      clear HB_W0 hs0_W0 hl_U_W0 f_U_W0 HX_U_W0 k_U_0_W0 k_U_1_W0
      clear HM
      have HM := HM_W0
      clear HM_W0
      refine region_inv2 (by kernel_rfl) (CtsJ wr.heap.size w.heap.size k x v c l y (cntF it ct k) (W0)) ?_ ?_ ?_ ?_
      · exact ⟨u13, u14, u15, u16, u17, u18, u19, u20, u21, u22, u23, u24, by simp only [Act.put, List.setIfInBounds_toArray, List.set_cons_zero, List.set_cons_succ], .inl ⟨rfl, Since.drawn _, (fun h => by cases h), (fun h => by cases h), (fun h => by cases h), (fun h => by cases h), (fun h => by cases h), (fun h => by cases h), (fun h => by cases h), (fun h => by cases h), (fun h => by cases h), (fun h => by cases h), (fun h => by cases h), (fun h => by cases h)⟩⟩
      · exact acyc_spec (by kernel_rfl)
      · intro Ls a0 wq i o ho hLi hafter hJ
        obtain ⟨u13, u14, u15, u16, u17, u18, u19, u20, u21, u22, u23, u24, rfl, hJ | ⟨h10, hall, _⟩⟩ := hJ
        · obtain ⟨hLl, hS, p0, p1, p2, p3, p4, p5, p6, p7, p8, p9, p10, p11⟩ := hJ
          have hi : i < 13 := (Array.getElem?_eq_some_iff.1 ho).1
          obtain rfl | rfl | rfl | rfl | rfl | rfl | rfl | rfl | rfl | rfl | rfl | rfl | rfl : i = 0 ∨ i = 1 ∨ i = 2 ∨ i = 3 ∨ i = 4 ∨ i = 5 ∨ i = 6 ∨ i = 7 ∨ i = 8 ∨ i = 9 ∨ i = 10 ∨ i = 11 ∨ i = 12 := by omega
          · simp only [List.getElem?_toArray, List.getElem?_cons_zero, Option.some.injEq] at ho
            subst ho
            have P0 := Lib.hid p0
            have P1 := Lib.hid p1
            have P2 := Lib.hid p2
            have P3 := Lib.hid p3
            have P4 := Lib.hid p4
            have P5 := Lib.hid p5
            have P6 := Lib.hid p6
            have P7 := Lib.hid p7
            have P8 := Lib.hid p8
            have P9 := Lib.hid p9
            have P10 := Lib.hid p10
            have P11 := Lib.hid p11
            have HS := Lib.hid hS
            clear hS hLi hafter p0 p1 p2 p3 p4 p5 p6 p7 p8 p9 p10 p11
            simp only [Act.put, List.setIfInBounds_toArray, List.set_cons_zero, List.set_cons_succ]
            go_wp2_with fail
            exact ⟨.map (some w.heap.size), u14, u15, u16, u17, u18, u19, u20, u21, u22, u23, u24, by simp only [Act.put, List.setIfInBounds_toArray, List.set_cons_zero, List.set_cons_succ], .inl ⟨by simpa using hLl, HS.out, (fun _ => rfl), (fun h => by first | rfl | exact P1.out (by simpa using h)), (fun h => by first | rfl | exact P2.out (by simpa using h)), (fun h => by first | rfl | exact P3.out (by simpa using h)), (fun h => by first | rfl | exact P4.out (by simpa using h)), (fun h => by first | rfl | exact P5.out (by simpa using h)), (fun h => by first | rfl | exact P6.out (by simpa using h)), (fun h => by first | rfl | exact P7.out (by simpa using h)), (fun h => by first | rfl | exact P8.out (by simpa using h)), (fun h => by first | rfl | exact P9.out (by simpa using h)), (fun h => by first | rfl | exact P10.out (by simpa using h)), (fun h => by first | rfl | exact P11.out (by simpa using h))⟩⟩
          · simp only [List.getElem?_toArray, List.getElem?_cons_zero, List.getElem?_cons_succ, Option.some.injEq] at ho
            subst ho
            have P0 := Lib.hid p0
            have P1 := Lib.hid p1
            have P2 := Lib.hid p2
            have P3 := Lib.hid p3
            have P4 := Lib.hid p4
            have P5 := Lib.hid p5
            have P6 := Lib.hid p6
            have P7 := Lib.hid p7
            have P8 := Lib.hid p8
            have P9 := Lib.hid p9
            have P10 := Lib.hid p10
            have P11 := Lib.hid p11
            have HS := Lib.hid hS
            clear hS hLi hafter p0 p1 p2 p3 p4 p5 p6 p7 p8 p9 p10 p11
            simp only [Act.put, List.setIfInBounds_toArray, List.set_cons_zero, List.set_cons_succ]
            go_wp2_with fail
            exact ⟨u13, .pointer (some ⟨wr.heap.size, 0, none⟩), u15, u16, u17, u18, u19, u20, u21, u22, u23, u24, by simp only [Act.put, List.setIfInBounds_toArray, List.set_cons_zero, List.set_cons_succ], .inl ⟨by simpa using hLl, HS.out, (fun h => by first | rfl | exact P0.out (by simpa using h)), (fun _ => rfl), (fun h => by first | rfl | exact P2.out (by simpa using h)), (fun h => by first | rfl | exact P3.out (by simpa using h)), (fun h => by first | rfl | exact P4.out (by simpa using h)), (fun h => by first | rfl | exact P5.out (by simpa using h)), (fun h => by first | rfl | exact P6.out (by simpa using h)), (fun h => by first | rfl | exact P7.out (by simpa using h)), (fun h => by first | rfl | exact P8.out (by simpa using h)), (fun h => by first | rfl | exact P9.out (by simpa using h)), (fun h => by first | rfl | exact P10.out (by simpa using h)), (fun h => by first | rfl | exact P11.out (by simpa using h))⟩⟩
          · simp only [List.getElem?_toArray, List.getElem?_cons_zero, List.getElem?_cons_succ, Option.some.injEq] at ho
            subst ho
            obtain rfl := p1 (hafter ⟨1, .data⟩ (by simp) rfl)
            have c0 := (hS.1.cell (p := ⟨wr.heap.size, 0, none⟩) hl_U).trans k_U_0
            have P0 := Lib.hid p0
            have P1 := Lib.hid p1
            have P2 := Lib.hid p2
            have P3 := Lib.hid p3
            have P4 := Lib.hid p4
            have P5 := Lib.hid p5
            have P6 := Lib.hid p6
            have P7 := Lib.hid p7
            have P8 := Lib.hid p8
            have P9 := Lib.hid p9
            have P10 := Lib.hid p10
            have P11 := Lib.hid p11
            have HS := Lib.hid hS
            clear hS hLi hafter p0 p1 p2 p3 p4 p5 p6 p7 p8 p9 p10 p11
            simp only [Act.put, List.setIfInBounds_toArray, List.set_cons_zero, List.set_cons_succ]
            go_wp2_with fail
            exact ⟨u13, .pointer (some ⟨wr.heap.size, 0, none⟩), .int .i64 x, u16, u17, u18, u19, u20, u21, u22, u23, u24, by simp only [Act.put, List.setIfInBounds_toArray, List.set_cons_zero, List.set_cons_succ], .inl ⟨by simpa using hLl, HS.out, (fun h => by first | rfl | exact P0.out (by simpa using h)), (fun h => by first | rfl | exact P1.out (by simpa using h)), (fun _ => rfl), (fun h => by first | rfl | exact P3.out (by simpa using h)), (fun h => by first | rfl | exact P4.out (by simpa using h)), (fun h => by first | rfl | exact P5.out (by simpa using h)), (fun h => by first | rfl | exact P6.out (by simpa using h)), (fun h => by first | rfl | exact P7.out (by simpa using h)), (fun h => by first | rfl | exact P8.out (by simpa using h)), (fun h => by first | rfl | exact P9.out (by simpa using h)), (fun h => by first | rfl | exact P10.out (by simpa using h)), (fun h => by first | rfl | exact P11.out (by simpa using h))⟩⟩
          · simp only [List.getElem?_toArray, List.getElem?_cons_zero, List.getElem?_cons_succ, Option.some.injEq] at ho
            subst ho
            have P0 := Lib.hid p0
            have P1 := Lib.hid p1
            have P2 := Lib.hid p2
            have P3 := Lib.hid p3
            have P4 := Lib.hid p4
            have P5 := Lib.hid p5
            have P6 := Lib.hid p6
            have P7 := Lib.hid p7
            have P8 := Lib.hid p8
            have P9 := Lib.hid p9
            have P10 := Lib.hid p10
            have P11 := Lib.hid p11
            have HS := Lib.hid hS
            clear hS hLi hafter p0 p1 p2 p3 p4 p5 p6 p7 p8 p9 p10 p11
            simp only [Act.put, List.setIfInBounds_toArray, List.set_cons_zero, List.set_cons_succ]
            go_wp2_with fail
            exact ⟨u13, u14, u15, .map (some w.heap.size), u17, u18, u19, u20, u21, u22, u23, u24, by simp only [Act.put, List.setIfInBounds_toArray, List.set_cons_zero, List.set_cons_succ], .inl ⟨by simpa using hLl, HS.out, (fun h => by first | rfl | exact P0.out (by simpa using h)), (fun h => by first | rfl | exact P1.out (by simpa using h)), (fun h => by first | rfl | exact P2.out (by simpa using h)), (fun _ => rfl), (fun h => by first | rfl | exact P4.out (by simpa using h)), (fun h => by first | rfl | exact P5.out (by simpa using h)), (fun h => by first | rfl | exact P6.out (by simpa using h)), (fun h => by first | rfl | exact P7.out (by simpa using h)), (fun h => by first | rfl | exact P8.out (by simpa using h)), (fun h => by first | rfl | exact P9.out (by simpa using h)), (fun h => by first | rfl | exact P10.out (by simpa using h)), (fun h => by first | rfl | exact P11.out (by simpa using h))⟩⟩
          · simp only [List.getElem?_toArray, List.getElem?_cons_zero, List.getElem?_cons_succ, Option.some.injEq] at ho
            subst ho
            have P0 := Lib.hid p0
            have P1 := Lib.hid p1
            have P2 := Lib.hid p2
            have P3 := Lib.hid p3
            have P4 := Lib.hid p4
            have P5 := Lib.hid p5
            have P6 := Lib.hid p6
            have P7 := Lib.hid p7
            have P8 := Lib.hid p8
            have P9 := Lib.hid p9
            have P10 := Lib.hid p10
            have P11 := Lib.hid p11
            have HS := Lib.hid hS
            clear hS hLi hafter p0 p1 p2 p3 p4 p5 p6 p7 p8 p9 p10 p11
            simp only [Act.put, List.setIfInBounds_toArray, List.set_cons_zero, List.set_cons_succ]
            go_wp2_with fail
            exact ⟨u13, u14, u15, u16, .pointer (some ⟨wr.heap.size, 0, none⟩), u18, u19, u20, u21, u22, u23, u24, by simp only [Act.put, List.setIfInBounds_toArray, List.set_cons_zero, List.set_cons_succ], .inl ⟨by simpa using hLl, HS.out, (fun h => by first | rfl | exact P0.out (by simpa using h)), (fun h => by first | rfl | exact P1.out (by simpa using h)), (fun h => by first | rfl | exact P2.out (by simpa using h)), (fun h => by first | rfl | exact P3.out (by simpa using h)), (fun _ => rfl), (fun h => by first | rfl | exact P5.out (by simpa using h)), (fun h => by first | rfl | exact P6.out (by simpa using h)), (fun h => by first | rfl | exact P7.out (by simpa using h)), (fun h => by first | rfl | exact P8.out (by simpa using h)), (fun h => by first | rfl | exact P9.out (by simpa using h)), (fun h => by first | rfl | exact P10.out (by simpa using h)), (fun h => by first | rfl | exact P11.out (by simpa using h))⟩⟩
          · simp only [List.getElem?_toArray, List.getElem?_cons_zero, List.getElem?_cons_succ, Option.some.injEq] at ho
            subst ho
            obtain rfl := p4 (hafter ⟨4, .data⟩ (by simp) rfl)
            have c0 := (hS.1.cell (p := ⟨wr.heap.size, 0, none⟩) hl_U).trans k_U_0
            have P0 := Lib.hid p0
            have P1 := Lib.hid p1
            have P2 := Lib.hid p2
            have P3 := Lib.hid p3
            have P4 := Lib.hid p4
            have P5 := Lib.hid p5
            have P6 := Lib.hid p6
            have P7 := Lib.hid p7
            have P8 := Lib.hid p8
            have P9 := Lib.hid p9
            have P10 := Lib.hid p10
            have P11 := Lib.hid p11
            have HS := Lib.hid hS
            clear hS hLi hafter p0 p1 p2 p3 p4 p5 p6 p7 p8 p9 p10 p11
            simp only [Act.put, List.setIfInBounds_toArray, List.set_cons_zero, List.set_cons_succ]
            go_wp2_with fail
            exact ⟨u13, u14, u15, u16, .pointer (some ⟨wr.heap.size, 0, none⟩), .int .i64 x, u19, u20, u21, u22, u23, u24, by simp only [Act.put, List.setIfInBounds_toArray, List.set_cons_zero, List.set_cons_succ], .inl ⟨by simpa using hLl, HS.out, (fun h => by first | rfl | exact P0.out (by simpa using h)), (fun h => by first | rfl | exact P1.out (by simpa using h)), (fun h => by first | rfl | exact P2.out (by simpa using h)), (fun h => by first | rfl | exact P3.out (by simpa using h)), (fun h => by first | rfl | exact P4.out (by simpa using h)), (fun _ => rfl), (fun h => by first | rfl | exact P6.out (by simpa using h)), (fun h => by first | rfl | exact P7.out (by simpa using h)), (fun h => by first | rfl | exact P8.out (by simpa using h)), (fun h => by first | rfl | exact P9.out (by simpa using h)), (fun h => by first | rfl | exact P10.out (by simpa using h)), (fun h => by first | rfl | exact P11.out (by simpa using h))⟩⟩
          · simp only [List.getElem?_toArray, List.getElem?_cons_zero, List.getElem?_cons_succ, Option.some.injEq] at ho
            subst ho
            obtain rfl := p3 (hafter ⟨3, .data⟩ (by simp) rfl)
            obtain rfl := p5 (hafter ⟨5, .data⟩ (by simp) rfl)
            have P0 := Lib.hid p0
            have P1 := Lib.hid p1
            have P2 := Lib.hid p2
            have P3 := Lib.hid p3
            have P4 := Lib.hid p4
            have P5 := Lib.hid p5
            have P6 := Lib.hid p6
            have P7 := Lib.hid p7
            have P8 := Lib.hid p8
            have P9 := Lib.hid p9
            have P10 := Lib.hid p10
            have P11 := Lib.hid p11
            have HS := Lib.hid hS
            clear hS hLi hafter p0 p1 p2 p3 p4 p5 p6 p7 p8 p9 p10 p11
            simp only [Act.put, List.setIfInBounds_toArray, List.set_cons_zero, List.set_cons_succ]
            go_wp2_with (at_lookup; refine wp_look_i _ rfl _ _ rfl mtI w.heap.size _ _ rfl (HM.out.below HS.out.1) x v rfl HX64.out HV.out ?_)
            exact ⟨u13, u14, u15, .map (some w.heap.size), u17, .int .i64 x, .int .i64 v, u20, u21, u22, u23, u24, by simp only [Act.put, List.setIfInBounds_toArray, List.set_cons_zero, List.set_cons_succ], .inl ⟨by simpa using hLl, HS.out, (fun h => by first | rfl | exact P0.out (by simpa using h)), (fun h => by first | rfl | exact P1.out (by simpa using h)), (fun h => by first | rfl | exact P2.out (by simpa using h)), (fun h => by first | rfl | exact P3.out (by simpa using h)), (fun h => by first | rfl | exact P4.out (by simpa using h)), (fun h => by first | rfl | exact P5.out (by simpa using h)), (fun _ => rfl), (fun h => by first | rfl | exact P7.out (by simpa using h)), (fun h => by first | rfl | exact P8.out (by simpa using h)), (fun h => by first | rfl | exact P9.out (by simpa using h)), (fun h => by first | rfl | exact P10.out (by simpa using h)), (fun h => by first | rfl | exact P11.out (by simpa using h))⟩⟩
          · simp only [List.getElem?_toArray, List.getElem?_cons_zero, List.getElem?_cons_succ, Option.some.injEq] at ho
            subst ho
            have P0 := Lib.hid p0
            have P1 := Lib.hid p1
            have P2 := Lib.hid p2
            have P3 := Lib.hid p3
            have P4 := Lib.hid p4
            have P5 := Lib.hid p5
            have P6 := Lib.hid p6
            have P7 := Lib.hid p7
            have P8 := Lib.hid p8
            have P9 := Lib.hid p9
            have P10 := Lib.hid p10
            have P11 := Lib.hid p11
            have HS := Lib.hid hS
            clear hS hLi hafter p0 p1 p2 p3 p4 p5 p6 p7 p8 p9 p10 p11
            simp only [Act.put, List.setIfInBounds_toArray, List.set_cons_zero, List.set_cons_succ]
            go_wp2_with fail
            exact ⟨u13, u14, u15, u16, u17, u18, u19, .pointer (some ⟨wr.heap.size, 1, none⟩), u21, u22, u23, u24, by simp only [Act.put, List.setIfInBounds_toArray, List.set_cons_zero, List.set_cons_succ], .inl ⟨by simpa using hLl, HS.out, (fun h => by first | rfl | exact P0.out (by simpa using h)), (fun h => by first | rfl | exact P1.out (by simpa using h)), (fun h => by first | rfl | exact P2.out (by simpa using h)), (fun h => by first | rfl | exact P3.out (by simpa using h)), (fun h => by first | rfl | exact P4.out (by simpa using h)), (fun h => by first | rfl | exact P5.out (by simpa using h)), (fun h => by first | rfl | exact P6.out (by simpa using h)), (fun _ => rfl), (fun h => by first | rfl | exact P8.out (by simpa using h)), (fun h => by first | rfl | exact P9.out (by simpa using h)), (fun h => by first | rfl | exact P10.out (by simpa using h)), (fun h => by first | rfl | exact P11.out (by simpa using h))⟩⟩
          · simp only [List.getElem?_toArray, List.getElem?_cons_zero, List.getElem?_cons_succ, Option.some.injEq] at ho
            subst ho
            obtain rfl := p7 (hafter ⟨7, .data⟩ (by simp) rfl)
            have c1 := (hS.1.cell (p := ⟨wr.heap.size, 1, none⟩) hl_U).trans k_U_1
            have P0 := Lib.hid p0
            have P1 := Lib.hid p1
            have P2 := Lib.hid p2
            have P3 := Lib.hid p3
            have P4 := Lib.hid p4
            have P5 := Lib.hid p5
            have P6 := Lib.hid p6
            have P7 := Lib.hid p7
            have P8 := Lib.hid p8
            have P9 := Lib.hid p9
            have P10 := Lib.hid p10
            have P11 := Lib.hid p11
            have HS := Lib.hid hS
            clear hS hLi hafter p0 p1 p2 p3 p4 p5 p6 p7 p8 p9 p10 p11
            simp only [Act.put, List.setIfInBounds_toArray, List.set_cons_zero, List.set_cons_succ]
            go_wp2_with fail
            exact ⟨u13, u14, u15, u16, u17, u18, u19, .pointer (some ⟨wr.heap.size, 1, none⟩), .int .i64 c, u22, u23, u24, by simp only [Act.put, List.setIfInBounds_toArray, List.set_cons_zero, List.set_cons_succ], .inl ⟨by simpa using hLl, HS.out, (fun h => by first | rfl | exact P0.out (by simpa using h)), (fun h => by first | rfl | exact P1.out (by simpa using h)), (fun h => by first | rfl | exact P2.out (by simpa using h)), (fun h => by first | rfl | exact P3.out (by simpa using h)), (fun h => by first | rfl | exact P4.out (by simpa using h)), (fun h => by first | rfl | exact P5.out (by simpa using h)), (fun h => by first | rfl | exact P6.out (by simpa using h)), (fun h => by first | rfl | exact P7.out (by simpa using h)), (fun _ => rfl), (fun h => by first | rfl | exact P9.out (by simpa using h)), (fun h => by first | rfl | exact P10.out (by simpa using h)), (fun h => by first | rfl | exact P11.out (by simpa using h))⟩⟩
          · simp only [List.getElem?_toArray, List.getElem?_cons_zero, List.getElem?_cons_succ, Option.some.injEq] at ho
            subst ho
            obtain rfl := p8 (hafter ⟨8, .data⟩ (by simp) rfl)
            have P0 := Lib.hid p0
            have P1 := Lib.hid p1
            have P2 := Lib.hid p2
            have P3 := Lib.hid p3
            have P4 := Lib.hid p4
            have P5 := Lib.hid p5
            have P6 := Lib.hid p6
            have P7 := Lib.hid p7
            have P8 := Lib.hid p8
            have P9 := Lib.hid p9
            have P10 := Lib.hid p10
            have P11 := Lib.hid p11
            have HS := Lib.hid hS
            clear hS hLi hafter p0 p1 p2 p3 p4 p5 p6 p7 p8 p9 p10 p11
            simp only [Act.put, List.setIfInBounds_toArray, List.set_cons_zero, List.set_cons_succ]
            go_wp2_with fail
            refine (limited_any _ _).mono ?_
            rintro e wn ⟨rfl, rfl⟩
            rw [HL.out]
            go_wp2_with fail
            exact ⟨u13, u14, u15, u16, u17, u18, u19, u20, .int .i64 c, .int .i64 l, u23, u24, by simp only [Act.put, List.setIfInBounds_toArray, List.set_cons_zero, List.set_cons_succ], .inl ⟨by simpa using hLl, HS.out, (fun h => by first | rfl | exact P0.out (by simpa using h)), (fun h => by first | rfl | exact P1.out (by simpa using h)), (fun h => by first | rfl | exact P2.out (by simpa using h)), (fun h => by first | rfl | exact P3.out (by simpa using h)), (fun h => by first | rfl | exact P4.out (by simpa using h)), (fun h => by first | rfl | exact P5.out (by simpa using h)), (fun h => by first | rfl | exact P6.out (by simpa using h)), (fun h => by first | rfl | exact P7.out (by simpa using h)), (fun h => by first | rfl | exact P8.out (by simpa using h)), (fun _ => rfl), (fun h => by first | rfl | exact P10.out (by simpa using h)), (fun h => by first | rfl | exact P11.out (by simpa using h))⟩⟩
          · simp only [List.getElem?_toArray, List.getElem?_cons_zero, List.getElem?_cons_succ, Option.some.injEq] at ho
            subst ho
            obtain rfl := p6 (hafter ⟨6, .data⟩ (by simp) rfl)
            obtain rfl := p9 (hafter ⟨9, .data⟩ (by simp) rfl)
            have P0 := Lib.hid p0
            have P1 := Lib.hid p1
            have P2 := Lib.hid p2
            have P3 := Lib.hid p3
            have P4 := Lib.hid p4
            have P5 := Lib.hid p5
            have P6 := Lib.hid p6
            have P7 := Lib.hid p7
            have P8 := Lib.hid p8
            have P9 := Lib.hid p9
            have P10 := Lib.hid p10
            have P11 := Lib.hid p11
            have HS := Lib.hid hS
            clear hS hLi hafter p0 p1 p2 p3 p4 p5 p6 p7 p8 p9 p10 p11
            simp only [Act.put, List.setIfInBounds_toArray, List.set_cons_zero, List.set_cons_succ]
            go_wp2_with fail
            exact ⟨u13, u14, u15, u16, u17, u18, .int .i64 v, u20, u21, .int .i64 l, .int .i64 (v + l), u24, by simp only [Act.put, List.setIfInBounds_toArray, List.set_cons_zero, List.set_cons_succ], .inl ⟨by simpa using hLl, HS.out, (fun h => by first | rfl | exact P0.out (by simpa using h)), (fun h => by first | rfl | exact P1.out (by simpa using h)), (fun h => by first | rfl | exact P2.out (by simpa using h)), (fun h => by first | rfl | exact P3.out (by simpa using h)), (fun h => by first | rfl | exact P4.out (by simpa using h)), (fun h => by first | rfl | exact P5.out (by simpa using h)), (fun h => by first | rfl | exact P6.out (by simpa using h)), (fun h => by first | rfl | exact P7.out (by simpa using h)), (fun h => by first | rfl | exact P8.out (by simpa using h)), (fun h => by first | rfl | exact P9.out (by simpa using h)), (fun _ => rfl), (fun h => by first | rfl | exact P11.out (by simpa using h))⟩⟩
          · simp only [List.getElem?_toArray, List.getElem?_cons_zero, List.getElem?_cons_succ, Option.some.injEq] at ho
            subst ho
            obtain rfl := p10 (hafter ⟨10, .data⟩ (by simp) rfl)
            have P0 := Lib.hid p0
            have P1 := Lib.hid p1
            have P2 := Lib.hid p2
            have P3 := Lib.hid p3
            have P4 := Lib.hid p4
            have P5 := Lib.hid p5
            have P6 := Lib.hid p6
            have P7 := Lib.hid p7
            have P8 := Lib.hid p8
            have P9 := Lib.hid p9
            have P10 := Lib.hid p10
            have P11 := Lib.hid p11
            have HS := Lib.hid hS
            clear hS hLi hafter p0 p1 p2 p3 p4 p5 p6 p7 p8 p9 p10 p11
            simp only [Act.put, List.setIfInBounds_toArray, List.set_cons_zero, List.set_cons_succ]
            go_wp2_with fail
            refine (limited_any _ _).mono ?_
            rintro e wn ⟨rfl, rfl⟩
            rw [HY.out]
            go_wp2_with fail
            exact ⟨u13, u14, u15, u16, u17, u18, u19, u20, u21, u22, .int .i64 (v + l), .int .i64 y, by simp only [Act.put, List.setIfInBounds_toArray, List.set_cons_zero, List.set_cons_succ], .inl ⟨by simpa using hLl, HS.out, (fun h => by first | rfl | exact P0.out (by simpa using h)), (fun h => by first | rfl | exact P1.out (by simpa using h)), (fun h => by first | rfl | exact P2.out (by simpa using h)), (fun h => by first | rfl | exact P3.out (by simpa using h)), (fun h => by first | rfl | exact P4.out (by simpa using h)), (fun h => by first | rfl | exact P5.out (by simpa using h)), (fun h => by first | rfl | exact P6.out (by simpa using h)), (fun h => by first | rfl | exact P7.out (by simpa using h)), (fun h => by first | rfl | exact P8.out (by simpa using h)), (fun h => by first | rfl | exact P9.out (by simpa using h)), (fun h => by first | rfl | exact P10.out (by simpa using h)), (fun _ => rfl)⟩⟩
          · simp only [List.getElem?_toArray, List.getElem?_cons_zero, List.getElem?_cons_succ, Option.some.injEq] at ho
            subst ho
            have hall : ∀ j, j < 12 → Ls j = true := by
              intro j hj
              obtain rfl | rfl | rfl | rfl | rfl | rfl | rfl | rfl | rfl | rfl | rfl | rfl : j = 0 ∨ j = 1 ∨ j = 2 ∨ j = 3 ∨ j = 4 ∨ j = 5 ∨ j = 6 ∨ j = 7 ∨ j = 8 ∨ j = 9 ∨ j = 10 ∨ j = 11 := by omega
              all_goals first | (refine hafter ⟨_, .phase⟩ ?_ rfl; simp; done) | (refine hafter ⟨_, .data⟩ ?_ rfl; simp; done)
            have HALL := Lib.hid hall
            clear hall
            obtain rfl := p0 (hafter ⟨0, .data⟩ (by simp) rfl)
            obtain rfl := p2 (hafter ⟨2, .data⟩ (by simp) rfl)
            obtain rfl := p11 (hafter ⟨11, .data⟩ (by simp) rfl)
            have P0 := Lib.hid p0
            have P1 := Lib.hid p1
            have P2 := Lib.hid p2
            have P3 := Lib.hid p3
            have P4 := Lib.hid p4
            have P5 := Lib.hid p5
            have P6 := Lib.hid p6
            have P7 := Lib.hid p7
            have P8 := Lib.hid p8
            have P9 := Lib.hid p9
            have P10 := Lib.hid p10
            have P11 := Lib.hid p11
            have HS := Lib.hid hS
            clear hS hLi hafter p0 p1 p2 p3 p4 p5 p6 p7 p8 p9 p10 p11
            simp only [Act.put, List.setIfInBounds_toArray, List.set_cons_zero, List.set_cons_succ]
            go_wp2_with (at_mapUpdate; refine wp_put_i _ rfl _ _ _ rfl mtI w.heap.size _ _ rfl (HM.out.below HS.out.1) hkm x y rfl HX64.out rfl HY64.out ?_; intro w2 hm2 hg2; have HM2 := Lib.hid hm2; have HG2 := Lib.hid hg2; clear hm2 hg2)
            exact ⟨.map (some w.heap.size), u14, .int .i64 x, u16, u17, u18, u19, u20, u21, u22, u23, .int .i64 y, by simp only [Act.put, List.setIfInBounds_toArray, List.set_cons_zero, List.set_cons_succ], .inr ⟨by simp, fun j hj => by simp [HALL.out j hj], ⟨_, HS.out, HG2.out, HM2.out⟩⟩⟩
        · exfalso
          have hi : i < 13 := (Array.getElem?_eq_some_iff.1 ho).1
          rcases Nat.lt_or_ge i 12 with h | h
          · rw [hall i h] at hLi; cases hLi
          · obtain rfl : i = 12 := by omega
            rw [h10] at hLi; cases hLi
      · intro Ls a0 wq hall hJ
        obtain ⟨u13, u14, u15, u16, u17, u18, u19, u20, u21, u22, u23, u24, rfl, ⟨h10, _⟩ | ⟨_, _, hcut⟩⟩ := hJ
        · rw [hall 12 (by decide)] at h10; cases h10
        · obtain ⟨w1, hs1, hg1, hm1⟩ := hcut
          have HM1 := Lib.hid hm1
          have HB1 := Lib.hid (show Below w.heap.size w wq from ((HB.out.trans (hs1.1.mono hs0)).grown hg1 (by have := hs1.2; omega) (fun j hj => by cases hj; exact Nat.le_refl _)))
          clear hm1 hs1 hg1
          simp only [Act.put, List.setIfInBounds_toArray, List.set_cons_zero, List.set_cons_succ]
          go_wp2_with fail
          go_roundw
          case rel => exact ⟨k + 1, by omega, by go_num, HM1.out.congr (Nat.le_refl _) (fun z _ => HUP.out z), HB1.out⟩
          case measure => simp [intOf]; omega
    · obtain rfl : k = n := by omega
      go_wp2_with fail
      go_ret
      exact ⟨w.heap.size, rfl, Nat.le_refl _, HM.out, HB.out⟩

end Go.Proofs.Ytmljfaplohbjcaa
