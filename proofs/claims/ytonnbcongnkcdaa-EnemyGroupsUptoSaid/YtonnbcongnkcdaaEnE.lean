/- Contract of the reference's put: a pair into a list in normal form. Conditions: lists of at most 2^43 - 2 elements. -/
import Derived.Test.YtonnbcongnkcdaaEnD
namespace Go.Proofs.Ytonnbcongnkcdaa
open Go.RowKit

theorem Op2.start {B : Nat} (E : TypeId) (w : World) (hB : B ≤ w.heap.size) : Op2 B E (w.alloc (.cells #[] E)) (.slice (some ⟨w.heap.size, 0, none⟩) 0 0) [] := World.ownsRow_made w #[] 0 hB (by decide) rfl
theorem block_nameP {P : Program} {Q : Exit → Act → World → Prop} {c : Code} {a : Act} {w : World} (h : ∀ W, w = W → c.wp P Q a W) : c.wp P Q a w := h w rfl
theorem putT_keep {p x : Int × Int} {o : List (Int × Int)} {dn : Bool} (h : (dn || decide (x = p)) = true) : putT p (o, dn) x = (o ++ [x], true) := by unfold putT; rw [h, if_neg (by simp)]
theorem putT_in {p x : Int × Int} {o : List (Int × Int)} (h : x ≠ p) (h2 : lxB p x = true) : putT p (o, false) x = ((o ++ [p]) ++ [x], true) := by unfold putT; rw [if_pos ⟨by simp [h], h2⟩]; simp
theorem putT_go {p x : Int × Int} {o : List (Int × Int)} (h : x ≠ p) (h2 : lxB p x = false) : putT p (o, false) x = (o ++ [x], false) := by unfold putT; rw [if_neg (by simp [h2])]; simp [h]
theorem putS_cnt (p : Int × Int) : ∀ (L : List (Int × Int)) (k : Nat), k ≤ L.length → (putS p (L.take k)).1.length + (if (putS p (L.take k)).2 = true then 0 else 1) ≤ k + 1
  | L, 0, _ => by simp [putS]; split <;> omega
  | L, k + 1, hk => by
    have ih := putS_cnt p L k (by omega)
    rw [take_snoc (show k < L.length by omega), putS_snoc]
    generalize putS p (L.take k) = s at ih ⊢
    obtain ⟨o, dn⟩ := s
    unfold putT
    simp only at ih ⊢
    by_cases c : (dn || decide (L[k] = p)) = false ∧ lxB p L[k] = true
    · rw [if_pos c]
      have h1 : dn = false := by have := c.1; simp at this; exact this.1
      subst h1
      simp at ih ⊢
      omega
    · rw [if_neg c]
      cases dn
      · simp at ih ⊢
        split <;> omega
      · simp at ih ⊢
        omega
def PutJ (b off k n cap : Nat) (p1 p2 x y : Int) (lb : Bool) (W : World) (z0 : Act) (L : Nat → Bool) (z1 : Act) (w : World) : Prop :=
  ∃ u26 u27 u28 u29 u30 u31 u32 u33 u34 u35, z1 = ((((((((((z0.put (some 26) u26).put (some 27) u27).put (some 28) u28).put (some 29) u29).put (some 30) u30).put (some 31) u31).put (some 32) u32).put (some 33) u33).put (some 34) u34).put (some 35) u35) ∧ Since W w ∧ (L 0 = true → u26 = .bool false) ∧ (L 1 = true → u27 = .bool true) ∧ (L 2 = true → u28 = .bool true) ∧ (L 3 = true → u29 = .agg #[.int .i64 p1, .int .i64 p2]) ∧ (L 4 = true → u30 = .slice (some ⟨b, off, none⟩) n cap) ∧ (L 5 = true → u31 = .int .i64 (k : Nat)) ∧ (L 6 = true → u32 = .pointer (some ⟨b, off + k * 2, none⟩)) ∧ (L 7 = true → u33 = .agg #[.int .i64 x, .int .i64 y]) ∧ (L 8 = true → u34 = .bool lb) ∧ (L 9 = true → u35 = .bool lb)


set_option maxRecDepth 20000 in
set_option maxHeartbeats 8000000 in
theorem xput_any (a : Option Addr) (n cap : Nat) (L : List (Int × Int)) (p : Int × Int) (w : World) (h : Pr w a n cap L) (hn : n ≤ 8796093022206) :
    Calls Try.prog 35 #[.slice a n cap, .agg #[.int .i64 p.1, .int .i64 p.2]] w fun e w' => ∃ v, e = .returned v ∧ (∃ B, w.heap.size ≤ B ∧ Op2 B 47 w' v (putL L p)) ∧ Below w.heap.size w w' := by
  obtain ⟨p1, p2⟩ := p
  have HPL := Lib.hid h
  have b1 := h.2.1
  have b2 := h.2.2.1
  have b0 := h.1
  unfold maxLen at b2
  have HLN := Lib.hid b0
  clear h b0
  obtain ⟨i0, hi, hzz⟩ := Option.map_eq_some_iff.1 infoPairE
  simp only [Prod.mk.injEq] at hzz
  obtain ⟨hz0, hz1, hz2⟩ := hzz
  have HB := Lib.hid (Below.refl w.heap.size w)
  have mixed : Try.prog.follows Departure.mixedOrders = true := by kernel_rfl
  obtain ⟨dq, hdq⟩ : ∃ b, (p1 == p2) = b := ⟨_, rfl⟩
  have hdq2 : decide (p1 = p2) = dq := by rw [← hdq]; cases e : (p1 == p2) <;> simp_all
  have HDQ := Lib.hid hdq2
  clear hdq2
  go_enter Try.func35, Try.ntmps35
  go_upto_region 1 with fail
  refine block_nameP fun w1 hW => ?_
  have hs_w1 : w.heap.size ≤ w1.heap.size := by rw [← hW]; (first | omega | (simp; done) | (simp; omega))
  have hs0_w1 : w.heap.size ≤ w1.heap.size := by rw [← hW]; (first | omega | (simp; done) | (simp; omega))
  have hl_P_w1 : w.heap.size < w1.heap.size := by rw [← hW]; (first | omega | (simp; done) | (simp; omega))
  have k_P_0_w1 : w1.cell? ⟨w.heap.size, 0, none⟩ = some (.int .i64 p1) := by rw [← hW]; (first | (go_simp; done) | (simp; done) | (simp [go_sem]; done) | (simp [go_sem]; done))
  have k_P_1_w1 : w1.cell? ⟨w.heap.size, 1, none⟩ = some (.int .i64 p2) := by rw [← hW]; (first | (go_simp; done) | (simp; done) | (simp [go_sem]; done) | (simp [go_sem]; done))
  have f_P_w1 : ∀ o, w1.frozen? ⟨w.heap.size, o, none⟩ = false := by intro o; rw [← hW]; (first | (go_simp; done) | (simp; done) | (simp [go_sem]; done) | (simp [go_sem]; done))
  have HX_P_w1 := Lib.hid (show Bn w1 (w.heap.size) by rw [← hW]; (repeat' (first | with_reducible exact Kp.refl _ _ | with_reducible apply Kp.alloc | with_reducible apply Kp.drew | (with_reducible refine Kp.put ?_ ?_ ?_ _; rotate_left; (focus (first | omega | (simp; done) | (simp; omega))); rotate_left) | (with_reducible refine Bn.new _ _ _ _ ?_ ?_; (focus (first | omega | (simp; done) | (simp; omega))); decide) | with_reducible apply Bn.alloc | with_reducible apply Bn.drew | with_reducible apply Bn.set)))
  have HB_w1 := Lib.hid (show Below w.heap.size w w1 by rw [← hW]; (repeat' (first | with_reducible exact Below.refl _ _ | with_reducible exact HB.out | (with_reducible refine Below.alloc ?_ ?_ _; rotate_left; (focus (first | omega | (simp; done) | (simp; omega)))) | with_reducible apply Below.drew | (with_reducible refine Below.setCell ?_ ?_ _; rotate_left; (focus (first | omega | (simp; done) | (simp; omega)))))))
  have HL_w1 := Lib.hid (show Below w.heap.size w w1 by rw [← hW]; (repeat' (first | with_reducible exact Below.refl _ _ | (with_reducible refine Below.alloc ?_ ?_ _; rotate_left; (focus (first | omega | (simp; done) | (simp; omega)))) | with_reducible apply Below.drew | (with_reducible refine Below.setCell ?_ ?_ _; rotate_left; (focus (first | omega | (simp; done) | (simp; omega)))))))
  have HPL_w1 := Lib.hid (HPL.out.below HL_w1.out)
  clear HL_w1
  clear hW
  clear HB
  have HB := HB_w1
  have hs0 := hs0_w1
  have hl_P := hl_P_w1
  have f_P := f_P_w1
  have HX_P := HX_P_w1
  have k_P_0 := k_P_0_w1
  have k_P_1 := k_P_1_w1
  clear HB_w1 hs0_w1 hl_P_w1 f_P_w1 HX_P_w1 k_P_0_w1 k_P_1_w1
  clear HPL
  have HPL := HPL_w1
  clear HPL_w1
  go_wp2_with fail
  go_loopw [5, 6, 7] (fun out dn i wr => ∃ (k : Nat) (l : List (Int × Int)) (d : Bool), k ≤ n ∧ i = .int .i64 k ∧ dn = .bool d ∧ putS (p1, p2) (L.take k) = (l, d) ∧ Op2 w1.heap.size 47 wr out l ∧ Below w1.heap.size w1 wr) (fun _ _ i _ => n - (intOf i).toNat)
  case atStart => exact ⟨0, [], dq, Nat.zero_le _, rfl, rfl, by rw [← HDQ.out]; rfl, Op2.start _ w1 (Nat.le_refl _), bel1 _ _⟩
  case round =>
    obtain ⟨k, l, dn, hk, rfl, rfl, hl, hop, hbel⟩ := hrel
    have HLL := Lib.hid hl
    have HOP := Lib.hid hop
    have HB0 := HB
    have hsw := hs0
    replace HB := Lib.hid hbel
    replace hs0 := hbel.size
    have HL2 := Lib.hid (HPL.out.below hbel)
    have hl_P' : w.heap.size < wr.heap.size := Nat.lt_of_lt_of_le hl_P hbel.size
    have k_P_0' : wr.cell? ⟨w.heap.size, 0, none⟩ = some (.int .i64 p1) := (hbel.cell (p := ⟨w.heap.size, 0, none⟩) hl_P).trans k_P_0
    have k_P_1' : wr.cell? ⟨w.heap.size, 1, none⟩ = some (.int .i64 p2) := (hbel.cell (p := ⟨w.heap.size, 1, none⟩) hl_P).trans k_P_1
    have f_P' : ∀ o, wr.frozen? ⟨w.heap.size, o, none⟩ = false := fun o => (hbel.frozen (p := ⟨w.heap.size, o, none⟩) hl_P).trans (f_P o)
    have HX_P' := Lib.hid (HX_P.out.below hbel)
    clear hl_P f_P HX_P k_P_0 k_P_1
    have hl_P := hl_P'
    have f_P := f_P'
    have HX_P := HX_P'
    have k_P_0 := k_P_0'
    have k_P_1 := k_P_1'
    clear hl_P' f_P' HX_P' k_P_0' k_P_1'
    have hll : l.length ≤ k + 1 := by have := putS_cnt (p1, p2) L k (by have := HLN.out; omega); rw [hl] at this; exact Nat.le_trans (Nat.le_add_right _ _) this
    clear hbel hl hop
    by_cases hkn : k < n
    · obtain ⟨b, off, rfl, hc⟩ := HL2.out.2.2.2 (by omega)
      have hkL : k < L.length := by have := HLN.out; omega
      obtain ⟨g0, g1⟩ := hc k hkn
      rw [getD_lt hkL] at g0 g1
      obtain ⟨x, y, exy⟩ : ∃ x y, L[k] = (x, y) := ⟨_, _, rfl⟩
      rw [exy] at g0 g1
      simp only at g0 g1
      have HST := Lib.hid (show putS (p1, p2) (L.take (k + 1)) = putT (p1, p2) (l, dn) (x, y) by rw [take_snoc hkL, putS_snoc, exy, HLL.out])
      have hix0 : (0 : Int) ≤ (k : Int) := by omega
      have hix1 : (k : Int) < (n : Int) := by omega
      have EXY := Lib.hid exy
      clear hc exy
      cases dn
      · have HOPD := Lib.hid (show Op2 w1.heap.size 47 wr.drew.drew _ l from (HOP.out.below ((Below.refl _ _).drew)).below ((Below.refl _ _).drew))
        have HBD := Lib.hid (show Below w1.heap.size w1 wr.drew.drew from HB.out.drew.drew)
        have hsD : w1.heap.size ≤ wr.drew.drew.heap.size := hs0
        by_cases e1 : p1 = x
        · subst e1
          by_cases e2 : p2 = y
          · subst e2
            go_wp2_with fail
            go_region_o
            go_wp2_with fail
            go_big_region_o
            go_wp2_with (at_builtin; refine wpList_append_own_at _ rfl (.tmp 40) (.tmp 45) 22 rfl w1.heap.size 47 i0 (.agg #[.int .i64 0, .int .i64 0]) 2 16 pairUnder hi hz0 hz1 hz2 rfl (by decide) _ (l).length ((l).flatMap enc2) rfl (World.ownsRow.alloc HOPD.out _) ⟨wr.heap.size, 0, none⟩ 1 1 [.int .i64 p1, .int .i64 p2] (by first | rfl | simp) rfl (cell_twoP _ _ rfl _ _ _) (by intro u hu; rcases List.mem_cons.1 hu with rfl | hu; (· rfl); (· rcases List.mem_cons.1 hu with rfl | hu; (· rfl); (· cases hu))) (by unfold maxLen; omega) (by omega) (by first | omega | (simp; omega)) ?_; intro v2HO9 HO9w hm9 hg9 _ hat9; have HO9 := Lib.hid (Op2.push hm9); have HB9 := Lib.hid ((HBD.out.alloc hsD _).grown hg9 (by simp; omega) (fun j hj => (HOPD.out.lt j hj).1)); have HO9z := HB9.out.size; clear hm9 hg9 hat9)
            go_roundw
            case rel => exact ⟨k + 1, l ++ [(p1, p2)], true, by omega, by go_num, rfl, by rw [HST.out]; exact putT_keep (by simp), HO9.out, HB9.out⟩
            case measure => simp [intOf]; omega
          · have hb2 : (y == p2) = false := by simp; exact fun h => e2 h.symm
            have HE2 := Lib.hid e2
            clear e2
            have HNE := Lib.hid (show (p1, y) ≠ (p1, p2) from fun h => by cases h; exact HE2.out rfl)
            go_wp2_with fail
            go_region_o
            go_wp2_with fail
            refine region_name fun W1 hW => ?_
            have HBw := Lib.hid (show Below wr.heap.size wr W1 by rw [← hW]; (repeat' (first | with_reducible exact Below.refl _ _ | (with_reducible refine Below.alloc ?_ ?_ _; rotate_left; (focus (first | omega | (simp; done) | (simp; omega)))) | with_reducible apply Below.drew | (with_reducible refine Below.setCell ?_ ?_ _; rotate_left; (focus (first | omega | (simp; done) | (simp; omega)))))))
            clear hW
            replace g0 := cell_mono g0 HBw.out
            replace g1 := cell_mono g1 HBw.out
            replace k_P_0 := cell_mono k_P_0 HBw.out
            replace k_P_1 := cell_mono k_P_1 HBw.out
            replace hl_P : w.heap.size < W1.heap.size := Nat.lt_of_lt_of_le hl_P HBw.out.size
            have HOP1 := Lib.hid (HOP.out.below HBw.out)
            have HB1 := Lib.hid (HB.out.trans (HBw.out.mono hs0))
            have hs1 := HB1.out.size
            obtain ⟨lb, hlb⟩ : ∃ b, lxB (p1, p2) (p1, y) = b := ⟨_, rfl⟩
            have HLB := Lib.hid hlb
            clear hlb
            refine region_inv2 (by kernel_rfl) (PutJ b off k n cap p1 p2 p1 y lb (W1)) ?_ ?_ ?_ ?_
            · exact ⟨u26, u27, u28, u29, u30, u31, u32, u33, u34, u35, by simp only [Act.put, List.setIfInBounds_toArray, List.set_cons_zero, List.set_cons_succ], Since.drawn _, (fun h => by cases h), (fun h => by cases h), (fun h => by cases h), (fun h => by cases h), (fun h => by cases h), (fun h => by cases h), (fun h => by cases h), (fun h => by cases h), (fun h => by cases h), (fun h => by cases h)⟩
            · exact acyc_spec (by kernel_rfl)
            · intro Ls a0 wq i o ho hLi hafter hJ
              obtain ⟨u26, u27, u28, u29, u30, u31, u32, u33, u34, u35, rfl, hS, p0, p1, p2, p3, p4, p5, p6, p7, p8, p9⟩ := hJ
              have hi : i < 10 := (Array.getElem?_eq_some_iff.1 ho).1
              obtain rfl | rfl | rfl | rfl | rfl | rfl | rfl | rfl | rfl | rfl : i = 0 ∨ i = 1 ∨ i = 2 ∨ i = 3 ∨ i = 4 ∨ i = 5 ∨ i = 6 ∨ i = 7 ∨ i = 8 ∨ i = 9 := by omega
              · simp only [List.getElem?_toArray, List.getElem?_cons_zero, Option.some.injEq] at ho
                subst ho
                have P0 := Lib.hid p0
                have P1 := Lib.hid p1
                have P2 := Lib.hid p2
                have P3 := Lib.hid p3
                have P4 := Lib.hid p4
                have P5 := Lib.hid p5
                have P6 := Lib.hid p6
                have P7 := Lib.hid p7
                have P8 := Lib.hid p8
                have P9 := Lib.hid p9
                have HS := Lib.hid hS
                clear hS hLi hafter p0 p1 p2 p3 p4 p5 p6 p7 p8 p9
                simp only [Act.put, List.setIfInBounds_toArray, List.set_cons_zero, List.set_cons_succ]
                go_wp2_with fail
                exact ⟨.bool false, u27, u28, u29, u30, u31, u32, u33, u34, u35, by simp only [Act.put, List.setIfInBounds_toArray, List.set_cons_zero, List.set_cons_succ], HS.out, (fun _ => rfl), (fun h => by first | rfl | exact P1.out (by simpa using h)), (fun h => by first | rfl | exact P2.out (by simpa using h)), (fun h => by first | rfl | exact P3.out (by simpa using h)), (fun h => by first | rfl | exact P4.out (by simpa using h)), (fun h => by first | rfl | exact P5.out (by simpa using h)), (fun h => by first | rfl | exact P6.out (by simpa using h)), (fun h => by first | rfl | exact P7.out (by simpa using h)), (fun h => by first | rfl | exact P8.out (by simpa using h)), (fun h => by first | rfl | exact P9.out (by simpa using h))⟩
              · simp only [List.getElem?_toArray, List.getElem?_cons_zero, List.getElem?_cons_succ, Option.some.injEq] at ho
                subst ho
                obtain rfl := p0 (hafter ⟨0, .data⟩ (by simp) rfl)
                have P0 := Lib.hid p0
                have P1 := Lib.hid p1
                have P2 := Lib.hid p2
                have P3 := Lib.hid p3
                have P4 := Lib.hid p4
                have P5 := Lib.hid p5
                have P6 := Lib.hid p6
                have P7 := Lib.hid p7
                have P8 := Lib.hid p8
                have P9 := Lib.hid p9
                have HS := Lib.hid hS
                clear hS hLi hafter p0 p1 p2 p3 p4 p5 p6 p7 p8 p9
                simp only [Act.put, List.setIfInBounds_toArray, List.set_cons_zero, List.set_cons_succ]
                go_wp2_with fail
                exact ⟨.bool false, .bool true, u28, u29, u30, u31, u32, u33, u34, u35, by simp only [Act.put, List.setIfInBounds_toArray, List.set_cons_zero, List.set_cons_succ], HS.out, (fun h => by first | rfl | exact P0.out (by simpa using h)), (fun _ => rfl), (fun h => by first | rfl | exact P2.out (by simpa using h)), (fun h => by first | rfl | exact P3.out (by simpa using h)), (fun h => by first | rfl | exact P4.out (by simpa using h)), (fun h => by first | rfl | exact P5.out (by simpa using h)), (fun h => by first | rfl | exact P6.out (by simpa using h)), (fun h => by first | rfl | exact P7.out (by simpa using h)), (fun h => by first | rfl | exact P8.out (by simpa using h)), (fun h => by first | rfl | exact P9.out (by simpa using h))⟩
              · simp only [List.getElem?_toArray, List.getElem?_cons_zero, List.getElem?_cons_succ, Option.some.injEq] at ho
                subst ho
                obtain rfl := p1 (hafter ⟨1, .data⟩ (by simp) rfl)
                have P0 := Lib.hid p0
                have P1 := Lib.hid p1
                have P2 := Lib.hid p2
                have P3 := Lib.hid p3
                have P4 := Lib.hid p4
                have P5 := Lib.hid p5
                have P6 := Lib.hid p6
                have P7 := Lib.hid p7
                have P8 := Lib.hid p8
                have P9 := Lib.hid p9
                have HS := Lib.hid hS
                clear hS hLi hafter p0 p1 p2 p3 p4 p5 p6 p7 p8 p9
                simp only [Act.put, List.setIfInBounds_toArray, List.set_cons_zero, List.set_cons_succ]
                go_wp2_with fail
                exact ⟨u26, .bool true, .bool true, u29, u30, u31, u32, u33, u34, u35, by simp only [Act.put, List.setIfInBounds_toArray, List.set_cons_zero, List.set_cons_succ], HS.out, (fun h => by first | rfl | exact P0.out (by simpa using h)), (fun h => by first | rfl | exact P1.out (by simpa using h)), (fun _ => rfl), (fun h => by first | rfl | exact P3.out (by simpa using h)), (fun h => by first | rfl | exact P4.out (by simpa using h)), (fun h => by first | rfl | exact P5.out (by simpa using h)), (fun h => by first | rfl | exact P6.out (by simpa using h)), (fun h => by first | rfl | exact P7.out (by simpa using h)), (fun h => by first | rfl | exact P8.out (by simpa using h)), (fun h => by first | rfl | exact P9.out (by simpa using h))⟩
              · simp only [List.getElem?_toArray, List.getElem?_cons_zero, List.getElem?_cons_succ, Option.some.injEq] at ho
                subst ho
                obtain rfl := p2 (hafter ⟨2, .guard⟩ (by simp) rfl)
                have c0 := (hS.1.cell (p := ⟨w.heap.size, 0, none⟩) hl_P).trans k_P_0
                have c1 := (hS.1.cell (p := ⟨w.heap.size, 1, none⟩) hl_P).trans k_P_1
                have P0 := Lib.hid p0
                have P1 := Lib.hid p1
                have P2 := Lib.hid p2
                have P3 := Lib.hid p3
                have P4 := Lib.hid p4
                have P5 := Lib.hid p5
                have P6 := Lib.hid p6
                have P7 := Lib.hid p7
                have P8 := Lib.hid p8
                have P9 := Lib.hid p9
                have HS := Lib.hid hS
                clear hS hLi hafter p0 p1 p2 p3 p4 p5 p6 p7 p8 p9
                simp only [Act.put, List.setIfInBounds_toArray, List.set_cons_zero, List.set_cons_succ]
                go_wp2_with fail
                exact ⟨u26, u27, .bool true, .agg #[.int .i64 p1, .int .i64 p2], u30, u31, u32, u33, u34, u35, by simp only [Act.put, List.setIfInBounds_toArray, List.set_cons_zero, List.set_cons_succ], HS.out, (fun h => by first | rfl | exact P0.out (by simpa using h)), (fun h => by first | rfl | exact P1.out (by simpa using h)), (fun h => by first | rfl | exact P2.out (by simpa using h)), (fun _ => rfl), (fun h => by first | rfl | exact P4.out (by simpa using h)), (fun h => by first | rfl | exact P5.out (by simpa using h)), (fun h => by first | rfl | exact P6.out (by simpa using h)), (fun h => by first | rfl | exact P7.out (by simpa using h)), (fun h => by first | rfl | exact P8.out (by simpa using h)), (fun h => by first | rfl | exact P9.out (by simpa using h))⟩
              · simp only [List.getElem?_toArray, List.getElem?_cons_zero, List.getElem?_cons_succ, Option.some.injEq] at ho
                subst ho
                obtain rfl := p2 (hafter ⟨2, .guard⟩ (by simp) rfl)
                have P0 := Lib.hid p0
                have P1 := Lib.hid p1
                have P2 := Lib.hid p2
                have P3 := Lib.hid p3
                have P4 := Lib.hid p4
                have P5 := Lib.hid p5
                have P6 := Lib.hid p6
                have P7 := Lib.hid p7
                have P8 := Lib.hid p8
                have P9 := Lib.hid p9
                have HS := Lib.hid hS
                clear hS hLi hafter p0 p1 p2 p3 p4 p5 p6 p7 p8 p9
                simp only [Act.put, List.setIfInBounds_toArray, List.set_cons_zero, List.set_cons_succ]
                go_wp2_with fail
                exact ⟨u26, u27, .bool true, u29, .slice (some ⟨b, off, none⟩) n cap, u31, u32, u33, u34, u35, by simp only [Act.put, List.setIfInBounds_toArray, List.set_cons_zero, List.set_cons_succ], HS.out, (fun h => by first | rfl | exact P0.out (by simpa using h)), (fun h => by first | rfl | exact P1.out (by simpa using h)), (fun h => by first | rfl | exact P2.out (by simpa using h)), (fun h => by first | rfl | exact P3.out (by simpa using h)), (fun _ => rfl), (fun h => by first | rfl | exact P5.out (by simpa using h)), (fun h => by first | rfl | exact P6.out (by simpa using h)), (fun h => by first | rfl | exact P7.out (by simpa using h)), (fun h => by first | rfl | exact P8.out (by simpa using h)), (fun h => by first | rfl | exact P9.out (by simpa using h))⟩
              · simp only [List.getElem?_toArray, List.getElem?_cons_zero, List.getElem?_cons_succ, Option.some.injEq] at ho
                subst ho
                obtain rfl := p2 (hafter ⟨2, .guard⟩ (by simp) rfl)
                have P0 := Lib.hid p0
                have P1 := Lib.hid p1
                have P2 := Lib.hid p2
                have P3 := Lib.hid p3
                have P4 := Lib.hid p4
                have P5 := Lib.hid p5
                have P6 := Lib.hid p6
                have P7 := Lib.hid p7
                have P8 := Lib.hid p8
                have P9 := Lib.hid p9
                have HS := Lib.hid hS
                clear hS hLi hafter p0 p1 p2 p3 p4 p5 p6 p7 p8 p9
                simp only [Act.put, List.setIfInBounds_toArray, List.set_cons_zero, List.set_cons_succ]
                go_wp2_with fail
                exact ⟨u26, u27, .bool true, u29, u30, .int .i64 (k : Nat), u32, u33, u34, u35, by simp only [Act.put, List.setIfInBounds_toArray, List.set_cons_zero, List.set_cons_succ], HS.out, (fun h => by first | rfl | exact P0.out (by simpa using h)), (fun h => by first | rfl | exact P1.out (by simpa using h)), (fun h => by first | rfl | exact P2.out (by simpa using h)), (fun h => by first | rfl | exact P3.out (by simpa using h)), (fun h => by first | rfl | exact P4.out (by simpa using h)), (fun _ => rfl), (fun h => by first | rfl | exact P6.out (by simpa using h)), (fun h => by first | rfl | exact P7.out (by simpa using h)), (fun h => by first | rfl | exact P8.out (by simpa using h)), (fun h => by first | rfl | exact P9.out (by simpa using h))⟩
              · simp only [List.getElem?_toArray, List.getElem?_cons_zero, List.getElem?_cons_succ, Option.some.injEq] at ho
                subst ho
                obtain rfl := p4 (hafter ⟨4, .data⟩ (by simp) rfl)
                obtain rfl := p5 (hafter ⟨5, .data⟩ (by simp) rfl)
                obtain rfl := p2 (hafter ⟨2, .guard⟩ (by simp) rfl)
                have P0 := Lib.hid p0
                have P1 := Lib.hid p1
                have P2 := Lib.hid p2
                have P3 := Lib.hid p3
                have P4 := Lib.hid p4
                have P5 := Lib.hid p5
                have P6 := Lib.hid p6
                have P7 := Lib.hid p7
                have P8 := Lib.hid p8
                have P9 := Lib.hid p9
                have HS := Lib.hid hS
                clear hS hLi hafter p0 p1 p2 p3 p4 p5 p6 p7 p8 p9
                simp only [Act.put, List.setIfInBounds_toArray, List.set_cons_zero, List.set_cons_succ]
                go_wp2_with fail
                exact ⟨u26, u27, .bool true, u29, .slice (some ⟨b, off, none⟩) n cap, .int .i64 (k : Nat), .pointer (some ⟨b, off + k * 2, none⟩), u33, u34, u35, by simp only [Act.put, List.setIfInBounds_toArray, List.set_cons_zero, List.set_cons_succ], HS.out, (fun h => by first | rfl | exact P0.out (by simpa using h)), (fun h => by first | rfl | exact P1.out (by simpa using h)), (fun h => by first | rfl | exact P2.out (by simpa using h)), (fun h => by first | rfl | exact P3.out (by simpa using h)), (fun h => by first | rfl | exact P4.out (by simpa using h)), (fun h => by first | rfl | exact P5.out (by simpa using h)), (fun _ => rfl), (fun h => by first | rfl | exact P7.out (by simpa using h)), (fun h => by first | rfl | exact P8.out (by simpa using h)), (fun h => by first | rfl | exact P9.out (by simpa using h))⟩
              · simp only [List.getElem?_toArray, List.getElem?_cons_zero, List.getElem?_cons_succ, Option.some.injEq] at ho
                subst ho
                obtain rfl := p6 (hafter ⟨6, .data⟩ (by simp) rfl)
                obtain rfl := p2 (hafter ⟨2, .guard⟩ (by simp) rfl)
                have c0 := cell_mono g0 hS.1
                have c1 := cell_mono g1 hS.1
                have P0 := Lib.hid p0
                have P1 := Lib.hid p1
                have P2 := Lib.hid p2
                have P3 := Lib.hid p3
                have P4 := Lib.hid p4
                have P5 := Lib.hid p5
                have P6 := Lib.hid p6
                have P7 := Lib.hid p7
                have P8 := Lib.hid p8
                have P9 := Lib.hid p9
                have HS := Lib.hid hS
                clear hS hLi hafter p0 p1 p2 p3 p4 p5 p6 p7 p8 p9
                simp only [Act.put, List.setIfInBounds_toArray, List.set_cons_zero, List.set_cons_succ]
                go_wp2_with fail
                exact ⟨u26, u27, .bool true, u29, u30, u31, .pointer (some ⟨b, off + k * 2, none⟩), .agg #[.int .i64 p1, .int .i64 y], u34, u35, by simp only [Act.put, List.setIfInBounds_toArray, List.set_cons_zero, List.set_cons_succ], HS.out, (fun h => by first | rfl | exact P0.out (by simpa using h)), (fun h => by first | rfl | exact P1.out (by simpa using h)), (fun h => by first | rfl | exact P2.out (by simpa using h)), (fun h => by first | rfl | exact P3.out (by simpa using h)), (fun h => by first | rfl | exact P4.out (by simpa using h)), (fun h => by first | rfl | exact P5.out (by simpa using h)), (fun h => by first | rfl | exact P6.out (by simpa using h)), (fun _ => rfl), (fun h => by first | rfl | exact P8.out (by simpa using h)), (fun h => by first | rfl | exact P9.out (by simpa using h))⟩
              · simp only [List.getElem?_toArray, List.getElem?_cons_zero, List.getElem?_cons_succ, Option.some.injEq] at ho
                subst ho
                obtain rfl := p3 (hafter ⟨3, .data⟩ (by simp) rfl)
                obtain rfl := p7 (hafter ⟨7, .data⟩ (by simp) rfl)
                obtain rfl := p2 (hafter ⟨2, .guard⟩ (by simp) rfl)
                have P0 := Lib.hid p0
                have P1 := Lib.hid p1
                have P2 := Lib.hid p2
                have P3 := Lib.hid p3
                have P4 := Lib.hid p4
                have P5 := Lib.hid p5
                have P6 := Lib.hid p6
                have P7 := Lib.hid p7
                have P8 := Lib.hid p8
                have P9 := Lib.hid p9
                have HS := Lib.hid hS
                clear hS hLi hafter p0 p1 p2 p3 p4 p5 p6 p7 p8 p9
                simp only [Act.put, List.setIfInBounds_toArray, List.set_cons_zero, List.set_cons_succ]
                go_wp2_with fail
                refine (xless_any (p1, p2) (p1, y) _).mono ?_
                rw [HLB.out]
                rintro e wn ⟨rfl, hb⟩
                have Hb := Lib.hid hb
                clear hb
                go_wp2_with fail
                exact ⟨u26, u27, .bool true, .agg #[.int .i64 p1, .int .i64 p2], u30, u31, u32, .agg #[.int .i64 p1, .int .i64 y], .bool lb, u35, by simp only [Act.put, List.setIfInBounds_toArray, List.set_cons_zero, List.set_cons_succ], HS.out.below Hb.out, (fun h => by first | rfl | exact P0.out (by simpa using h)), (fun h => by first | rfl | exact P1.out (by simpa using h)), (fun h => by first | rfl | exact P2.out (by simpa using h)), (fun h => by first | rfl | exact P3.out (by simpa using h)), (fun h => by first | rfl | exact P4.out (by simpa using h)), (fun h => by first | rfl | exact P5.out (by simpa using h)), (fun h => by first | rfl | exact P6.out (by simpa using h)), (fun h => by first | rfl | exact P7.out (by simpa using h)), (fun _ => rfl), (fun h => by first | rfl | exact P9.out (by simpa using h))⟩
              · simp only [List.getElem?_toArray, List.getElem?_cons_zero, List.getElem?_cons_succ, Option.some.injEq] at ho
                subst ho
                obtain rfl := p2 (hafter ⟨2, .data⟩ (by simp) rfl)
                obtain rfl := p8 (hafter ⟨8, .data⟩ (by simp) rfl)
                have P0 := Lib.hid p0
                have P1 := Lib.hid p1
                have P2 := Lib.hid p2
                have P3 := Lib.hid p3
                have P4 := Lib.hid p4
                have P5 := Lib.hid p5
                have P6 := Lib.hid p6
                have P7 := Lib.hid p7
                have P8 := Lib.hid p8
                have P9 := Lib.hid p9
                have HS := Lib.hid hS
                clear hS hLi hafter p0 p1 p2 p3 p4 p5 p6 p7 p8 p9
                simp only [Act.put, List.setIfInBounds_toArray, List.set_cons_zero, List.set_cons_succ]
                go_wp2_with fail
                exact ⟨u26, u27, .bool true, u29, u30, u31, u32, u33, .bool lb, .bool lb, by simp only [Act.put, List.setIfInBounds_toArray, List.set_cons_zero, List.set_cons_succ], HS.out, (fun h => by first | rfl | exact P0.out (by simpa using h)), (fun h => by first | rfl | exact P1.out (by simpa using h)), (fun h => by first | rfl | exact P2.out (by simpa using h)), (fun h => by first | rfl | exact P3.out (by simpa using h)), (fun h => by first | rfl | exact P4.out (by simpa using h)), (fun h => by first | rfl | exact P5.out (by simpa using h)), (fun h => by first | rfl | exact P6.out (by simpa using h)), (fun h => by first | rfl | exact P7.out (by simpa using h)), (fun h => by first | rfl | exact P8.out (by simpa using h)), (fun _ => rfl)⟩
            · intro Ls a0 wq hall hJ
              obtain ⟨u26, u27, u28, u29, u30, u31, u32, u33, u34, u35, rfl, hS, p0, p1, p2, p3, p4, p5, p6, p7, p8, p9⟩ := hJ
              replace p0 := p0 (hall 0 (by decide))
              replace p1 := p1 (hall 1 (by decide))
              replace p2 := p2 (hall 2 (by decide))
              replace p3 := p3 (hall 3 (by decide))
              replace p4 := p4 (hall 4 (by decide))
              replace p5 := p5 (hall 5 (by decide))
              replace p6 := p6 (hall 6 (by decide))
              replace p7 := p7 (hall 7 (by decide))
              replace p8 := p8 (hall 8 (by decide))
              replace p9 := p9 (hall 9 (by decide))
              have hb := hS.1
              subst p9
              clear hall hS p0 p1 p2 p3 p4 p5 p6 p7 p8
              replace g0 := cell_mono g0 hb
              replace g1 := cell_mono g1 hb
              replace k_P_0 := cell_mono k_P_0 hb
              replace k_P_1 := cell_mono k_P_1 hb
              have HOP2 := Lib.hid (HOP1.out.below hb)
              have HB2 := Lib.hid (HB1.out.trans (hb.mono hs1))
              have hs2 := HB2.out.size
              clear hb
              simp only [Act.put, List.setIfInBounds_toArray, List.set_cons_zero, List.set_cons_succ]
              cases lb
              · go_wp2_with (at_builtin; refine wpList_append_own_at _ rfl (.tmp 40) (.tmp 45) 22 rfl w1.heap.size 47 i0 (.agg #[.int .i64 0, .int .i64 0]) 2 16 pairUnder hi hz0 hz1 hz2 rfl (by decide) _ (l).length ((l).flatMap enc2) rfl (World.ownsRow.alloc HOP2.out _) ⟨wq.heap.size, 0, none⟩ 1 1 [.int .i64 p1, .int .i64 y] (by first | rfl | simp) rfl (cell_twoP _ _ rfl _ _ _) (by intro u hu; rcases List.mem_cons.1 hu with rfl | hu; (· rfl); (· rcases List.mem_cons.1 hu with rfl | hu; (· rfl); (· cases hu))) (by unfold maxLen; omega) (by omega) (by first | omega | (simp; omega)) ?_; intro v2HO9 HO9w hm9 hg9 _ hat9; have HO9 := Lib.hid (Op2.push hm9); have HB9 := Lib.hid ((HB2.out.alloc hs2 _).grown hg9 (by simp; omega) (fun j hj => (HOP2.out.lt j hj).1)); have HO9z := HB9.out.size; clear hm9 hg9 hat9)
                go_roundw
                case rel => exact ⟨k + 1, l ++ [(p1, y)], false, by omega, by go_num, rfl, by rw [HST.out]; exact putT_go HNE.out HLB.out, HO9.out, HB9.out⟩
                case measure => simp [intOf]; omega
              · have hl1 : (l ++ [(p1, p2)]).length = l.length + 1 := by simp
                go_upto_region 11 with (at_builtin; refine wpList_append_own_at _ rfl (.tmp 36) (.tmp 38) 22 rfl w1.heap.size 47 i0 (.agg #[.int .i64 0, .int .i64 0]) 2 16 pairUnder hi hz0 hz1 hz2 rfl (by decide) _ (l).length ((l).flatMap enc2) rfl (World.ownsRow.alloc HOP2.out _) ⟨wq.heap.size, 0, none⟩ 1 1 [.int .i64 p1, .int .i64 p2] (by first | rfl | simp) rfl (cell_twoP _ _ rfl _ _ _) (by intro u hu; rcases List.mem_cons.1 hu with rfl | hu; (· rfl); (· rcases List.mem_cons.1 hu with rfl | hu; (· rfl); (· cases hu))) (by unfold maxLen; omega) (by omega) (by first | omega | (simp; omega)) ?_; intro v2HO8 HO8w hm9 hg9 _ hat9; have HO8 := Lib.hid (Op2.push hm9); have HB8 := Lib.hid ((HB2.out.alloc hs2 _).grown hg9 (by simp; omega) (fun j hj => (HOP2.out.lt j hj).1)); have HO8z := HB8.out.size; clear hm9 hg9 hat9)
                obtain ⟨b9, off9, e9, hc9⟩ := (HPL.out.below HB8.out).2.2.2 (by omega)
                obtain ⟨rfl, rfl⟩ : b = b9 ∧ off = off9 := by simpa using e9
                obtain ⟨g6, g7⟩ := hc9 k hkn
                rw [getD_lt hkL, EXY.out] at g6 g7
                simp only at g6 g7
                clear hc9 e9 g0 g1
                go_wp2_with (at_builtin; refine wpList_append_own_at _ rfl (.tmp 40) (.tmp 45) 22 rfl w1.heap.size 47 i0 (.agg #[.int .i64 0, .int .i64 0]) 2 16 pairUnder hi hz0 hz1 hz2 rfl (by decide) _ (l ++ [(p1, p2)]).length ((l ++ [(p1, p2)]).flatMap enc2) rfl (World.ownsRow.alloc HO8.out _) ⟨HO8w.heap.size, 0, none⟩ 1 1 [.int .i64 p1, .int .i64 y] (by first | rfl | simp) rfl (cell_twoP _ _ rfl _ _ _) (by intro u hu; rcases List.mem_cons.1 hu with rfl | hu; (· rfl); (· rcases List.mem_cons.1 hu with rfl | hu; (· rfl); (· cases hu))) (by unfold maxLen; omega) (by omega) (by first | omega | (simp; omega)) ?_; intro v2HO9 HO9w hm9 hg9 _ hat9; have HO9 := Lib.hid (Op2.push hm9); have HB9 := Lib.hid ((HB8.out.alloc HO8z _).grown hg9 (by simp; omega) (fun j hj => (HO8.out.lt j hj).1)); have HO9z := HB9.out.size; clear hm9 hg9 hat9)
                go_roundw
                case rel => exact ⟨k + 1, (l ++ [(p1, p2)]) ++ [(p1, y)], true, by omega, by go_num, rfl, by rw [HST.out]; exact putT_in HNE.out HLB.out, HO9.out, HB9.out⟩
                case measure => simp [intOf]; omega
        · have hb1 : (x == p1) = false := by simp; exact fun h => e1 h.symm
          have HE1 := Lib.hid e1
          clear e1
          have HNE := Lib.hid (show (x, y) ≠ (p1, p2) from fun h => by cases h; exact HE1.out rfl)
          go_wp2_with fail
          go_region_o
          go_wp2_with fail
          refine region_name fun W1 hW => ?_
          have HBw := Lib.hid (show Below wr.heap.size wr W1 by rw [← hW]; (repeat' (first | with_reducible exact Below.refl _ _ | (with_reducible refine Below.alloc ?_ ?_ _; rotate_left; (focus (first | omega | (simp; done) | (simp; omega)))) | with_reducible apply Below.drew | (with_reducible refine Below.setCell ?_ ?_ _; rotate_left; (focus (first | omega | (simp; done) | (simp; omega)))))))
          clear hW
          replace g0 := cell_mono g0 HBw.out
          replace g1 := cell_mono g1 HBw.out
          replace k_P_0 := cell_mono k_P_0 HBw.out
          replace k_P_1 := cell_mono k_P_1 HBw.out
          replace hl_P : w.heap.size < W1.heap.size := Nat.lt_of_lt_of_le hl_P HBw.out.size
          have HOP1 := Lib.hid (HOP.out.below HBw.out)
          have HB1 := Lib.hid (HB.out.trans (HBw.out.mono hs0))
          have hs1 := HB1.out.size
          obtain ⟨lb, hlb⟩ : ∃ b, lxB (p1, p2) (x, y) = b := ⟨_, rfl⟩
          have HLB := Lib.hid hlb
          clear hlb
          refine region_inv2 (by kernel_rfl) (PutJ b off k n cap p1 p2 x y lb (W1)) ?_ ?_ ?_ ?_
          · exact ⟨u26, u27, u28, u29, u30, u31, u32, u33, u34, u35, by simp only [Act.put, List.setIfInBounds_toArray, List.set_cons_zero, List.set_cons_succ], Since.drawn _, (fun h => by cases h), (fun h => by cases h), (fun h => by cases h), (fun h => by cases h), (fun h => by cases h), (fun h => by cases h), (fun h => by cases h), (fun h => by cases h), (fun h => by cases h), (fun h => by cases h)⟩
          · exact acyc_spec (by kernel_rfl)
          · intro Ls a0 wq i o ho hLi hafter hJ
            obtain ⟨u26, u27, u28, u29, u30, u31, u32, u33, u34, u35, rfl, hS, p0, p1, p2, p3, p4, p5, p6, p7, p8, p9⟩ := hJ
            have hi : i < 10 := (Array.getElem?_eq_some_iff.1 ho).1
            obtain rfl | rfl | rfl | rfl | rfl | rfl | rfl | rfl | rfl | rfl : i = 0 ∨ i = 1 ∨ i = 2 ∨ i = 3 ∨ i = 4 ∨ i = 5 ∨ i = 6 ∨ i = 7 ∨ i = 8 ∨ i = 9 := by omega
            · simp only [List.getElem?_toArray, List.getElem?_cons_zero, Option.some.injEq] at ho
              subst ho
              have P0 := Lib.hid p0
              have P1 := Lib.hid p1
              have P2 := Lib.hid p2
              have P3 := Lib.hid p3
              have P4 := Lib.hid p4
              have P5 := Lib.hid p5
              have P6 := Lib.hid p6
              have P7 := Lib.hid p7
              have P8 := Lib.hid p8
              have P9 := Lib.hid p9
              have HS := Lib.hid hS
              clear hS hLi hafter p0 p1 p2 p3 p4 p5 p6 p7 p8 p9
              simp only [Act.put, List.setIfInBounds_toArray, List.set_cons_zero, List.set_cons_succ]
              go_wp2_with fail
              exact ⟨.bool false, u27, u28, u29, u30, u31, u32, u33, u34, u35, by simp only [Act.put, List.setIfInBounds_toArray, List.set_cons_zero, List.set_cons_succ], HS.out, (fun _ => rfl), (fun h => by first | rfl | exact P1.out (by simpa using h)), (fun h => by first | rfl | exact P2.out (by simpa using h)), (fun h => by first | rfl | exact P3.out (by simpa using h)), (fun h => by first | rfl | exact P4.out (by simpa using h)), (fun h => by first | rfl | exact P5.out (by simpa using h)), (fun h => by first | rfl | exact P6.out (by simpa using h)), (fun h => by first | rfl | exact P7.out (by simpa using h)), (fun h => by first | rfl | exact P8.out (by simpa using h)), (fun h => by first | rfl | exact P9.out (by simpa using h))⟩
            · simp only [List.getElem?_toArray, List.getElem?_cons_zero, List.getElem?_cons_succ, Option.some.injEq] at ho
              subst ho
              obtain rfl := p0 (hafter ⟨0, .data⟩ (by simp) rfl)
              have P0 := Lib.hid p0
              have P1 := Lib.hid p1
              have P2 := Lib.hid p2
              have P3 := Lib.hid p3
              have P4 := Lib.hid p4
              have P5 := Lib.hid p5
              have P6 := Lib.hid p6
              have P7 := Lib.hid p7
              have P8 := Lib.hid p8
              have P9 := Lib.hid p9
              have HS := Lib.hid hS
              clear hS hLi hafter p0 p1 p2 p3 p4 p5 p6 p7 p8 p9
              simp only [Act.put, List.setIfInBounds_toArray, List.set_cons_zero, List.set_cons_succ]
              go_wp2_with fail
              exact ⟨.bool false, .bool true, u28, u29, u30, u31, u32, u33, u34, u35, by simp only [Act.put, List.setIfInBounds_toArray, List.set_cons_zero, List.set_cons_succ], HS.out, (fun h => by first | rfl | exact P0.out (by simpa using h)), (fun _ => rfl), (fun h => by first | rfl | exact P2.out (by simpa using h)), (fun h => by first | rfl | exact P3.out (by simpa using h)), (fun h => by first | rfl | exact P4.out (by simpa using h)), (fun h => by first | rfl | exact P5.out (by simpa using h)), (fun h => by first | rfl | exact P6.out (by simpa using h)), (fun h => by first | rfl | exact P7.out (by simpa using h)), (fun h => by first | rfl | exact P8.out (by simpa using h)), (fun h => by first | rfl | exact P9.out (by simpa using h))⟩
            · simp only [List.getElem?_toArray, List.getElem?_cons_zero, List.getElem?_cons_succ, Option.some.injEq] at ho
              subst ho
              obtain rfl := p1 (hafter ⟨1, .data⟩ (by simp) rfl)
              have P0 := Lib.hid p0
              have P1 := Lib.hid p1
              have P2 := Lib.hid p2
              have P3 := Lib.hid p3
              have P4 := Lib.hid p4
              have P5 := Lib.hid p5
              have P6 := Lib.hid p6
              have P7 := Lib.hid p7
              have P8 := Lib.hid p8
              have P9 := Lib.hid p9
              have HS := Lib.hid hS
              clear hS hLi hafter p0 p1 p2 p3 p4 p5 p6 p7 p8 p9
              simp only [Act.put, List.setIfInBounds_toArray, List.set_cons_zero, List.set_cons_succ]
              go_wp2_with fail
              exact ⟨u26, .bool true, .bool true, u29, u30, u31, u32, u33, u34, u35, by simp only [Act.put, List.setIfInBounds_toArray, List.set_cons_zero, List.set_cons_succ], HS.out, (fun h => by first | rfl | exact P0.out (by simpa using h)), (fun h => by first | rfl | exact P1.out (by simpa using h)), (fun _ => rfl), (fun h => by first | rfl | exact P3.out (by simpa using h)), (fun h => by first | rfl | exact P4.out (by simpa using h)), (fun h => by first | rfl | exact P5.out (by simpa using h)), (fun h => by first | rfl | exact P6.out (by simpa using h)), (fun h => by first | rfl | exact P7.out (by simpa using h)), (fun h => by first | rfl | exact P8.out (by simpa using h)), (fun h => by first | rfl | exact P9.out (by simpa using h))⟩
            · simp only [List.getElem?_toArray, List.getElem?_cons_zero, List.getElem?_cons_succ, Option.some.injEq] at ho
              subst ho
              obtain rfl := p2 (hafter ⟨2, .guard⟩ (by simp) rfl)
              have c0 := (hS.1.cell (p := ⟨w.heap.size, 0, none⟩) hl_P).trans k_P_0
              have c1 := (hS.1.cell (p := ⟨w.heap.size, 1, none⟩) hl_P).trans k_P_1
              have P0 := Lib.hid p0
              have P1 := Lib.hid p1
              have P2 := Lib.hid p2
              have P3 := Lib.hid p3
              have P4 := Lib.hid p4
              have P5 := Lib.hid p5
              have P6 := Lib.hid p6
              have P7 := Lib.hid p7
              have P8 := Lib.hid p8
              have P9 := Lib.hid p9
              have HS := Lib.hid hS
              clear hS hLi hafter p0 p1 p2 p3 p4 p5 p6 p7 p8 p9
              simp only [Act.put, List.setIfInBounds_toArray, List.set_cons_zero, List.set_cons_succ]
              go_wp2_with fail
              exact ⟨u26, u27, .bool true, .agg #[.int .i64 p1, .int .i64 p2], u30, u31, u32, u33, u34, u35, by simp only [Act.put, List.setIfInBounds_toArray, List.set_cons_zero, List.set_cons_succ], HS.out, (fun h => by first | rfl | exact P0.out (by simpa using h)), (fun h => by first | rfl | exact P1.out (by simpa using h)), (fun h => by first | rfl | exact P2.out (by simpa using h)), (fun _ => rfl), (fun h => by first | rfl | exact P4.out (by simpa using h)), (fun h => by first | rfl | exact P5.out (by simpa using h)), (fun h => by first | rfl | exact P6.out (by simpa using h)), (fun h => by first | rfl | exact P7.out (by simpa using h)), (fun h => by first | rfl | exact P8.out (by simpa using h)), (fun h => by first | rfl | exact P9.out (by simpa using h))⟩
            · simp only [List.getElem?_toArray, List.getElem?_cons_zero, List.getElem?_cons_succ, Option.some.injEq] at ho
              subst ho
              obtain rfl := p2 (hafter ⟨2, .guard⟩ (by simp) rfl)
              have P0 := Lib.hid p0
              have P1 := Lib.hid p1
              have P2 := Lib.hid p2
              have P3 := Lib.hid p3
              have P4 := Lib.hid p4
              have P5 := Lib.hid p5
              have P6 := Lib.hid p6
              have P7 := Lib.hid p7
              have P8 := Lib.hid p8
              have P9 := Lib.hid p9
              have HS := Lib.hid hS
              clear hS hLi hafter p0 p1 p2 p3 p4 p5 p6 p7 p8 p9
              simp only [Act.put, List.setIfInBounds_toArray, List.set_cons_zero, List.set_cons_succ]
              go_wp2_with fail
              exact ⟨u26, u27, .bool true, u29, .slice (some ⟨b, off, none⟩) n cap, u31, u32, u33, u34, u35, by simp only [Act.put, List.setIfInBounds_toArray, List.set_cons_zero, List.set_cons_succ], HS.out, (fun h => by first | rfl | exact P0.out (by simpa using h)), (fun h => by first | rfl | exact P1.out (by simpa using h)), (fun h => by first | rfl | exact P2.out (by simpa using h)), (fun h => by first | rfl | exact P3.out (by simpa using h)), (fun _ => rfl), (fun h => by first | rfl | exact P5.out (by simpa using h)), (fun h => by first | rfl | exact P6.out (by simpa using h)), (fun h => by first | rfl | exact P7.out (by simpa using h)), (fun h => by first | rfl | exact P8.out (by simpa using h)), (fun h => by first | rfl | exact P9.out (by simpa using h))⟩
            · simp only [List.getElem?_toArray, List.getElem?_cons_zero, List.getElem?_cons_succ, Option.some.injEq] at ho
              subst ho
              obtain rfl := p2 (hafter ⟨2, .guard⟩ (by simp) rfl)
              have P0 := Lib.hid p0
              have P1 := Lib.hid p1
              have P2 := Lib.hid p2
              have P3 := Lib.hid p3
              have P4 := Lib.hid p4
              have P5 := Lib.hid p5
              have P6 := Lib.hid p6
              have P7 := Lib.hid p7
              have P8 := Lib.hid p8
              have P9 := Lib.hid p9
              have HS := Lib.hid hS
              clear hS hLi hafter p0 p1 p2 p3 p4 p5 p6 p7 p8 p9
              simp only [Act.put, List.setIfInBounds_toArray, List.set_cons_zero, List.set_cons_succ]
              go_wp2_with fail
              exact ⟨u26, u27, .bool true, u29, u30, .int .i64 (k : Nat), u32, u33, u34, u35, by simp only [Act.put, List.setIfInBounds_toArray, List.set_cons_zero, List.set_cons_succ], HS.out, (fun h => by first | rfl | exact P0.out (by simpa using h)), (fun h => by first | rfl | exact P1.out (by simpa using h)), (fun h => by first | rfl | exact P2.out (by simpa using h)), (fun h => by first | rfl | exact P3.out (by simpa using h)), (fun h => by first | rfl | exact P4.out (by simpa using h)), (fun _ => rfl), (fun h => by first | rfl | exact P6.out (by simpa using h)), (fun h => by first | rfl | exact P7.out (by simpa using h)), (fun h => by first | rfl | exact P8.out (by simpa using h)), (fun h => by first | rfl | exact P9.out (by simpa using h))⟩
            · simp only [List.getElem?_toArray, List.getElem?_cons_zero, List.getElem?_cons_succ, Option.some.injEq] at ho
              subst ho
              obtain rfl := p4 (hafter ⟨4, .data⟩ (by simp) rfl)
              obtain rfl := p5 (hafter ⟨5, .data⟩ (by simp) rfl)
              obtain rfl := p2 (hafter ⟨2, .guard⟩ (by simp) rfl)
              have P0 := Lib.hid p0
              have P1 := Lib.hid p1
              have P2 := Lib.hid p2
              have P3 := Lib.hid p3
              have P4 := Lib.hid p4
              have P5 := Lib.hid p5
              have P6 := Lib.hid p6
              have P7 := Lib.hid p7
              have P8 := Lib.hid p8
              have P9 := Lib.hid p9
              have HS := Lib.hid hS
              clear hS hLi hafter p0 p1 p2 p3 p4 p5 p6 p7 p8 p9
              simp only [Act.put, List.setIfInBounds_toArray, List.set_cons_zero, List.set_cons_succ]
              go_wp2_with fail
              exact ⟨u26, u27, .bool true, u29, .slice (some ⟨b, off, none⟩) n cap, .int .i64 (k : Nat), .pointer (some ⟨b, off + k * 2, none⟩), u33, u34, u35, by simp only [Act.put, List.setIfInBounds_toArray, List.set_cons_zero, List.set_cons_succ], HS.out, (fun h => by first | rfl | exact P0.out (by simpa using h)), (fun h => by first | rfl | exact P1.out (by simpa using h)), (fun h => by first | rfl | exact P2.out (by simpa using h)), (fun h => by first | rfl | exact P3.out (by simpa using h)), (fun h => by first | rfl | exact P4.out (by simpa using h)), (fun h => by first | rfl | exact P5.out (by simpa using h)), (fun _ => rfl), (fun h => by first | rfl | exact P7.out (by simpa using h)), (fun h => by first | rfl | exact P8.out (by simpa using h)), (fun h => by first | rfl | exact P9.out (by simpa using h))⟩
            · simp only [List.getElem?_toArray, List.getElem?_cons_zero, List.getElem?_cons_succ, Option.some.injEq] at ho
              subst ho
              obtain rfl := p6 (hafter ⟨6, .data⟩ (by simp) rfl)
              obtain rfl := p2 (hafter ⟨2, .guard⟩ (by simp) rfl)
              have c0 := cell_mono g0 hS.1
              have c1 := cell_mono g1 hS.1
              have P0 := Lib.hid p0
              have P1 := Lib.hid p1
              have P2 := Lib.hid p2
              have P3 := Lib.hid p3
              have P4 := Lib.hid p4
              have P5 := Lib.hid p5
              have P6 := Lib.hid p6
              have P7 := Lib.hid p7
              have P8 := Lib.hid p8
              have P9 := Lib.hid p9
              have HS := Lib.hid hS
              clear hS hLi hafter p0 p1 p2 p3 p4 p5 p6 p7 p8 p9
              simp only [Act.put, List.setIfInBounds_toArray, List.set_cons_zero, List.set_cons_succ]
              go_wp2_with fail
              exact ⟨u26, u27, .bool true, u29, u30, u31, .pointer (some ⟨b, off + k * 2, none⟩), .agg #[.int .i64 x, .int .i64 y], u34, u35, by simp only [Act.put, List.setIfInBounds_toArray, List.set_cons_zero, List.set_cons_succ], HS.out, (fun h => by first | rfl | exact P0.out (by simpa using h)), (fun h => by first | rfl | exact P1.out (by simpa using h)), (fun h => by first | rfl | exact P2.out (by simpa using h)), (fun h => by first | rfl | exact P3.out (by simpa using h)), (fun h => by first | rfl | exact P4.out (by simpa using h)), (fun h => by first | rfl | exact P5.out (by simpa using h)), (fun h => by first | rfl | exact P6.out (by simpa using h)), (fun _ => rfl), (fun h => by first | rfl | exact P8.out (by simpa using h)), (fun h => by first | rfl | exact P9.out (by simpa using h))⟩
            · simp only [List.getElem?_toArray, List.getElem?_cons_zero, List.getElem?_cons_succ, Option.some.injEq] at ho
              subst ho
              obtain rfl := p3 (hafter ⟨3, .data⟩ (by simp) rfl)
              obtain rfl := p7 (hafter ⟨7, .data⟩ (by simp) rfl)
              obtain rfl := p2 (hafter ⟨2, .guard⟩ (by simp) rfl)
              have P0 := Lib.hid p0
              have P1 := Lib.hid p1
              have P2 := Lib.hid p2
              have P3 := Lib.hid p3
              have P4 := Lib.hid p4
              have P5 := Lib.hid p5
              have P6 := Lib.hid p6
              have P7 := Lib.hid p7
              have P8 := Lib.hid p8
              have P9 := Lib.hid p9
              have HS := Lib.hid hS
              clear hS hLi hafter p0 p1 p2 p3 p4 p5 p6 p7 p8 p9
              simp only [Act.put, List.setIfInBounds_toArray, List.set_cons_zero, List.set_cons_succ]
              go_wp2_with fail
              refine (xless_any (p1, p2) (x, y) _).mono ?_
              rw [HLB.out]
              rintro e wn ⟨rfl, hb⟩
              have Hb := Lib.hid hb
              clear hb
              go_wp2_with fail
              exact ⟨u26, u27, .bool true, .agg #[.int .i64 p1, .int .i64 p2], u30, u31, u32, .agg #[.int .i64 x, .int .i64 y], .bool lb, u35, by simp only [Act.put, List.setIfInBounds_toArray, List.set_cons_zero, List.set_cons_succ], HS.out.below Hb.out, (fun h => by first | rfl | exact P0.out (by simpa using h)), (fun h => by first | rfl | exact P1.out (by simpa using h)), (fun h => by first | rfl | exact P2.out (by simpa using h)), (fun h => by first | rfl | exact P3.out (by simpa using h)), (fun h => by first | rfl | exact P4.out (by simpa using h)), (fun h => by first | rfl | exact P5.out (by simpa using h)), (fun h => by first | rfl | exact P6.out (by simpa using h)), (fun h => by first | rfl | exact P7.out (by simpa using h)), (fun _ => rfl), (fun h => by first | rfl | exact P9.out (by simpa using h))⟩
            · simp only [List.getElem?_toArray, List.getElem?_cons_zero, List.getElem?_cons_succ, Option.some.injEq] at ho
              subst ho
              obtain rfl := p2 (hafter ⟨2, .data⟩ (by simp) rfl)
              obtain rfl := p8 (hafter ⟨8, .data⟩ (by simp) rfl)
              have P0 := Lib.hid p0
              have P1 := Lib.hid p1
              have P2 := Lib.hid p2
              have P3 := Lib.hid p3
              have P4 := Lib.hid p4
              have P5 := Lib.hid p5
              have P6 := Lib.hid p6
              have P7 := Lib.hid p7
              have P8 := Lib.hid p8
              have P9 := Lib.hid p9
              have HS := Lib.hid hS
              clear hS hLi hafter p0 p1 p2 p3 p4 p5 p6 p7 p8 p9
              simp only [Act.put, List.setIfInBounds_toArray, List.set_cons_zero, List.set_cons_succ]
              go_wp2_with fail
              exact ⟨u26, u27, .bool true, u29, u30, u31, u32, u33, .bool lb, .bool lb, by simp only [Act.put, List.setIfInBounds_toArray, List.set_cons_zero, List.set_cons_succ], HS.out, (fun h => by first | rfl | exact P0.out (by simpa using h)), (fun h => by first | rfl | exact P1.out (by simpa using h)), (fun h => by first | rfl | exact P2.out (by simpa using h)), (fun h => by first | rfl | exact P3.out (by simpa using h)), (fun h => by first | rfl | exact P4.out (by simpa using h)), (fun h => by first | rfl | exact P5.out (by simpa using h)), (fun h => by first | rfl | exact P6.out (by simpa using h)), (fun h => by first | rfl | exact P7.out (by simpa using h)), (fun h => by first | rfl | exact P8.out (by simpa using h)), (fun _ => rfl)⟩
          · intro Ls a0 wq hall hJ
            obtain ⟨u26, u27, u28, u29, u30, u31, u32, u33, u34, u35, rfl, hS, p0, p1, p2, p3, p4, p5, p6, p7, p8, p9⟩ := hJ
            replace p0 := p0 (hall 0 (by decide))
            replace p1 := p1 (hall 1 (by decide))
            replace p2 := p2 (hall 2 (by decide))
            replace p3 := p3 (hall 3 (by decide))
            replace p4 := p4 (hall 4 (by decide))
            replace p5 := p5 (hall 5 (by decide))
            replace p6 := p6 (hall 6 (by decide))
            replace p7 := p7 (hall 7 (by decide))
            replace p8 := p8 (hall 8 (by decide))
            replace p9 := p9 (hall 9 (by decide))
            have hb := hS.1
            subst p9
            clear hall hS p0 p1 p2 p3 p4 p5 p6 p7 p8
            replace g0 := cell_mono g0 hb
            replace g1 := cell_mono g1 hb
            replace k_P_0 := cell_mono k_P_0 hb
            replace k_P_1 := cell_mono k_P_1 hb
            have HOP2 := Lib.hid (HOP1.out.below hb)
            have HB2 := Lib.hid (HB1.out.trans (hb.mono hs1))
            have hs2 := HB2.out.size
            clear hb
            simp only [Act.put, List.setIfInBounds_toArray, List.set_cons_zero, List.set_cons_succ]
            cases lb
            · go_wp2_with (at_builtin; refine wpList_append_own_at _ rfl (.tmp 40) (.tmp 45) 22 rfl w1.heap.size 47 i0 (.agg #[.int .i64 0, .int .i64 0]) 2 16 pairUnder hi hz0 hz1 hz2 rfl (by decide) _ (l).length ((l).flatMap enc2) rfl (World.ownsRow.alloc HOP2.out _) ⟨wq.heap.size, 0, none⟩ 1 1 [.int .i64 x, .int .i64 y] (by first | rfl | simp) rfl (cell_twoP _ _ rfl _ _ _) (by intro u hu; rcases List.mem_cons.1 hu with rfl | hu; (· rfl); (· rcases List.mem_cons.1 hu with rfl | hu; (· rfl); (· cases hu))) (by unfold maxLen; omega) (by omega) (by first | omega | (simp; omega)) ?_; intro v2HO9 HO9w hm9 hg9 _ hat9; have HO9 := Lib.hid (Op2.push hm9); have HB9 := Lib.hid ((HB2.out.alloc hs2 _).grown hg9 (by simp; omega) (fun j hj => (HOP2.out.lt j hj).1)); have HO9z := HB9.out.size; clear hm9 hg9 hat9)
              go_roundw
              case rel => exact ⟨k + 1, l ++ [(x, y)], false, by omega, by go_num, rfl, by rw [HST.out]; exact putT_go HNE.out HLB.out, HO9.out, HB9.out⟩
              case measure => simp [intOf]; omega
            · have hl1 : (l ++ [(p1, p2)]).length = l.length + 1 := by simp
              go_upto_region 11 with (at_builtin; refine wpList_append_own_at _ rfl (.tmp 36) (.tmp 38) 22 rfl w1.heap.size 47 i0 (.agg #[.int .i64 0, .int .i64 0]) 2 16 pairUnder hi hz0 hz1 hz2 rfl (by decide) _ (l).length ((l).flatMap enc2) rfl (World.ownsRow.alloc HOP2.out _) ⟨wq.heap.size, 0, none⟩ 1 1 [.int .i64 p1, .int .i64 p2] (by first | rfl | simp) rfl (cell_twoP _ _ rfl _ _ _) (by intro u hu; rcases List.mem_cons.1 hu with rfl | hu; (· rfl); (· rcases List.mem_cons.1 hu with rfl | hu; (· rfl); (· cases hu))) (by unfold maxLen; omega) (by omega) (by first | omega | (simp; omega)) ?_; intro v2HO8 HO8w hm9 hg9 _ hat9; have HO8 := Lib.hid (Op2.push hm9); have HB8 := Lib.hid ((HB2.out.alloc hs2 _).grown hg9 (by simp; omega) (fun j hj => (HOP2.out.lt j hj).1)); have HO8z := HB8.out.size; clear hm9 hg9 hat9)
              obtain ⟨b9, off9, e9, hc9⟩ := (HPL.out.below HB8.out).2.2.2 (by omega)
              obtain ⟨rfl, rfl⟩ : b = b9 ∧ off = off9 := by simpa using e9
              obtain ⟨g6, g7⟩ := hc9 k hkn
              rw [getD_lt hkL, EXY.out] at g6 g7
              simp only at g6 g7
              clear hc9 e9 g0 g1
              go_wp2_with (at_builtin; refine wpList_append_own_at _ rfl (.tmp 40) (.tmp 45) 22 rfl w1.heap.size 47 i0 (.agg #[.int .i64 0, .int .i64 0]) 2 16 pairUnder hi hz0 hz1 hz2 rfl (by decide) _ (l ++ [(p1, p2)]).length ((l ++ [(p1, p2)]).flatMap enc2) rfl (World.ownsRow.alloc HO8.out _) ⟨HO8w.heap.size, 0, none⟩ 1 1 [.int .i64 x, .int .i64 y] (by first | rfl | simp) rfl (cell_twoP _ _ rfl _ _ _) (by intro u hu; rcases List.mem_cons.1 hu with rfl | hu; (· rfl); (· rcases List.mem_cons.1 hu with rfl | hu; (· rfl); (· cases hu))) (by unfold maxLen; omega) (by omega) (by first | omega | (simp; omega)) ?_; intro v2HO9 HO9w hm9 hg9 _ hat9; have HO9 := Lib.hid (Op2.push hm9); have HB9 := Lib.hid ((HB8.out.alloc HO8z _).grown hg9 (by simp; omega) (fun j hj => (HO8.out.lt j hj).1)); have HO9z := HB9.out.size; clear hm9 hg9 hat9)
              go_roundw
              case rel => exact ⟨k + 1, (l ++ [(p1, p2)]) ++ [(x, y)], true, by omega, by go_num, rfl, by rw [HST.out]; exact putT_in HNE.out HLB.out, HO9.out, HB9.out⟩
              case measure => simp [intOf]; omega
      · have HOPD := Lib.hid (show Op2 w1.heap.size 47 wr.drew.drew _ l from (HOP.out.below ((Below.refl _ _).drew)).below ((Below.refl _ _).drew))
        have HBD := Lib.hid (show Below w1.heap.size w1 wr.drew.drew from HB.out.drew.drew)
        have hsD : w1.heap.size ≤ wr.drew.drew.heap.size := hs0
        by_cases e1 : p1 = x
        · subst e1
          by_cases e2 : p2 = y
          · subst e2
            go_wp2_with fail
            go_region_o
            go_wp2_with fail
            go_big_region_o
            go_wp2_with (at_builtin; refine wpList_append_own_at _ rfl (.tmp 40) (.tmp 45) 22 rfl w1.heap.size 47 i0 (.agg #[.int .i64 0, .int .i64 0]) 2 16 pairUnder hi hz0 hz1 hz2 rfl (by decide) _ (l).length ((l).flatMap enc2) rfl (World.ownsRow.alloc HOPD.out _) ⟨wr.heap.size, 0, none⟩ 1 1 [.int .i64 p1, .int .i64 p2] (by first | rfl | simp) rfl (cell_twoP _ _ rfl _ _ _) (by intro u hu; rcases List.mem_cons.1 hu with rfl | hu; (· rfl); (· rcases List.mem_cons.1 hu with rfl | hu; (· rfl); (· cases hu))) (by unfold maxLen; omega) (by omega) (by first | omega | (simp; omega)) ?_; intro v2HO9 HO9w hm9 hg9 _ hat9; have HO9 := Lib.hid (Op2.push hm9); have HB9 := Lib.hid ((HBD.out.alloc hsD _).grown hg9 (by simp; omega) (fun j hj => (HOPD.out.lt j hj).1)); have HO9z := HB9.out.size; clear hm9 hg9 hat9)
            go_roundw
            case rel => exact ⟨k + 1, l ++ [(p1, p2)], true, by omega, by go_num, rfl, by rw [HST.out]; exact putT_keep (by simp), HO9.out, HB9.out⟩
            case measure => simp [intOf]; omega
          · have hb2 : (y == p2) = false := by simp; exact fun h => e2 h.symm
            have HE2 := Lib.hid e2
            clear e2
            go_wp2_with fail
            go_region_o
            go_wp2_with fail
            go_big_region_o
            go_wp2_with (at_builtin; refine wpList_append_own_at _ rfl (.tmp 40) (.tmp 45) 22 rfl w1.heap.size 47 i0 (.agg #[.int .i64 0, .int .i64 0]) 2 16 pairUnder hi hz0 hz1 hz2 rfl (by decide) _ (l).length ((l).flatMap enc2) rfl (World.ownsRow.alloc HOPD.out _) ⟨wr.heap.size, 0, none⟩ 1 1 [.int .i64 p1, .int .i64 y] (by first | rfl | simp) rfl (cell_twoP _ _ rfl _ _ _) (by intro u hu; rcases List.mem_cons.1 hu with rfl | hu; (· rfl); (· rcases List.mem_cons.1 hu with rfl | hu; (· rfl); (· cases hu))) (by unfold maxLen; omega) (by omega) (by first | omega | (simp; omega)) ?_; intro v2HO9 HO9w hm9 hg9 _ hat9; have HO9 := Lib.hid (Op2.push hm9); have HB9 := Lib.hid ((HBD.out.alloc hsD _).grown hg9 (by simp; omega) (fun j hj => (HOPD.out.lt j hj).1)); have HO9z := HB9.out.size; clear hm9 hg9 hat9)
            go_roundw
            case rel => exact ⟨k + 1, l ++ [(p1, y)], true, by omega, by go_num, rfl, by rw [HST.out]; exact putT_keep (by simp), HO9.out, HB9.out⟩
            case measure => simp [intOf]; omega
        · have hb1 : (x == p1) = false := by simp; exact fun h => e1 h.symm
          have HE1 := Lib.hid e1
          clear e1
          go_wp2_with fail
          go_region_o
          go_wp2_with fail
          go_big_region_o
          go_wp2_with (at_builtin; refine wpList_append_own_at _ rfl (.tmp 40) (.tmp 45) 22 rfl w1.heap.size 47 i0 (.agg #[.int .i64 0, .int .i64 0]) 2 16 pairUnder hi hz0 hz1 hz2 rfl (by decide) _ (l).length ((l).flatMap enc2) rfl (World.ownsRow.alloc HOPD.out _) ⟨wr.heap.size, 0, none⟩ 1 1 [.int .i64 x, .int .i64 y] (by first | rfl | simp) rfl (cell_twoP _ _ rfl _ _ _) (by intro u hu; rcases List.mem_cons.1 hu with rfl | hu; (· rfl); (· rcases List.mem_cons.1 hu with rfl | hu; (· rfl); (· cases hu))) (by unfold maxLen; omega) (by omega) (by first | omega | (simp; omega)) ?_; intro v2HO9 HO9w hm9 hg9 _ hat9; have HO9 := Lib.hid (Op2.push hm9); have HB9 := Lib.hid ((HBD.out.alloc hsD _).grown hg9 (by simp; omega) (fun j hj => (HOPD.out.lt j hj).1)); have HO9z := HB9.out.size; clear hm9 hg9 hat9)
          go_roundw
          case rel => exact ⟨k + 1, l ++ [(x, y)], true, by omega, by go_num, rfl, by rw [HST.out]; exact putT_keep (by simp), HO9.out, HB9.out⟩
          case measure => simp [intOf]; omega
    · obtain rfl : k = n := by omega
      have HE := Lib.hid (show putS (p1, p2) L = (l, dn) by rw [← HLL.out, List.take_of_length_le (by rw [HLN.out]; exact Nat.le_refl _)])
      cases dn
      · have HF := Lib.hid (show putL L (p1, p2) = l ++ [(p1, p2)] by unfold putL; rw [HE.out]; rfl)
        go_wp2_with (at_builtin; refine wpList_append_own_at _ rfl (.tmp 49) (.tmp 51) 22 rfl w1.heap.size 47 i0 (.agg #[.int .i64 0, .int .i64 0]) 2 16 pairUnder hi hz0 hz1 hz2 rfl (by decide) _ (l).length ((l).flatMap enc2) rfl (World.ownsRow.alloc HOP.out _) ⟨wr.heap.size, 0, none⟩ 1 1 [.int .i64 p1, .int .i64 p2] (by first | rfl | simp) rfl (cell_twoP _ _ rfl _ _ _) (by intro u hu; rcases List.mem_cons.1 hu with rfl | hu; (· rfl); (· rcases List.mem_cons.1 hu with rfl | hu; (· rfl); (· cases hu))) (by unfold maxLen; omega) (by omega) (by first | omega | (simp; omega)) ?_; intro v2HO9 HO9w hm9 hg9 _ hat9; have HO9 := Lib.hid (Op2.push hm9); have HB9 := Lib.hid ((HB.out.alloc hs0 _).grown hg9 (by simp; omega) (fun j hj => (HOP.out.lt j hj).1)); have HO9z := HB9.out.size; clear hm9 hg9 hat9)
        go_ret
        exact ⟨_, rfl, ⟨w1.heap.size, hsw, by rw [HF.out]; exact HO9.out⟩, HB0.out.trans (HB9.out.mono hsw)⟩
      · have HF := Lib.hid (show putL L (p1, p2) = l by unfold putL; rw [HE.out]; rfl)
        go_wp2_with fail
        go_ret
        exact ⟨_, rfl, ⟨w1.heap.size, hsw, by rw [HF.out]; exact HOP.out⟩, HB0.out.trans (HB.out.mono hsw)⟩

end Go.Proofs.Ytonnbcongnkcdaa
