/- The statement's apart; the walk of EnemyIndependent. Condition: at most 2^39 elements. -/
import Derived.Test.YtonnbcongnkcdaaEnGp
import Derived.Test.YtonnbcongnkcdaaEnO
import Derived.Test.YtonnbcongnkcdaaFrE
namespace Go.Proofs.Ytonnbcongnkcdaa
open Go.RowKit

def ApJ (b ob c oc i j n cb m cc : Nat) (la : Option Addr) (ln lc : Nat) (x y : Int) (W : World) (z0 : Act) (L : Nat → Bool) (z1 : Act) (w : World) : Prop :=
  ∃ u21 u22 u23 u24 u25 u26 u27 u28 u29 u30 u31 u32 u33 u34 u35 u36 u37 u38 u39 u40 u41, z1 = (((((((((((((((((((((z0.put (some 21) u21).put (some 22) u22).put (some 23) u23).put (some 24) u24).put (some 25) u25).put (some 26) u26).put (some 27) u27).put (some 28) u28).put (some 29) u29).put (some 30) u30).put (some 31) u31).put (some 32) u32).put (some 33) u33).put (some 34) u34).put (some 35) u35).put (some 36) u36).put (some 37) u37).put (some 38) u38).put (some 39) u39).put (some 40) u40).put (some 41) u41) ∧ Since W w ∧ (L 0 = true → u21 = .slice (some ⟨b, ob, none⟩) n cb) ∧ (L 1 = true → u22 = .int .i64 (i : Nat)) ∧ (L 2 = true → u23 = .pointer (some ⟨b, ob + i, none⟩)) ∧ (L 3 = true → u24 = .int .i64 x) ∧ (L 4 = true → u25 = .slice (some ⟨c, oc, none⟩) m cc) ∧ (L 5 = true → u26 = .int .i64 (j : Nat)) ∧ (L 6 = true → u27 = .pointer (some ⟨c, oc + j, none⟩)) ∧ (L 7 = true → u28 = .int .i64 y) ∧ (L 8 = true → u29 = .bool false) ∧ (L 9 = true → u30 = .bool false) ∧ (L 10 = true → u31 = .slice la ln lc) ∧ (L 11 = true → u32 = .slice (some ⟨b, ob, none⟩) n cb) ∧ (L 12 = true → u33 = .int .i64 (i : Nat)) ∧ (L 13 = true → u34 = .pointer (some ⟨b, ob + i, none⟩)) ∧ (L 14 = true → u35 = .int .i64 x) ∧ (L 15 = true → u36 = .slice (some ⟨c, oc, none⟩) m cc) ∧ (L 16 = true → u37 = .int .i64 (j : Nat)) ∧ (L 17 = true → u38 = .pointer (some ⟨c, oc + j, none⟩)) ∧ (L 18 = true → u39 = .int .i64 y) ∧ (L 19 = true → u40 = .bool false) ∧ (L 20 = true → u41 = .bool false)


set_option maxRecDepth 20000 in
set_option maxHeartbeats 8000000 in
theorem apart_any (la : Option Addr) (ln lc : Nat) (L : List (Int × Int)) (a1 a2 : Option Addr) (n cb m cc : Nat) (A Bs : List Int) (w : World) (h : Pr w la ln lc L) (ha : Zl w a1 n cb A) (hb : Zl w a2 m cc Bs) (hq : ∀ x ∈ A, ∀ y ∈ Bs, x ≠ y ∧ areP L x y = false) :
    Calls Try.prog 27 #[.slice la ln lc, .slice a1 n cb, .slice a2 m cc] w fun e w' => e = .returned (.bool true) ∧ Below w.heap.size w w' := by
  have HPL := Lib.hid h
  have HA := Lib.hid ha
  have HB_ := Lib.hid hb
  have HQ := Lib.hid hq
  have a1 := ha.1
  have a2 := ha.2.1
  have a3 := ha.2.2.1
  have b1 := hb.1
  have b2 := hb.2.1
  have b3 := hb.2.2.1
  unfold maxLen at a3 b3
  have HAL := Lib.hid a1
  have HBL := Lib.hid b1
  clear h ha hb hq a1 b1
  go_enter Try.func27, Try.ntmps27
  go_wp2_with fail
  go_loopw [7] (fun i wr => ∃ k : Nat, k ≤ n ∧ i = .int .i64 k ∧ Below w.heap.size w wr) (fun i _ => n - (intOf i).toNat)
  case atStart => exact ⟨0, Nat.zero_le _, rfl, Below.refl _ _⟩
  case round =>
    obtain ⟨i, hi, rfl, hbel⟩ := hrel
    have HB := Lib.hid hbel
    have hs0 := hbel.size
    by_cases hin : i < n
    · clear hbel
      have hix0 : (0 : Int) ≤ (i : Int) := by omega
      have hix1 : (i : Int) < (n : Int) := by omega
      go_wp2_with fail
      go_loopw [8] (fun j wr => ∃ k : Nat, k ≤ m ∧ j = .int .i64 k ∧ Below w.heap.size w wr) (fun j _ => m - (intOf j).toNat)
      case atStart => exact ⟨0, Nat.zero_le _, rfl, HB.out⟩
      case round =>
        obtain ⟨j, hj, rfl, hbel⟩ := hrel
        have HB2 := Lib.hid hbel
        have hs2 := hbel.size
        by_cases hjm : j < m
        · obtain ⟨b, ob, rfl, hc1⟩ := (HA.out.below hbel).2.2.2 (by omega)
          obtain ⟨c, oc, rfl, hc2⟩ := (HB_.out.below hbel).2.2.2 (by omega)
          have hiA : i < A.length := by have := HAL.out; omega
          have hjB : j < Bs.length := by have := HBL.out; omega
          have g1 := hc1 i hin
          have g2 := hc2 j hjm
          rw [getD_lt1 hiA] at g1
          rw [getD_lt1 hjB] at g2
          obtain ⟨x, hx⟩ : ∃ x, A[i] = x := ⟨_, rfl⟩
          obtain ⟨y, hy⟩ : ∃ y, Bs[j] = y := ⟨_, rfl⟩
          rw [hx] at g1
          rw [hy] at g2
          have hxy := HQ.out x (by rw [← hx]; exact List.getElem_mem hiA) y (by rw [← hy]; exact List.getElem_mem hjB)
          have hne : (x == y) = false := by simpa using hxy.1
          have HAR := Lib.hid hxy.2
          replace HPL := Lib.hid (HPL.out.below hbel)
          clear hc1 hc2 hx hy hxy hbel
          have hjx0 : (0 : Int) ≤ (j : Int) := by omega
          have hjx1 : (j : Int) < (m : Int) := by omega
          go_wp2_with fail
          refine region_name fun W1 hW => ?_
          have HBw := Lib.hid (show Below wr.heap.size wr W1 by rw [← hW]; (repeat' (first | with_reducible exact Below.refl _ _ | (with_reducible refine Below.alloc ?_ ?_ _; rotate_left; (focus (first | omega | (simp; done) | (simp; omega)))) | with_reducible apply Below.drew | (with_reducible refine Below.setCell ?_ ?_ _; rotate_left; (focus (first | omega | (simp; done) | (simp; omega)))))))
          clear hW
          replace g1 := cell_mono g1 HBw.out
          replace g2 := cell_mono g2 HBw.out
          replace HPL := Lib.hid (HPL.out.below HBw.out)
          replace HB2 := Lib.hid (HB2.out.trans (HBw.out.mono hs2))
          replace hs2 := HB2.out.size
          refine region_inv2 (by kernel_rfl) (ApJ b ob c oc i j n cb m cc la ln lc x y (W1)) ?_ ?_ ?_ ?_
          · exact ⟨u21, u22, u23, u24, u25, u26, u27, u28, u29, u30, u31, u32, u33, u34, u35, u36, u37, u38, u39, u40, u41, by simp only [Act.put, List.setIfInBounds_toArray, List.set_cons_zero, List.set_cons_succ], Since.drawn _, (fun h => by cases h), (fun h => by cases h), (fun h => by cases h), (fun h => by cases h), (fun h => by cases h), (fun h => by cases h), (fun h => by cases h), (fun h => by cases h), (fun h => by cases h), (fun h => by cases h), (fun h => by cases h), (fun h => by cases h), (fun h => by cases h), (fun h => by cases h), (fun h => by cases h), (fun h => by cases h), (fun h => by cases h), (fun h => by cases h), (fun h => by cases h), (fun h => by cases h), (fun h => by cases h)⟩
          · exact acyc_spec (by kernel_rfl)
          · intro Ls a0 wq i o ho hLi hafter hJ
            obtain ⟨u21, u22, u23, u24, u25, u26, u27, u28, u29, u30, u31, u32, u33, u34, u35, u36, u37, u38, u39, u40, u41, rfl, hS, p0, p1, p2, p3, p4, p5, p6, p7, p8, p9, p10, p11, p12, p13, p14, p15, p16, p17, p18, p19, p20⟩ := hJ
            have hi : i < 21 := (Array.getElem?_eq_some_iff.1 ho).1
            obtain rfl | rfl | rfl | rfl | rfl | rfl | rfl | rfl | rfl | rfl | rfl | rfl | rfl | rfl | rfl | rfl | rfl | rfl | rfl | rfl | rfl : i = 0 ∨ i = 1 ∨ i = 2 ∨ i = 3 ∨ i = 4 ∨ i = 5 ∨ i = 6 ∨ i = 7 ∨ i = 8 ∨ i = 9 ∨ i = 10 ∨ i = 11 ∨ i = 12 ∨ i = 13 ∨ i = 14 ∨ i = 15 ∨ i = 16 ∨ i = 17 ∨ i = 18 ∨ i = 19 ∨ i = 20 := by omega
            · simp only [List.getElem?_toArray, List.getElem?_cons_zero, Option.some.injEq] at ho
              subst ho
              have P0 := Lib.hid p0
              have P1 := Lib.hid p1
              have P2 := Lib.hid p2
              have P3 := Lib.hid p3
              have P4 := Lib.hid p4
              have P5 := Lib.hid p5
              have P6 := Lib.hid p6
              have P7 := Lib.hid p7
              have P8 := Lib.hid p8
              have P9 := Lib.hid p9
              have P10 := Lib.hid p10
              have P11 := Lib.hid p11
              have P12 := Lib.hid p12
              have P13 := Lib.hid p13
              have P14 := Lib.hid p14
              have P15 := Lib.hid p15
              have P16 := Lib.hid p16
              have P17 := Lib.hid p17
              have P18 := Lib.hid p18
              have P19 := Lib.hid p19
              have P20 := Lib.hid p20
              have HS := Lib.hid hS
              clear hS hLi hafter p0 p1 p2 p3 p4 p5 p6 p7 p8 p9 p10 p11 p12 p13 p14 p15 p16 p17 p18 p19 p20
              simp only [Act.put, List.setIfInBounds_toArray, List.set_cons_zero, List.set_cons_succ]
              go_wp2_with fail
              exact ⟨.slice (some ⟨b, ob, none⟩) n cb, u22, u23, u24, u25, u26, u27, u28, u29, u30, u31, u32, u33, u34, u35, u36, u37, u38, u39, u40, u41, by simp only [Act.put, List.setIfInBounds_toArray, List.set_cons_zero, List.set_cons_succ], HS.out, (fun _ => rfl), (fun h => by first | rfl | exact P1.out (by simpa using h)), (fun h => by first | rfl | exact P2.out (by simpa using h)), (fun h => by first | rfl | exact P3.out (by simpa using h)), (fun h => by first | rfl | exact P4.out (by simpa using h)), (fun h => by first | rfl | exact P5.out (by simpa using h)), (fun h => by first | rfl | exact P6.out (by simpa using h)), (fun h => by first | rfl | exact P7.out (by simpa using h)), (fun h => by first | rfl | exact P8.out (by simpa using h)), (fun h => by first | rfl | exact P9.out (by simpa using h)), (fun h => by first | rfl | exact P10.out (by simpa using h)), (fun h => by first | rfl | exact P11.out (by simpa using h)), (fun h => by first | rfl | exact P12.out (by simpa using h)), (fun h => by first | rfl | exact P13.out (by simpa using h)), (fun h => by first | rfl | exact P14.out (by simpa using h)), (fun h => by first | rfl | exact P15.out (by simpa using h)), (fun h => by first | rfl | exact P16.out (by simpa using h)), (fun h => by first | rfl | exact P17.out (by simpa using h)), (fun h => by first | rfl | exact P18.out (by simpa using h)), (fun h => by first | rfl | exact P19.out (by simpa using h)), (fun h => by first | rfl | exact P20.out (by simpa using h))⟩
            · simp only [List.getElem?_toArray, List.getElem?_cons_zero, List.getElem?_cons_succ, Option.some.injEq] at ho
              subst ho
              have P0 := Lib.hid p0
              have P1 := Lib.hid p1
              have P2 := Lib.hid p2
              have P3 := Lib.hid p3
              have P4 := Lib.hid p4
              have P5 := Lib.hid p5
              have P6 := Lib.hid p6
              have P7 := Lib.hid p7
              have P8 := Lib.hid p8
              have P9 := Lib.hid p9
              have P10 := Lib.hid p10
              have P11 := Lib.hid p11
              have P12 := Lib.hid p12
              have P13 := Lib.hid p13
              have P14 := Lib.hid p14
              have P15 := Lib.hid p15
              have P16 := Lib.hid p16
              have P17 := Lib.hid p17
              have P18 := Lib.hid p18
              have P19 := Lib.hid p19
              have P20 := Lib.hid p20
              have HS := Lib.hid hS
              clear hS hLi hafter p0 p1 p2 p3 p4 p5 p6 p7 p8 p9 p10 p11 p12 p13 p14 p15 p16 p17 p18 p19 p20
              simp only [Act.put, List.setIfInBounds_toArray, List.set_cons_zero, List.set_cons_succ]
              go_wp2_with fail
              exact ⟨u21, .int .i64 (i : Nat), u23, u24, u25, u26, u27, u28, u29, u30, u31, u32, u33, u34, u35, u36, u37, u38, u39, u40, u41, by simp only [Act.put, List.setIfInBounds_toArray, List.set_cons_zero, List.set_cons_succ], HS.out, (fun h => by first | rfl | exact P0.out (by simpa using h)), (fun _ => rfl), (fun h => by first | rfl | exact P2.out (by simpa using h)), (fun h => by first | rfl | exact P3.out (by simpa using h)), (fun h => by first | rfl | exact P4.out (by simpa using h)), (fun h => by first | rfl | exact P5.out (by simpa using h)), (fun h => by first | rfl | exact P6.out (by simpa using h)), (fun h => by first | rfl | exact P7.out (by simpa using h)), (fun h => by first | rfl | exact P8.out (by simpa using h)), (fun h => by first | rfl | exact P9.out (by simpa using h)), (fun h => by first | rfl | exact P10.out (by simpa using h)), (fun h => by first | rfl | exact P11.out (by simpa using h)), (fun h => by first | rfl | exact P12.out (by simpa using h)), (fun h => by first | rfl | exact P13.out (by simpa using h)), (fun h => by first | rfl | exact P14.out (by simpa using h)), (fun h => by first | rfl | exact P15.out (by simpa using h)), (fun h => by first | rfl | exact P16.out (by simpa using h)), (fun h => by first | rfl | exact P17.out (by simpa using h)), (fun h => by first | rfl | exact P18.out (by simpa using h)), (fun h => by first | rfl | exact P19.out (by simpa using h)), (fun h => by first | rfl | exact P20.out (by simpa using h))⟩
            · simp only [List.getElem?_toArray, List.getElem?_cons_zero, List.getElem?_cons_succ, Option.some.injEq] at ho
              subst ho
              obtain rfl := p0 (hafter ⟨0, .data⟩ (by simp) rfl)
              obtain rfl := p1 (hafter ⟨1, .data⟩ (by simp) rfl)
              have P0 := Lib.hid p0
              have P1 := Lib.hid p1
              have P2 := Lib.hid p2
              have P3 := Lib.hid p3
              have P4 := Lib.hid p4
              have P5 := Lib.hid p5
              have P6 := Lib.hid p6
              have P7 := Lib.hid p7
              have P8 := Lib.hid p8
              have P9 := Lib.hid p9
              have P10 := Lib.hid p10
              have P11 := Lib.hid p11
              have P12 := Lib.hid p12
              have P13 := Lib.hid p13
              have P14 := Lib.hid p14
              have P15 := Lib.hid p15
              have P16 := Lib.hid p16
              have P17 := Lib.hid p17
              have P18 := Lib.hid p18
              have P19 := Lib.hid p19
              have P20 := Lib.hid p20
              have HS := Lib.hid hS
              clear hS hLi hafter p0 p1 p2 p3 p4 p5 p6 p7 p8 p9 p10 p11 p12 p13 p14 p15 p16 p17 p18 p19 p20
              simp only [Act.put, List.setIfInBounds_toArray, List.set_cons_zero, List.set_cons_succ]
              go_wp2_with fail
              exact ⟨.slice (some ⟨b, ob, none⟩) n cb, .int .i64 (i : Nat), .pointer (some ⟨b, ob + i, none⟩), u24, u25, u26, u27, u28, u29, u30, u31, u32, u33, u34, u35, u36, u37, u38, u39, u40, u41, by simp only [Act.put, List.setIfInBounds_toArray, List.set_cons_zero, List.set_cons_succ], HS.out, (fun h => by first | rfl | exact P0.out (by simpa using h)), (fun h => by first | rfl | exact P1.out (by simpa using h)), (fun _ => rfl), (fun h => by first | rfl | exact P3.out (by simpa using h)), (fun h => by first | rfl | exact P4.out (by simpa using h)), (fun h => by first | rfl | exact P5.out (by simpa using h)), (fun h => by first | rfl | exact P6.out (by simpa using h)), (fun h => by first | rfl | exact P7.out (by simpa using h)), (fun h => by first | rfl | exact P8.out (by simpa using h)), (fun h => by first | rfl | exact P9.out (by simpa using h)), (fun h => by first | rfl | exact P10.out (by simpa using h)), (fun h => by first | rfl | exact P11.out (by simpa using h)), (fun h => by first | rfl | exact P12.out (by simpa using h)), (fun h => by first | rfl | exact P13.out (by simpa using h)), (fun h => by first | rfl | exact P14.out (by simpa using h)), (fun h => by first | rfl | exact P15.out (by simpa using h)), (fun h => by first | rfl | exact P16.out (by simpa using h)), (fun h => by first | rfl | exact P17.out (by simpa using h)), (fun h => by first | rfl | exact P18.out (by simpa using h)), (fun h => by first | rfl | exact P19.out (by simpa using h)), (fun h => by first | rfl | exact P20.out (by simpa using h))⟩
            · simp only [List.getElem?_toArray, List.getElem?_cons_zero, List.getElem?_cons_succ, Option.some.injEq] at ho
              subst ho
              obtain rfl := p2 (hafter ⟨2, .data⟩ (by simp) rfl)
              have c0 := cell_mono g1 hS.1
              have P0 := Lib.hid p0
              have P1 := Lib.hid p1
              have P2 := Lib.hid p2
              have P3 := Lib.hid p3
              have P4 := Lib.hid p4
              have P5 := Lib.hid p5
              have P6 := Lib.hid p6
              have P7 := Lib.hid p7
              have P8 := Lib.hid p8
              have P9 := Lib.hid p9
              have P10 := Lib.hid p10
              have P11 := Lib.hid p11
              have P12 := Lib.hid p12
              have P13 := Lib.hid p13
              have P14 := Lib.hid p14
              have P15 := Lib.hid p15
              have P16 := Lib.hid p16
              have P17 := Lib.hid p17
              have P18 := Lib.hid p18
              have P19 := Lib.hid p19
              have P20 := Lib.hid p20
              have HS := Lib.hid hS
              clear hS hLi hafter p0 p1 p2 p3 p4 p5 p6 p7 p8 p9 p10 p11 p12 p13 p14 p15 p16 p17 p18 p19 p20
              simp only [Act.put, List.setIfInBounds_toArray, List.set_cons_zero, List.set_cons_succ]
              go_wp2_with fail
              exact ⟨u21, u22, .pointer (some ⟨b, ob + i, none⟩), .int .i64 x, u25, u26, u27, u28, u29, u30, u31, u32, u33, u34, u35, u36, u37, u38, u39, u40, u41, by simp only [Act.put, List.setIfInBounds_toArray, List.set_cons_zero, List.set_cons_succ], HS.out, (fun h => by first | rfl | exact P0.out (by simpa using h)), (fun h => by first | rfl | exact P1.out (by simpa using h)), (fun h => by first | rfl | exact P2.out (by simpa using h)), (fun _ => rfl), (fun h => by first | rfl | exact P4.out (by simpa using h)), (fun h => by first | rfl | exact P5.out (by simpa using h)), (fun h => by first | rfl | exact P6.out (by simpa using h)), (fun h => by first | rfl | exact P7.out (by simpa using h)), (fun h => by first | rfl | exact P8.out (by simpa using h)), (fun h => by first | rfl | exact P9.out (by simpa using h)), (fun h => by first | rfl | exact P10.out (by simpa using h)), (fun h => by first | rfl | exact P11.out (by simpa using h)), (fun h => by first | rfl | exact P12.out (by simpa using h)), (fun h => by first | rfl | exact P13.out (by simpa using h)), (fun h => by first | rfl | exact P14.out (by simpa using h)), (fun h => by first | rfl | exact P15.out (by simpa using h)), (fun h => by first | rfl | exact P16.out (by simpa using h)), (fun h => by first | rfl | exact P17.out (by simpa using h)), (fun h => by first | rfl | exact P18.out (by simpa using h)), (fun h => by first | rfl | exact P19.out (by simpa using h)), (fun h => by first | rfl | exact P20.out (by simpa using h))⟩
            · simp only [List.getElem?_toArray, List.getElem?_cons_zero, List.getElem?_cons_succ, Option.some.injEq] at ho
              subst ho
              have P0 := Lib.hid p0
              have P1 := Lib.hid p1
              have P2 := Lib.hid p2
              have P3 := Lib.hid p3
              have P4 := Lib.hid p4
              have P5 := Lib.hid p5
              have P6 := Lib.hid p6
              have P7 := Lib.hid p7
              have P8 := Lib.hid p8
              have P9 := Lib.hid p9
              have P10 := Lib.hid p10
              have P11 := Lib.hid p11
              have P12 := Lib.hid p12
              have P13 := Lib.hid p13
              have P14 := Lib.hid p14
              have P15 := Lib.hid p15
              have P16 := Lib.hid p16
              have P17 := Lib.hid p17
              have P18 := Lib.hid p18
              have P19 := Lib.hid p19
              have P20 := Lib.hid p20
              have HS := Lib.hid hS
              clear hS hLi hafter p0 p1 p2 p3 p4 p5 p6 p7 p8 p9 p10 p11 p12 p13 p14 p15 p16 p17 p18 p19 p20
              simp only [Act.put, List.setIfInBounds_toArray, List.set_cons_zero, List.set_cons_succ]
              go_wp2_with fail
              exact ⟨u21, u22, u23, u24, .slice (some ⟨c, oc, none⟩) m cc, u26, u27, u28, u29, u30, u31, u32, u33, u34, u35, u36, u37, u38, u39, u40, u41, by simp only [Act.put, List.setIfInBounds_toArray, List.set_cons_zero, List.set_cons_succ], HS.out, (fun h => by first | rfl | exact P0.out (by simpa using h)), (fun h => by first | rfl | exact P1.out (by simpa using h)), (fun h => by first | rfl | exact P2.out (by simpa using h)), (fun h => by first | rfl | exact P3.out (by simpa using h)), (fun _ => rfl), (fun h => by first | rfl | exact P5.out (by simpa using h)), (fun h => by first | rfl | exact P6.out (by simpa using h)), (fun h => by first | rfl | exact P7.out (by simpa using h)), (fun h => by first | rfl | exact P8.out (by simpa using h)), (fun h => by first | rfl | exact P9.out (by simpa using h)), (fun h => by first | rfl | exact P10.out (by simpa using h)), (fun h => by first | rfl | exact P11.out (by simpa using h)), (fun h => by first | rfl | exact P12.out (by simpa using h)), (fun h => by first | rfl | exact P13.out (by simpa using h)), (fun h => by first | rfl | exact P14.out (by simpa using h)), (fun h => by first | rfl | exact P15.out (by simpa using h)), (fun h => by first | rfl | exact P16.out (by simpa using h)), (fun h => by first | rfl | exact P17.out (by simpa using h)), (fun h => by first | rfl | exact P18.out (by simpa using h)), (fun h => by first | rfl | exact P19.out (by simpa using h)), (fun h => by first | rfl | exact P20.out (by simpa using h))⟩
            · simp only [List.getElem?_toArray, List.getElem?_cons_zero, List.getElem?_cons_succ, Option.some.injEq] at ho
              subst ho
              have P0 := Lib.hid p0
              have P1 := Lib.hid p1
              have P2 := Lib.hid p2
              have P3 := Lib.hid p3
              have P4 := Lib.hid p4
              have P5 := Lib.hid p5
              have P6 := Lib.hid p6
              have P7 := Lib.hid p7
              have P8 := Lib.hid p8
              have P9 := Lib.hid p9
              have P10 := Lib.hid p10
              have P11 := Lib.hid p11
              have P12 := Lib.hid p12
              have P13 := Lib.hid p13
              have P14 := Lib.hid p14
              have P15 := Lib.hid p15
              have P16 := Lib.hid p16
              have P17 := Lib.hid p17
              have P18 := Lib.hid p18
              have P19 := Lib.hid p19
              have P20 := Lib.hid p20
              have HS := Lib.hid hS
              clear hS hLi hafter p0 p1 p2 p3 p4 p5 p6 p7 p8 p9 p10 p11 p12 p13 p14 p15 p16 p17 p18 p19 p20
              simp only [Act.put, List.setIfInBounds_toArray, List.set_cons_zero, List.set_cons_succ]
              go_wp2_with fail
              exact ⟨u21, u22, u23, u24, u25, .int .i64 (j : Nat), u27, u28, u29, u30, u31, u32, u33, u34, u35, u36, u37, u38, u39, u40, u41, by simp only [Act.put, List.setIfInBounds_toArray, List.set_cons_zero, List.set_cons_succ], HS.out, (fun h => by first | rfl | exact P0.out (by simpa using h)), (fun h => by first | rfl | exact P1.out (by simpa using h)), (fun h => by first | rfl | exact P2.out (by simpa using h)), (fun h => by first | rfl | exact P3.out (by simpa using h)), (fun h => by first | rfl | exact P4.out (by simpa using h)), (fun _ => rfl), (fun h => by first | rfl | exact P6.out (by simpa using h)), (fun h => by first | rfl | exact P7.out (by simpa using h)), (fun h => by first | rfl | exact P8.out (by simpa using h)), (fun h => by first | rfl | exact P9.out (by simpa using h)), (fun h => by first | rfl | exact P10.out (by simpa using h)), (fun h => by first | rfl | exact P11.out (by simpa using h)), (fun h => by first | rfl | exact P12.out (by simpa using h)), (fun h => by first | rfl | exact P13.out (by simpa using h)), (fun h => by first | rfl | exact P14.out (by simpa using h)), (fun h => by first | rfl | exact P15.out (by simpa using h)), (fun h => by first | rfl | exact P16.out (by simpa using h)), (fun h => by first | rfl | exact P17.out (by simpa using h)), (fun h => by first | rfl | exact P18.out (by simpa using h)), (fun h => by first | rfl | exact P19.out (by simpa using h)), (fun h => by first | rfl | exact P20.out (by simpa using h))⟩
            · simp only [List.getElem?_toArray, List.getElem?_cons_zero, List.getElem?_cons_succ, Option.some.injEq] at ho
              subst ho
              obtain rfl := p4 (hafter ⟨4, .data⟩ (by simp) rfl)
              obtain rfl := p5 (hafter ⟨5, .data⟩ (by simp) rfl)
              have P0 := Lib.hid p0
              have P1 := Lib.hid p1
              have P2 := Lib.hid p2
              have P3 := Lib.hid p3
              have P4 := Lib.hid p4
              have P5 := Lib.hid p5
              have P6 := Lib.hid p6
              have P7 := Lib.hid p7
              have P8 := Lib.hid p8
              have P9 := Lib.hid p9
              have P10 := Lib.hid p10
              have P11 := Lib.hid p11
              have P12 := Lib.hid p12
              have P13 := Lib.hid p13
              have P14 := Lib.hid p14
              have P15 := Lib.hid p15
              have P16 := Lib.hid p16
              have P17 := Lib.hid p17
              have P18 := Lib.hid p18
              have P19 := Lib.hid p19
              have P20 := Lib.hid p20
              have HS := Lib.hid hS
              clear hS hLi hafter p0 p1 p2 p3 p4 p5 p6 p7 p8 p9 p10 p11 p12 p13 p14 p15 p16 p17 p18 p19 p20
              simp only [Act.put, List.setIfInBounds_toArray, List.set_cons_zero, List.set_cons_succ]
              go_wp2_with fail
              exact ⟨u21, u22, u23, u24, .slice (some ⟨c, oc, none⟩) m cc, .int .i64 (j : Nat), .pointer (some ⟨c, oc + j, none⟩), u28, u29, u30, u31, u32, u33, u34, u35, u36, u37, u38, u39, u40, u41, by simp only [Act.put, List.setIfInBounds_toArray, List.set_cons_zero, List.set_cons_succ], HS.out, (fun h => by first | rfl | exact P0.out (by simpa using h)), (fun h => by first | rfl | exact P1.out (by simpa using h)), (fun h => by first | rfl | exact P2.out (by simpa using h)), (fun h => by first | rfl | exact P3.out (by simpa using h)), (fun h => by first | rfl | exact P4.out (by simpa using h)), (fun h => by first | rfl | exact P5.out (by simpa using h)), (fun _ => rfl), (fun h => by first | rfl | exact P7.out (by simpa using h)), (fun h => by first | rfl | exact P8.out (by simpa using h)), (fun h => by first | rfl | exact P9.out (by simpa using h)), (fun h => by first | rfl | exact P10.out (by simpa using h)), (fun h => by first | rfl | exact P11.out (by simpa using h)), (fun h => by first | rfl | exact P12.out (by simpa using h)), (fun h => by first | rfl | exact P13.out (by simpa using h)), (fun h => by first | rfl | exact P14.out (by simpa using h)), (fun h => by first | rfl | exact P15.out (by simpa using h)), (fun h => by first | rfl | exact P16.out (by simpa using h)), (fun h => by first | rfl | exact P17.out (by simpa using h)), (fun h => by first | rfl | exact P18.out (by simpa using h)), (fun h => by first | rfl | exact P19.out (by simpa using h)), (fun h => by first | rfl | exact P20.out (by simpa using h))⟩
            · simp only [List.getElem?_toArray, List.getElem?_cons_zero, List.getElem?_cons_succ, Option.some.injEq] at ho
              subst ho
              obtain rfl := p6 (hafter ⟨6, .data⟩ (by simp) rfl)
              have c0 := cell_mono g2 hS.1
              have P0 := Lib.hid p0
              have P1 := Lib.hid p1
              have P2 := Lib.hid p2
              have P3 := Lib.hid p3
              have P4 := Lib.hid p4
              have P5 := Lib.hid p5
              have P6 := Lib.hid p6
              have P7 := Lib.hid p7
              have P8 := Lib.hid p8
              have P9 := Lib.hid p9
              have P10 := Lib.hid p10
              have P11 := Lib.hid p11
              have P12 := Lib.hid p12
              have P13 := Lib.hid p13
              have P14 := Lib.hid p14
              have P15 := Lib.hid p15
              have P16 := Lib.hid p16
              have P17 := Lib.hid p17
              have P18 := Lib.hid p18
              have P19 := Lib.hid p19
              have P20 := Lib.hid p20
              have HS := Lib.hid hS
              clear hS hLi hafter p0 p1 p2 p3 p4 p5 p6 p7 p8 p9 p10 p11 p12 p13 p14 p15 p16 p17 p18 p19 p20
              simp only [Act.put, List.setIfInBounds_toArray, List.set_cons_zero, List.set_cons_succ]
              go_wp2_with fail
              exact ⟨u21, u22, u23, u24, u25, u26, .pointer (some ⟨c, oc + j, none⟩), .int .i64 y, u29, u30, u31, u32, u33, u34, u35, u36, u37, u38, u39, u40, u41, by simp only [Act.put, List.setIfInBounds_toArray, List.set_cons_zero, List.set_cons_succ], HS.out, (fun h => by first | rfl | exact P0.out (by simpa using h)), (fun h => by first | rfl | exact P1.out (by simpa using h)), (fun h => by first | rfl | exact P2.out (by simpa using h)), (fun h => by first | rfl | exact P3.out (by simpa using h)), (fun h => by first | rfl | exact P4.out (by simpa using h)), (fun h => by first | rfl | exact P5.out (by simpa using h)), (fun h => by first | rfl | exact P6.out (by simpa using h)), (fun _ => rfl), (fun h => by first | rfl | exact P8.out (by simpa using h)), (fun h => by first | rfl | exact P9.out (by simpa using h)), (fun h => by first | rfl | exact P10.out (by simpa using h)), (fun h => by first | rfl | exact P11.out (by simpa using h)), (fun h => by first | rfl | exact P12.out (by simpa using h)), (fun h => by first | rfl | exact P13.out (by simpa using h)), (fun h => by first | rfl | exact P14.out (by simpa using h)), (fun h => by first | rfl | exact P15.out (by simpa using h)), (fun h => by first | rfl | exact P16.out (by simpa using h)), (fun h => by first | rfl | exact P17.out (by simpa using h)), (fun h => by first | rfl | exact P18.out (by simpa using h)), (fun h => by first | rfl | exact P19.out (by simpa using h)), (fun h => by first | rfl | exact P20.out (by simpa using h))⟩
            · simp only [List.getElem?_toArray, List.getElem?_cons_zero, List.getElem?_cons_succ, Option.some.injEq] at ho
              subst ho
              obtain rfl := p3 (hafter ⟨3, .data⟩ (by simp) rfl)
              obtain rfl := p7 (hafter ⟨7, .data⟩ (by simp) rfl)
              have P0 := Lib.hid p0
              have P1 := Lib.hid p1
              have P2 := Lib.hid p2
              have P3 := Lib.hid p3
              have P4 := Lib.hid p4
              have P5 := Lib.hid p5
              have P6 := Lib.hid p6
              have P7 := Lib.hid p7
              have P8 := Lib.hid p8
              have P9 := Lib.hid p9
              have P10 := Lib.hid p10
              have P11 := Lib.hid p11
              have P12 := Lib.hid p12
              have P13 := Lib.hid p13
              have P14 := Lib.hid p14
              have P15 := Lib.hid p15
              have P16 := Lib.hid p16
              have P17 := Lib.hid p17
              have P18 := Lib.hid p18
              have P19 := Lib.hid p19
              have P20 := Lib.hid p20
              have HS := Lib.hid hS
              clear hS hLi hafter p0 p1 p2 p3 p4 p5 p6 p7 p8 p9 p10 p11 p12 p13 p14 p15 p16 p17 p18 p19 p20
              simp only [Act.put, List.setIfInBounds_toArray, List.set_cons_zero, List.set_cons_succ]
              go_wp2_with fail
              exact ⟨u21, u22, u23, .int .i64 x, u25, u26, u27, .int .i64 y, .bool false, u30, u31, u32, u33, u34, u35, u36, u37, u38, u39, u40, u41, by simp only [Act.put, List.setIfInBounds_toArray, List.set_cons_zero, List.set_cons_succ], HS.out, (fun h => by first | rfl | exact P0.out (by simpa using h)), (fun h => by first | rfl | exact P1.out (by simpa using h)), (fun h => by first | rfl | exact P2.out (by simpa using h)), (fun h => by first | rfl | exact P3.out (by simpa using h)), (fun h => by first | rfl | exact P4.out (by simpa using h)), (fun h => by first | rfl | exact P5.out (by simpa using h)), (fun h => by first | rfl | exact P6.out (by simpa using h)), (fun h => by first | rfl | exact P7.out (by simpa using h)), (fun _ => rfl), (fun h => by first | rfl | exact P9.out (by simpa using h)), (fun h => by first | rfl | exact P10.out (by simpa using h)), (fun h => by first | rfl | exact P11.out (by simpa using h)), (fun h => by first | rfl | exact P12.out (by simpa using h)), (fun h => by first | rfl | exact P13.out (by simpa using h)), (fun h => by first | rfl | exact P14.out (by simpa using h)), (fun h => by first | rfl | exact P15.out (by simpa using h)), (fun h => by first | rfl | exact P16.out (by simpa using h)), (fun h => by first | rfl | exact P17.out (by simpa using h)), (fun h => by first | rfl | exact P18.out (by simpa using h)), (fun h => by first | rfl | exact P19.out (by simpa using h)), (fun h => by first | rfl | exact P20.out (by simpa using h))⟩
            · simp only [List.getElem?_toArray, List.getElem?_cons_zero, List.getElem?_cons_succ, Option.some.injEq] at ho
              subst ho
              obtain rfl := p8 (hafter ⟨8, .data⟩ (by simp) rfl)
              have P0 := Lib.hid p0
              have P1 := Lib.hid p1
              have P2 := Lib.hid p2
              have P3 := Lib.hid p3
              have P4 := Lib.hid p4
              have P5 := Lib.hid p5
              have P6 := Lib.hid p6
              have P7 := Lib.hid p7
              have P8 := Lib.hid p8
              have P9 := Lib.hid p9
              have P10 := Lib.hid p10
              have P11 := Lib.hid p11
              have P12 := Lib.hid p12
              have P13 := Lib.hid p13
              have P14 := Lib.hid p14
              have P15 := Lib.hid p15
              have P16 := Lib.hid p16
              have P17 := Lib.hid p17
              have P18 := Lib.hid p18
              have P19 := Lib.hid p19
              have P20 := Lib.hid p20
              have HS := Lib.hid hS
              clear hS hLi hafter p0 p1 p2 p3 p4 p5 p6 p7 p8 p9 p10 p11 p12 p13 p14 p15 p16 p17 p18 p19 p20
              simp only [Act.put, List.setIfInBounds_toArray, List.set_cons_zero, List.set_cons_succ]
              go_wp2_with fail
              exact ⟨u21, u22, u23, u24, u25, u26, u27, u28, .bool false, .bool false, u31, u32, u33, u34, u35, u36, u37, u38, u39, u40, u41, by simp only [Act.put, List.setIfInBounds_toArray, List.set_cons_zero, List.set_cons_succ], HS.out, (fun h => by first | rfl | exact P0.out (by simpa using h)), (fun h => by first | rfl | exact P1.out (by simpa using h)), (fun h => by first | rfl | exact P2.out (by simpa using h)), (fun h => by first | rfl | exact P3.out (by simpa using h)), (fun h => by first | rfl | exact P4.out (by simpa using h)), (fun h => by first | rfl | exact P5.out (by simpa using h)), (fun h => by first | rfl | exact P6.out (by simpa using h)), (fun h => by first | rfl | exact P7.out (by simpa using h)), (fun h => by first | rfl | exact P8.out (by simpa using h)), (fun _ => rfl), (fun h => by first | rfl | exact P10.out (by simpa using h)), (fun h => by first | rfl | exact P11.out (by simpa using h)), (fun h => by first | rfl | exact P12.out (by simpa using h)), (fun h => by first | rfl | exact P13.out (by simpa using h)), (fun h => by first | rfl | exact P14.out (by simpa using h)), (fun h => by first | rfl | exact P15.out (by simpa using h)), (fun h => by first | rfl | exact P16.out (by simpa using h)), (fun h => by first | rfl | exact P17.out (by simpa using h)), (fun h => by first | rfl | exact P18.out (by simpa using h)), (fun h => by first | rfl | exact P19.out (by simpa using h)), (fun h => by first | rfl | exact P20.out (by simpa using h))⟩
            · simp only [List.getElem?_toArray, List.getElem?_cons_zero, List.getElem?_cons_succ, Option.some.injEq] at ho
              subst ho
              obtain rfl := p9 (hafter ⟨9, .guard⟩ (by simp) rfl)
              have P0 := Lib.hid p0
              have P1 := Lib.hid p1
              have P2 := Lib.hid p2
              have P3 := Lib.hid p3
              have P4 := Lib.hid p4
              have P5 := Lib.hid p5
              have P6 := Lib.hid p6
              have P7 := Lib.hid p7
              have P8 := Lib.hid p8
              have P9 := Lib.hid p9
              have P10 := Lib.hid p10
              have P11 := Lib.hid p11
              have P12 := Lib.hid p12
              have P13 := Lib.hid p13
              have P14 := Lib.hid p14
              have P15 := Lib.hid p15
              have P16 := Lib.hid p16
              have P17 := Lib.hid p17
              have P18 := Lib.hid p18
              have P19 := Lib.hid p19
              have P20 := Lib.hid p20
              have HS := Lib.hid hS
              clear hS hLi hafter p0 p1 p2 p3 p4 p5 p6 p7 p8 p9 p10 p11 p12 p13 p14 p15 p16 p17 p18 p19 p20
              simp only [Act.put, List.setIfInBounds_toArray, List.set_cons_zero, List.set_cons_succ]
              go_wp2_with fail
              exact ⟨u21, u22, u23, u24, u25, u26, u27, u28, u29, .bool false, .slice la ln lc, u32, u33, u34, u35, u36, u37, u38, u39, u40, u41, by simp only [Act.put, List.setIfInBounds_toArray, List.set_cons_zero, List.set_cons_succ], HS.out, (fun h => by first | rfl | exact P0.out (by simpa using h)), (fun h => by first | rfl | exact P1.out (by simpa using h)), (fun h => by first | rfl | exact P2.out (by simpa using h)), (fun h => by first | rfl | exact P3.out (by simpa using h)), (fun h => by first | rfl | exact P4.out (by simpa using h)), (fun h => by first | rfl | exact P5.out (by simpa using h)), (fun h => by first | rfl | exact P6.out (by simpa using h)), (fun h => by first | rfl | exact P7.out (by simpa using h)), (fun h => by first | rfl | exact P8.out (by simpa using h)), (fun h => by first | rfl | exact P9.out (by simpa using h)), (fun _ => rfl), (fun h => by first | rfl | exact P11.out (by simpa using h)), (fun h => by first | rfl | exact P12.out (by simpa using h)), (fun h => by first | rfl | exact P13.out (by simpa using h)), (fun h => by first | rfl | exact P14.out (by simpa using h)), (fun h => by first | rfl | exact P15.out (by simpa using h)), (fun h => by first | rfl | exact P16.out (by simpa using h)), (fun h => by first | rfl | exact P17.out (by simpa using h)), (fun h => by first | rfl | exact P18.out (by simpa using h)), (fun h => by first | rfl | exact P19.out (by simpa using h)), (fun h => by first | rfl | exact P20.out (by simpa using h))⟩
            · simp only [List.getElem?_toArray, List.getElem?_cons_zero, List.getElem?_cons_succ, Option.some.injEq] at ho
              subst ho
              obtain rfl := p9 (hafter ⟨9, .guard⟩ (by simp) rfl)
              have P0 := Lib.hid p0
              have P1 := Lib.hid p1
              have P2 := Lib.hid p2
              have P3 := Lib.hid p3
              have P4 := Lib.hid p4
              have P5 := Lib.hid p5
              have P6 := Lib.hid p6
              have P7 := Lib.hid p7
              have P8 := Lib.hid p8
              have P9 := Lib.hid p9
              have P10 := Lib.hid p10
              have P11 := Lib.hid p11
              have P12 := Lib.hid p12
              have P13 := Lib.hid p13
              have P14 := Lib.hid p14
              have P15 := Lib.hid p15
              have P16 := Lib.hid p16
              have P17 := Lib.hid p17
              have P18 := Lib.hid p18
              have P19 := Lib.hid p19
              have P20 := Lib.hid p20
              have HS := Lib.hid hS
              clear hS hLi hafter p0 p1 p2 p3 p4 p5 p6 p7 p8 p9 p10 p11 p12 p13 p14 p15 p16 p17 p18 p19 p20
              simp only [Act.put, List.setIfInBounds_toArray, List.set_cons_zero, List.set_cons_succ]
              go_wp2_with fail
              exact ⟨u21, u22, u23, u24, u25, u26, u27, u28, u29, .bool false, u31, .slice (some ⟨b, ob, none⟩) n cb, u33, u34, u35, u36, u37, u38, u39, u40, u41, by simp only [Act.put, List.setIfInBounds_toArray, List.set_cons_zero, List.set_cons_succ], HS.out, (fun h => by first | rfl | exact P0.out (by simpa using h)), (fun h => by first | rfl | exact P1.out (by simpa using h)), (fun h => by first | rfl | exact P2.out (by simpa using h)), (fun h => by first | rfl | exact P3.out (by simpa using h)), (fun h => by first | rfl | exact P4.out (by simpa using h)), (fun h => by first | rfl | exact P5.out (by simpa using h)), (fun h => by first | rfl | exact P6.out (by simpa using h)), (fun h => by first | rfl | exact P7.out (by simpa using h)), (fun h => by first | rfl | exact P8.out (by simpa using h)), (fun h => by first | rfl | exact P9.out (by simpa using h)), (fun h => by first | rfl | exact P10.out (by simpa using h)), (fun _ => rfl), (fun h => by first | rfl | exact P12.out (by simpa using h)), (fun h => by first | rfl | exact P13.out (by simpa using h)), (fun h => by first | rfl | exact P14.out (by simpa using h)), (fun h => by first | rfl | exact P15.out (by simpa using h)), (fun h => by first | rfl | exact P16.out (by simpa using h)), (fun h => by first | rfl | exact P17.out (by simpa using h)), (fun h => by first | rfl | exact P18.out (by simpa using h)), (fun h => by first | rfl | exact P19.out (by simpa using h)), (fun h => by first | rfl | exact P20.out (by simpa using h))⟩
            · simp only [List.getElem?_toArray, List.getElem?_cons_zero, List.getElem?_cons_succ, Option.some.injEq] at ho
              subst ho
              obtain rfl := p9 (hafter ⟨9, .guard⟩ (by simp) rfl)
              have P0 := Lib.hid p0
              have P1 := Lib.hid p1
              have P2 := Lib.hid p2
              have P3 := Lib.hid p3
              have P4 := Lib.hid p4
              have P5 := Lib.hid p5
              have P6 := Lib.hid p6
              have P7 := Lib.hid p7
              have P8 := Lib.hid p8
              have P9 := Lib.hid p9
              have P10 := Lib.hid p10
              have P11 := Lib.hid p11
              have P12 := Lib.hid p12
              have P13 := Lib.hid p13
              have P14 := Lib.hid p14
              have P15 := Lib.hid p15
              have P16 := Lib.hid p16
              have P17 := Lib.hid p17
              have P18 := Lib.hid p18
              have P19 := Lib.hid p19
              have P20 := Lib.hid p20
              have HS := Lib.hid hS
              clear hS hLi hafter p0 p1 p2 p3 p4 p5 p6 p7 p8 p9 p10 p11 p12 p13 p14 p15 p16 p17 p18 p19 p20
              simp only [Act.put, List.setIfInBounds_toArray, List.set_cons_zero, List.set_cons_succ]
              go_wp2_with fail
              exact ⟨u21, u22, u23, u24, u25, u26, u27, u28, u29, .bool false, u31, u32, .int .i64 (i : Nat), u34, u35, u36, u37, u38, u39, u40, u41, by simp only [Act.put, List.setIfInBounds_toArray, List.set_cons_zero, List.set_cons_succ], HS.out, (fun h => by first | rfl | exact P0.out (by simpa using h)), (fun h => by first | rfl | exact P1.out (by simpa using h)), (fun h => by first | rfl | exact P2.out (by simpa using h)), (fun h => by first | rfl | exact P3.out (by simpa using h)), (fun h => by first | rfl | exact P4.out (by simpa using h)), (fun h => by first | rfl | exact P5.out (by simpa using h)), (fun h => by first | rfl | exact P6.out (by simpa using h)), (fun h => by first | rfl | exact P7.out (by simpa using h)), (fun h => by first | rfl | exact P8.out (by simpa using h)), (fun h => by first | rfl | exact P9.out (by simpa using h)), (fun h => by first | rfl | exact P10.out (by simpa using h)), (fun h => by first | rfl | exact P11.out (by simpa using h)), (fun _ => rfl), (fun h => by first | rfl | exact P13.out (by simpa using h)), (fun h => by first | rfl | exact P14.out (by simpa using h)), (fun h => by first | rfl | exact P15.out (by simpa using h)), (fun h => by first | rfl | exact P16.out (by simpa using h)), (fun h => by first | rfl | exact P17.out (by simpa using h)), (fun h => by first | rfl | exact P18.out (by simpa using h)), (fun h => by first | rfl | exact P19.out (by simpa using h)), (fun h => by first | rfl | exact P20.out (by simpa using h))⟩
            · simp only [List.getElem?_toArray, List.getElem?_cons_zero, List.getElem?_cons_succ, Option.some.injEq] at ho
              subst ho
              obtain rfl := p9 (hafter ⟨9, .guard⟩ (by simp) rfl)
              obtain rfl := p11 (hafter ⟨11, .data⟩ (by simp) rfl)
              obtain rfl := p12 (hafter ⟨12, .data⟩ (by simp) rfl)
              have P0 := Lib.hid p0
              have P1 := Lib.hid p1
              have P2 := Lib.hid p2
              have P3 := Lib.hid p3
              have P4 := Lib.hid p4
              have P5 := Lib.hid p5
              have P6 := Lib.hid p6
              have P7 := Lib.hid p7
              have P8 := Lib.hid p8
              have P9 := Lib.hid p9
              have P10 := Lib.hid p10
              have P11 := Lib.hid p11
              have P12 := Lib.hid p12
              have P13 := Lib.hid p13
              have P14 := Lib.hid p14
              have P15 := Lib.hid p15
              have P16 := Lib.hid p16
              have P17 := Lib.hid p17
              have P18 := Lib.hid p18
              have P19 := Lib.hid p19
              have P20 := Lib.hid p20
              have HS := Lib.hid hS
              clear hS hLi hafter p0 p1 p2 p3 p4 p5 p6 p7 p8 p9 p10 p11 p12 p13 p14 p15 p16 p17 p18 p19 p20
              simp only [Act.put, List.setIfInBounds_toArray, List.set_cons_zero, List.set_cons_succ]
              go_wp2_with fail
              exact ⟨u21, u22, u23, u24, u25, u26, u27, u28, u29, .bool false, u31, .slice (some ⟨b, ob, none⟩) n cb, .int .i64 (i : Nat), .pointer (some ⟨b, ob + i, none⟩), u35, u36, u37, u38, u39, u40, u41, by simp only [Act.put, List.setIfInBounds_toArray, List.set_cons_zero, List.set_cons_succ], HS.out, (fun h => by first | rfl | exact P0.out (by simpa using h)), (fun h => by first | rfl | exact P1.out (by simpa using h)), (fun h => by first | rfl | exact P2.out (by simpa using h)), (fun h => by first | rfl | exact P3.out (by simpa using h)), (fun h => by first | rfl | exact P4.out (by simpa using h)), (fun h => by first | rfl | exact P5.out (by simpa using h)), (fun h => by first | rfl | exact P6.out (by simpa using h)), (fun h => by first | rfl | exact P7.out (by simpa using h)), (fun h => by first | rfl | exact P8.out (by simpa using h)), (fun h => by first | rfl | exact P9.out (by simpa using h)), (fun h => by first | rfl | exact P10.out (by simpa using h)), (fun h => by first | rfl | exact P11.out (by simpa using h)), (fun h => by first | rfl | exact P12.out (by simpa using h)), (fun _ => rfl), (fun h => by first | rfl | exact P14.out (by simpa using h)), (fun h => by first | rfl | exact P15.out (by simpa using h)), (fun h => by first | rfl | exact P16.out (by simpa using h)), (fun h => by first | rfl | exact P17.out (by simpa using h)), (fun h => by first | rfl | exact P18.out (by simpa using h)), (fun h => by first | rfl | exact P19.out (by simpa using h)), (fun h => by first | rfl | exact P20.out (by simpa using h))⟩
            · simp only [List.getElem?_toArray, List.getElem?_cons_zero, List.getElem?_cons_succ, Option.some.injEq] at ho
              subst ho
              obtain rfl := p9 (hafter ⟨9, .guard⟩ (by simp) rfl)
              obtain rfl := p13 (hafter ⟨13, .data⟩ (by simp) rfl)
              have c0 := cell_mono g1 hS.1
              have P0 := Lib.hid p0
              have P1 := Lib.hid p1
              have P2 := Lib.hid p2
              have P3 := Lib.hid p3
              have P4 := Lib.hid p4
              have P5 := Lib.hid p5
              have P6 := Lib.hid p6
              have P7 := Lib.hid p7
              have P8 := Lib.hid p8
              have P9 := Lib.hid p9
              have P10 := Lib.hid p10
              have P11 := Lib.hid p11
              have P12 := Lib.hid p12
              have P13 := Lib.hid p13
              have P14 := Lib.hid p14
              have P15 := Lib.hid p15
              have P16 := Lib.hid p16
              have P17 := Lib.hid p17
              have P18 := Lib.hid p18
              have P19 := Lib.hid p19
              have P20 := Lib.hid p20
              have HS := Lib.hid hS
              clear hS hLi hafter p0 p1 p2 p3 p4 p5 p6 p7 p8 p9 p10 p11 p12 p13 p14 p15 p16 p17 p18 p19 p20
              simp only [Act.put, List.setIfInBounds_toArray, List.set_cons_zero, List.set_cons_succ]
              go_wp2_with fail
              exact ⟨u21, u22, u23, u24, u25, u26, u27, u28, u29, .bool false, u31, u32, u33, .pointer (some ⟨b, ob + i, none⟩), .int .i64 x, u36, u37, u38, u39, u40, u41, by simp only [Act.put, List.setIfInBounds_toArray, List.set_cons_zero, List.set_cons_succ], HS.out, (fun h => by first | rfl | exact P0.out (by simpa using h)), (fun h => by first | rfl | exact P1.out (by simpa using h)), (fun h => by first | rfl | exact P2.out (by simpa using h)), (fun h => by first | rfl | exact P3.out (by simpa using h)), (fun h => by first | rfl | exact P4.out (by simpa using h)), (fun h => by first | rfl | exact P5.out (by simpa using h)), (fun h => by first | rfl | exact P6.out (by simpa using h)), (fun h => by first | rfl | exact P7.out (by simpa using h)), (fun h => by first | rfl | exact P8.out (by simpa using h)), (fun h => by first | rfl | exact P9.out (by simpa using h)), (fun h => by first | rfl | exact P10.out (by simpa using h)), (fun h => by first | rfl | exact P11.out (by simpa using h)), (fun h => by first | rfl | exact P12.out (by simpa using h)), (fun h => by first | rfl | exact P13.out (by simpa using h)), (fun _ => rfl), (fun h => by first | rfl | exact P15.out (by simpa using h)), (fun h => by first | rfl | exact P16.out (by simpa using h)), (fun h => by first | rfl | exact P17.out (by simpa using h)), (fun h => by first | rfl | exact P18.out (by simpa using h)), (fun h => by first | rfl | exact P19.out (by simpa using h)), (fun h => by first | rfl | exact P20.out (by simpa using h))⟩
            · simp only [List.getElem?_toArray, List.getElem?_cons_zero, List.getElem?_cons_succ, Option.some.injEq] at ho
              subst ho
              obtain rfl := p9 (hafter ⟨9, .guard⟩ (by simp) rfl)
              have P0 := Lib.hid p0
              have P1 := Lib.hid p1
              have P2 := Lib.hid p2
              have P3 := Lib.hid p3
              have P4 := Lib.hid p4
              have P5 := Lib.hid p5
              have P6 := Lib.hid p6
              have P7 := Lib.hid p7
              have P8 := Lib.hid p8
              have P9 := Lib.hid p9
              have P10 := Lib.hid p10
              have P11 := Lib.hid p11
              have P12 := Lib.hid p12
              have P13 := Lib.hid p13
              have P14 := Lib.hid p14
              have P15 := Lib.hid p15
              have P16 := Lib.hid p16
              have P17 := Lib.hid p17
              have P18 := Lib.hid p18
              have P19 := Lib.hid p19
              have P20 := Lib.hid p20
              have HS := Lib.hid hS
              clear hS hLi hafter p0 p1 p2 p3 p4 p5 p6 p7 p8 p9 p10 p11 p12 p13 p14 p15 p16 p17 p18 p19 p20
              simp only [Act.put, List.setIfInBounds_toArray, List.set_cons_zero, List.set_cons_succ]
              go_wp2_with fail
              exact ⟨u21, u22, u23, u24, u25, u26, u27, u28, u29, .bool false, u31, u32, u33, u34, u35, .slice (some ⟨c, oc, none⟩) m cc, u37, u38, u39, u40, u41, by simp only [Act.put, List.setIfInBounds_toArray, List.set_cons_zero, List.set_cons_succ], HS.out, (fun h => by first | rfl | exact P0.out (by simpa using h)), (fun h => by first | rfl | exact P1.out (by simpa using h)), (fun h => by first | rfl | exact P2.out (by simpa using h)), (fun h => by first | rfl | exact P3.out (by simpa using h)), (fun h => by first | rfl | exact P4.out (by simpa using h)), (fun h => by first | rfl | exact P5.out (by simpa using h)), (fun h => by first | rfl | exact P6.out (by simpa using h)), (fun h => by first | rfl | exact P7.out (by simpa using h)), (fun h => by first | rfl | exact P8.out (by simpa using h)), (fun h => by first | rfl | exact P9.out (by simpa using h)), (fun h => by first | rfl | exact P10.out (by simpa using h)), (fun h => by first | rfl | exact P11.out (by simpa using h)), (fun h => by first | rfl | exact P12.out (by simpa using h)), (fun h => by first | rfl | exact P13.out (by simpa using h)), (fun h => by first | rfl | exact P14.out (by simpa using h)), (fun _ => rfl), (fun h => by first | rfl | exact P16.out (by simpa using h)), (fun h => by first | rfl | exact P17.out (by simpa using h)), (fun h => by first | rfl | exact P18.out (by simpa using h)), (fun h => by first | rfl | exact P19.out (by simpa using h)), (fun h => by first | rfl | exact P20.out (by simpa using h))⟩
            · simp only [List.getElem?_toArray, List.getElem?_cons_zero, List.getElem?_cons_succ, Option.some.injEq] at ho
              subst ho
              obtain rfl := p9 (hafter ⟨9, .guard⟩ (by simp) rfl)
              have P0 := Lib.hid p0
              have P1 := Lib.hid p1
              have P2 := Lib.hid p2
              have P3 := Lib.hid p3
              have P4 := Lib.hid p4
              have P5 := Lib.hid p5
              have P6 := Lib.hid p6
              have P7 := Lib.hid p7
              have P8 := Lib.hid p8
              have P9 := Lib.hid p9
              have P10 := Lib.hid p10
              have P11 := Lib.hid p11
              have P12 := Lib.hid p12
              have P13 := Lib.hid p13
              have P14 := Lib.hid p14
              have P15 := Lib.hid p15
              have P16 := Lib.hid p16
              have P17 := Lib.hid p17
              have P18 := Lib.hid p18
              have P19 := Lib.hid p19
              have P20 := Lib.hid p20
              have HS := Lib.hid hS
              clear hS hLi hafter p0 p1 p2 p3 p4 p5 p6 p7 p8 p9 p10 p11 p12 p13 p14 p15 p16 p17 p18 p19 p20
              simp only [Act.put, List.setIfInBounds_toArray, List.set_cons_zero, List.set_cons_succ]
              go_wp2_with fail
              exact ⟨u21, u22, u23, u24, u25, u26, u27, u28, u29, .bool false, u31, u32, u33, u34, u35, u36, .int .i64 (j : Nat), u38, u39, u40, u41, by simp only [Act.put, List.setIfInBounds_toArray, List.set_cons_zero, List.set_cons_succ], HS.out, (fun h => by first | rfl | exact P0.out (by simpa using h)), (fun h => by first | rfl | exact P1.out (by simpa using h)), (fun h => by first | rfl | exact P2.out (by simpa using h)), (fun h => by first | rfl | exact P3.out (by simpa using h)), (fun h => by first | rfl | exact P4.out (by simpa using h)), (fun h => by first | rfl | exact P5.out (by simpa using h)), (fun h => by first | rfl | exact P6.out (by simpa using h)), (fun h => by first | rfl | exact P7.out (by simpa using h)), (fun h => by first | rfl | exact P8.out (by simpa using h)), (fun h => by first | rfl | exact P9.out (by simpa using h)), (fun h => by first | rfl | exact P10.out (by simpa using h)), (fun h => by first | rfl | exact P11.out (by simpa using h)), (fun h => by first | rfl | exact P12.out (by simpa using h)), (fun h => by first | rfl | exact P13.out (by simpa using h)), (fun h => by first | rfl | exact P14.out (by simpa using h)), (fun h => by first | rfl | exact P15.out (by simpa using h)), (fun _ => rfl), (fun h => by first | rfl | exact P17.out (by simpa using h)), (fun h => by first | rfl | exact P18.out (by simpa using h)), (fun h => by first | rfl | exact P19.out (by simpa using h)), (fun h => by first | rfl | exact P20.out (by simpa using h))⟩
            · simp only [List.getElem?_toArray, List.getElem?_cons_zero, List.getElem?_cons_succ, Option.some.injEq] at ho
              subst ho
              obtain rfl := p9 (hafter ⟨9, .guard⟩ (by simp) rfl)
              obtain rfl := p15 (hafter ⟨15, .data⟩ (by simp) rfl)
              obtain rfl := p16 (hafter ⟨16, .data⟩ (by simp) rfl)
              have P0 := Lib.hid p0
              have P1 := Lib.hid p1
              have P2 := Lib.hid p2
              have P3 := Lib.hid p3
              have P4 := Lib.hid p4
              have P5 := Lib.hid p5
              have P6 := Lib.hid p6
              have P7 := Lib.hid p7
              have P8 := Lib.hid p8
              have P9 := Lib.hid p9
              have P10 := Lib.hid p10
              have P11 := Lib.hid p11
              have P12 := Lib.hid p12
              have P13 := Lib.hid p13
              have P14 := Lib.hid p14
              have P15 := Lib.hid p15
              have P16 := Lib.hid p16
              have P17 := Lib.hid p17
              have P18 := Lib.hid p18
              have P19 := Lib.hid p19
              have P20 := Lib.hid p20
              have HS := Lib.hid hS
              clear hS hLi hafter p0 p1 p2 p3 p4 p5 p6 p7 p8 p9 p10 p11 p12 p13 p14 p15 p16 p17 p18 p19 p20
              simp only [Act.put, List.setIfInBounds_toArray, List.set_cons_zero, List.set_cons_succ]
              go_wp2_with fail
              exact ⟨u21, u22, u23, u24, u25, u26, u27, u28, u29, .bool false, u31, u32, u33, u34, u35, .slice (some ⟨c, oc, none⟩) m cc, .int .i64 (j : Nat), .pointer (some ⟨c, oc + j, none⟩), u39, u40, u41, by simp only [Act.put, List.setIfInBounds_toArray, List.set_cons_zero, List.set_cons_succ], HS.out, (fun h => by first | rfl | exact P0.out (by simpa using h)), (fun h => by first | rfl | exact P1.out (by simpa using h)), (fun h => by first | rfl | exact P2.out (by simpa using h)), (fun h => by first | rfl | exact P3.out (by simpa using h)), (fun h => by first | rfl | exact P4.out (by simpa using h)), (fun h => by first | rfl | exact P5.out (by simpa using h)), (fun h => by first | rfl | exact P6.out (by simpa using h)), (fun h => by first | rfl | exact P7.out (by simpa using h)), (fun h => by first | rfl | exact P8.out (by simpa using h)), (fun h => by first | rfl | exact P9.out (by simpa using h)), (fun h => by first | rfl | exact P10.out (by simpa using h)), (fun h => by first | rfl | exact P11.out (by simpa using h)), (fun h => by first | rfl | exact P12.out (by simpa using h)), (fun h => by first | rfl | exact P13.out (by simpa using h)), (fun h => by first | rfl | exact P14.out (by simpa using h)), (fun h => by first | rfl | exact P15.out (by simpa using h)), (fun h => by first | rfl | exact P16.out (by simpa using h)), (fun _ => rfl), (fun h => by first | rfl | exact P18.out (by simpa using h)), (fun h => by first | rfl | exact P19.out (by simpa using h)), (fun h => by first | rfl | exact P20.out (by simpa using h))⟩
            · simp only [List.getElem?_toArray, List.getElem?_cons_zero, List.getElem?_cons_succ, Option.some.injEq] at ho
              subst ho
              obtain rfl := p9 (hafter ⟨9, .guard⟩ (by simp) rfl)
              obtain rfl := p17 (hafter ⟨17, .data⟩ (by simp) rfl)
              have c0 := cell_mono g2 hS.1
              have P0 := Lib.hid p0
              have P1 := Lib.hid p1
              have P2 := Lib.hid p2
              have P3 := Lib.hid p3
              have P4 := Lib.hid p4
              have P5 := Lib.hid p5
              have P6 := Lib.hid p6
              have P7 := Lib.hid p7
              have P8 := Lib.hid p8
              have P9 := Lib.hid p9
              have P10 := Lib.hid p10
              have P11 := Lib.hid p11
              have P12 := Lib.hid p12
              have P13 := Lib.hid p13
              have P14 := Lib.hid p14
              have P15 := Lib.hid p15
              have P16 := Lib.hid p16
              have P17 := Lib.hid p17
              have P18 := Lib.hid p18
              have P19 := Lib.hid p19
              have P20 := Lib.hid p20
              have HS := Lib.hid hS
              clear hS hLi hafter p0 p1 p2 p3 p4 p5 p6 p7 p8 p9 p10 p11 p12 p13 p14 p15 p16 p17 p18 p19 p20
              simp only [Act.put, List.setIfInBounds_toArray, List.set_cons_zero, List.set_cons_succ]
              go_wp2_with fail
              exact ⟨u21, u22, u23, u24, u25, u26, u27, u28, u29, .bool false, u31, u32, u33, u34, u35, u36, u37, .pointer (some ⟨c, oc + j, none⟩), .int .i64 y, u40, u41, by simp only [Act.put, List.setIfInBounds_toArray, List.set_cons_zero, List.set_cons_succ], HS.out, (fun h => by first | rfl | exact P0.out (by simpa using h)), (fun h => by first | rfl | exact P1.out (by simpa using h)), (fun h => by first | rfl | exact P2.out (by simpa using h)), (fun h => by first | rfl | exact P3.out (by simpa using h)), (fun h => by first | rfl | exact P4.out (by simpa using h)), (fun h => by first | rfl | exact P5.out (by simpa using h)), (fun h => by first | rfl | exact P6.out (by simpa using h)), (fun h => by first | rfl | exact P7.out (by simpa using h)), (fun h => by first | rfl | exact P8.out (by simpa using h)), (fun h => by first | rfl | exact P9.out (by simpa using h)), (fun h => by first | rfl | exact P10.out (by simpa using h)), (fun h => by first | rfl | exact P11.out (by simpa using h)), (fun h => by first | rfl | exact P12.out (by simpa using h)), (fun h => by first | rfl | exact P13.out (by simpa using h)), (fun h => by first | rfl | exact P14.out (by simpa using h)), (fun h => by first | rfl | exact P15.out (by simpa using h)), (fun h => by first | rfl | exact P16.out (by simpa using h)), (fun h => by first | rfl | exact P17.out (by simpa using h)), (fun _ => rfl), (fun h => by first | rfl | exact P19.out (by simpa using h)), (fun h => by first | rfl | exact P20.out (by simpa using h))⟩
            · simp only [List.getElem?_toArray, List.getElem?_cons_zero, List.getElem?_cons_succ, Option.some.injEq] at ho
              subst ho
              obtain rfl := p9 (hafter ⟨9, .guard⟩ (by simp) rfl)
              obtain rfl := p10 (hafter ⟨10, .data⟩ (by simp) rfl)
              obtain rfl := p14 (hafter ⟨14, .data⟩ (by simp) rfl)
              obtain rfl := p18 (hafter ⟨18, .data⟩ (by simp) rfl)
              have P0 := Lib.hid p0
              have P1 := Lib.hid p1
              have P2 := Lib.hid p2
              have P3 := Lib.hid p3
              have P4 := Lib.hid p4
              have P5 := Lib.hid p5
              have P6 := Lib.hid p6
              have P7 := Lib.hid p7
              have P8 := Lib.hid p8
              have P9 := Lib.hid p9
              have P10 := Lib.hid p10
              have P11 := Lib.hid p11
              have P12 := Lib.hid p12
              have P13 := Lib.hid p13
              have P14 := Lib.hid p14
              have P15 := Lib.hid p15
              have P16 := Lib.hid p16
              have P17 := Lib.hid p17
              have P18 := Lib.hid p18
              have P19 := Lib.hid p19
              have P20 := Lib.hid p20
              have HS := Lib.hid hS
              clear hS hLi hafter p0 p1 p2 p3 p4 p5 p6 p7 p8 p9 p10 p11 p12 p13 p14 p15 p16 p17 p18 p19 p20
              simp only [Act.put, List.setIfInBounds_toArray, List.set_cons_zero, List.set_cons_succ]
              go_wp2_with fail
              refine (are_any _ _ _ L x y _ (HPL.out.below HS.out.1) false HAR.out).mono ?_
              rintro e wn ⟨rfl, hb⟩
              have Hb := Lib.hid hb
              clear hb
              go_wp2_with fail
              exact ⟨u21, u22, u23, u24, u25, u26, u27, u28, u29, .bool false, .slice la ln lc, u32, u33, u34, .int .i64 x, u36, u37, u38, .int .i64 y, .bool false, u41, by simp only [Act.put, List.setIfInBounds_toArray, List.set_cons_zero, List.set_cons_succ], HS.out.below Hb.out, (fun h => by first | rfl | exact P0.out (by simpa using h)), (fun h => by first | rfl | exact P1.out (by simpa using h)), (fun h => by first | rfl | exact P2.out (by simpa using h)), (fun h => by first | rfl | exact P3.out (by simpa using h)), (fun h => by first | rfl | exact P4.out (by simpa using h)), (fun h => by first | rfl | exact P5.out (by simpa using h)), (fun h => by first | rfl | exact P6.out (by simpa using h)), (fun h => by first | rfl | exact P7.out (by simpa using h)), (fun h => by first | rfl | exact P8.out (by simpa using h)), (fun h => by first | rfl | exact P9.out (by simpa using h)), (fun h => by first | rfl | exact P10.out (by simpa using h)), (fun h => by first | rfl | exact P11.out (by simpa using h)), (fun h => by first | rfl | exact P12.out (by simpa using h)), (fun h => by first | rfl | exact P13.out (by simpa using h)), (fun h => by first | rfl | exact P14.out (by simpa using h)), (fun h => by first | rfl | exact P15.out (by simpa using h)), (fun h => by first | rfl | exact P16.out (by simpa using h)), (fun h => by first | rfl | exact P17.out (by simpa using h)), (fun h => by first | rfl | exact P18.out (by simpa using h)), (fun _ => rfl), (fun h => by first | rfl | exact P20.out (by simpa using h))⟩
            · simp only [List.getElem?_toArray, List.getElem?_cons_zero, List.getElem?_cons_succ, Option.some.injEq] at ho
              subst ho
              obtain rfl := p9 (hafter ⟨9, .data⟩ (by simp) rfl)
              obtain rfl := p19 (hafter ⟨19, .data⟩ (by simp) rfl)
              have P0 := Lib.hid p0
              have P1 := Lib.hid p1
              have P2 := Lib.hid p2
              have P3 := Lib.hid p3
              have P4 := Lib.hid p4
              have P5 := Lib.hid p5
              have P6 := Lib.hid p6
              have P7 := Lib.hid p7
              have P8 := Lib.hid p8
              have P9 := Lib.hid p9
              have P10 := Lib.hid p10
              have P11 := Lib.hid p11
              have P12 := Lib.hid p12
              have P13 := Lib.hid p13
              have P14 := Lib.hid p14
              have P15 := Lib.hid p15
              have P16 := Lib.hid p16
              have P17 := Lib.hid p17
              have P18 := Lib.hid p18
              have P19 := Lib.hid p19
              have P20 := Lib.hid p20
              have HS := Lib.hid hS
              clear hS hLi hafter p0 p1 p2 p3 p4 p5 p6 p7 p8 p9 p10 p11 p12 p13 p14 p15 p16 p17 p18 p19 p20
              simp only [Act.put, List.setIfInBounds_toArray, List.set_cons_zero, List.set_cons_succ]
              go_wp2_with fail
              exact ⟨u21, u22, u23, u24, u25, u26, u27, u28, u29, .bool false, u31, u32, u33, u34, u35, u36, u37, u38, u39, .bool false, .bool false, by simp only [Act.put, List.setIfInBounds_toArray, List.set_cons_zero, List.set_cons_succ], HS.out, (fun h => by first | rfl | exact P0.out (by simpa using h)), (fun h => by first | rfl | exact P1.out (by simpa using h)), (fun h => by first | rfl | exact P2.out (by simpa using h)), (fun h => by first | rfl | exact P3.out (by simpa using h)), (fun h => by first | rfl | exact P4.out (by simpa using h)), (fun h => by first | rfl | exact P5.out (by simpa using h)), (fun h => by first | rfl | exact P6.out (by simpa using h)), (fun h => by first | rfl | exact P7.out (by simpa using h)), (fun h => by first | rfl | exact P8.out (by simpa using h)), (fun h => by first | rfl | exact P9.out (by simpa using h)), (fun h => by first | rfl | exact P10.out (by simpa using h)), (fun h => by first | rfl | exact P11.out (by simpa using h)), (fun h => by first | rfl | exact P12.out (by simpa using h)), (fun h => by first | rfl | exact P13.out (by simpa using h)), (fun h => by first | rfl | exact P14.out (by simpa using h)), (fun h => by first | rfl | exact P15.out (by simpa using h)), (fun h => by first | rfl | exact P16.out (by simpa using h)), (fun h => by first | rfl | exact P17.out (by simpa using h)), (fun h => by first | rfl | exact P18.out (by simpa using h)), (fun h => by first | rfl | exact P19.out (by simpa using h)), (fun _ => rfl)⟩
          · intro Ls a0 wq hall hJ
            obtain ⟨u21, u22, u23, u24, u25, u26, u27, u28, u29, u30, u31, u32, u33, u34, u35, u36, u37, u38, u39, u40, u41, rfl, hS, p0, p1, p2, p3, p4, p5, p6, p7, p8, p9, p10, p11, p12, p13, p14, p15, p16, p17, p18, p19, p20⟩ := hJ
            replace p0 := p0 (hall 0 (by decide))
            replace p1 := p1 (hall 1 (by decide))
            replace p2 := p2 (hall 2 (by decide))
            replace p3 := p3 (hall 3 (by decide))
            replace p4 := p4 (hall 4 (by decide))
            replace p5 := p5 (hall 5 (by decide))
            replace p6 := p6 (hall 6 (by decide))
            replace p7 := p7 (hall 7 (by decide))
            replace p8 := p8 (hall 8 (by decide))
            replace p9 := p9 (hall 9 (by decide))
            replace p10 := p10 (hall 10 (by decide))
            replace p11 := p11 (hall 11 (by decide))
            replace p12 := p12 (hall 12 (by decide))
            replace p13 := p13 (hall 13 (by decide))
            replace p14 := p14 (hall 14 (by decide))
            replace p15 := p15 (hall 15 (by decide))
            replace p16 := p16 (hall 16 (by decide))
            replace p17 := p17 (hall 17 (by decide))
            replace p18 := p18 (hall 18 (by decide))
            replace p19 := p19 (hall 19 (by decide))
            replace p20 := p20 (hall 20 (by decide))
            have HBz := Lib.hid (HB2.out.trans (hS.1.mono hs2))
            subst p20
            clear hall hS p0 p1 p2 p3 p4 p5 p6 p7 p8 p9 p10 p11 p12 p13 p14 p15 p16 p17 p18 p19
            simp only [Act.put, List.setIfInBounds_toArray, List.set_cons_zero, List.set_cons_succ]
            go_wp2_with fail
            go_roundw
            case rel => exact ⟨j + 1, by omega, by go_num, HBz.out⟩
            case measure => simp [intOf]; omega
        · obtain rfl : j = m := by omega
          clear hbel
          go_wp2_with fail
          go_roundw
          case rel => exact ⟨i + 1, by omega, by go_num, HB2.out⟩
          case measure => simp [intOf]; omega
    · obtain rfl : i = n := by omega
      clear hbel
      go_wp2_with fail
      go_ret
      exact ⟨rfl, HB.out⟩
def InJ (la : Option Addr) (ln lc gb go i k ng gc : Nat) (ai : Option Addr) (li ci : Nat) (ak : Option Addr) (lk ck : Nat) (W : World) (z0 : Act) (L : Nat → Bool) (z1 : Act) (w : World) : Prop :=
  ∃ u82 u83 u84 u85 u86 u87 u88 u89 u90 u91 u92, z1 = (((((((((((z0.put (some 82) u82).put (some 83) u83).put (some 84) u84).put (some 85) u85).put (some 86) u86).put (some 87) u87).put (some 88) u88).put (some 89) u89).put (some 90) u90).put (some 91) u91).put (some 92) u92) ∧ Since W w ∧ (L 0 = true → u82 = .slice la ln lc) ∧ (L 1 = true → u83 = .slice (some ⟨gb, go, none⟩) ng gc) ∧ (L 2 = true → u84 = .int .i64 (i : Nat)) ∧ (L 3 = true → u85 = .pointer (some ⟨gb, go + i, none⟩)) ∧ (L 4 = true → u86 = .slice ai li ci) ∧ (L 5 = true → u87 = .slice (some ⟨gb, go, none⟩) ng gc) ∧ (L 6 = true → u88 = .int .i64 (k : Nat)) ∧ (L 7 = true → u89 = .pointer (some ⟨gb, go + k, none⟩)) ∧ (L 8 = true → u90 = .slice ak lk ck) ∧ (L 9 = true → u91 = .bool true) ∧ (L 10 = true → u92 = .bool false)


set_option maxRecDepth 20000 in
set_option maxHeartbeats 16000000 in
theorem indep_walk (la : Option Addr) (ln lc : Nat) (L : List (Int × Int)) (ia : Option Addr) (m ic : Nat) (ids : List Int) (ka : Option Addr) (kn kc : Nat) (kf : Nat → Bool) (w : World) (h : Pr w la ln lc L) (hL64 : ∀ p ∈ L, W64 p.1 ∧ W64 p.2) (hz : Zl w ia m ic ids) (h64 : ∀ y ∈ ids, W64 y) (hk : Bz w ka kn kc kf) (hn : ln ≤ 549755813888) (hm : m ≤ 549755813888) :
    Calls Try.prog 7 #[.slice la ln lc, .slice ia m ic, .slice ka kn kc] w fun e w' => e = .returned (.bool true) ∧ Below w.heap.size w w' := by
  have HPL := Lib.hid h
  have HZ := Lib.hid hz
  have HKP := Lib.hid hk
  have HL64 := Lib.hid hL64
  have H64 := Lib.hid h64
  have z1 := hz.1
  have z2 := hz.2.1
  have z3 := hz.2.2.1
  have k2 := hk.1
  have k3 := hk.2.1
  unfold maxLen at z3 k3
  have HZN := Lib.hid z1
  have hNl : (normR L).length ≤ ln := by have := normR_len L L.length (Nat.le_refl _); rw [List.take_length] at this; have := h.1; omega
  clear h hz hk hL64 h64 z1
  obtain ⟨i0, hi, hzz⟩ := Option.map_eq_some_iff.1 infoIntG
  simp only [Prod.mk.injEq] at hzz
  obtain ⟨hz0, hz1, hz2⟩ := hzz
  go_enter Try.func7, Try.ntmps7
  go_wp2_with fail
  go_loopw [7, 8] (fun sv i wr => ∃ (q : Nat) (S : List Int), q ≤ m ∧ i = .int .i64 q ∧ S.length ≤ q ∧ Hid (∀ y ∈ S, y ∈ ids) ∧ Ow w.heap.size 3 wr sv S ∧ Below w.heap.size w wr) (fun _ i _ => m - (intOf i).toNat)
  case atStart => exact ⟨0, [], Nat.zero_le _, rfl, Nat.le_refl _, Lib.hid (by simp), Ow.start _ w (Nat.le_refl _), bel1 _ _⟩
  case round =>
    obtain ⟨q, S, hq, rfl, hSl, HSS, how, hbel⟩ := hrel
    have HS0 := Lib.hid how
    have HB := Lib.hid hbel
    have hs0 := hbel.size
    clear how
    have hqx0 : (0 : Int) ≤ (q : Int) := by omega
    by_cases hqm : q < m ∧ q < kn
    · obtain ⟨hq1, hq2⟩ := hqm
      obtain ⟨b, off, rfl, hc⟩ := (HZ.out.below hbel).2.2.2 (by omega)
      obtain ⟨b2, off2, rfl, hc2⟩ := (HKP.out.below hbel).2.2 (by omega)
      have hqL : q < ids.length := by have := HZN.out; omega
      have g0 := hc q hq1
      rw [getD_lt1 hqL] at g0
      obtain ⟨x, hx⟩ : ∃ x, ids[q] = x := ⟨_, rfl⟩
      rw [hx] at g0
      have HXM := Lib.hid (show x ∈ ids by rw [← hx]; exact List.getElem_mem hqL)
      have g1 := hc2 q hq2
      obtain ⟨kb, hkb⟩ : ∃ k, kf q = k := ⟨_, rfl⟩
      rw [hkb] at g1
      clear hc hc2 hx hkb hbel
      have hqx1 : (q : Int) < (m : Int) := by omega
      have hqx2 : (q : Int) < (kn : Int) := by omega
      cases kb
      · go_wp2_with fail
        go_roundw
        case rel => exact ⟨q + 1, S, by omega, by go_num, by omega, HSS, HS0.out, HB.out⟩
        case measure => simp [intOf]; omega
      · go_wp2_with (at_builtin; refine wpList_append_own_at _ rfl (.tmp 32) (.tmp 37) 31 rfl w.heap.size 3 i0 (.int .i64 0) 1 8 slUnder hi hz0 hz1 hz2 rfl (by decide) _ S.length (S.map (Value.int .i64)) rfl (World.ownsRow.alloc HS0.out _) ⟨wr.heap.size, 0, none⟩ 1 1 [.int .i64 x] rfl rfl (cell_one_new _ _ _) (by intro u hu; rcases List.mem_cons.1 hu with rfl | hu; (· rfl); (· cases hu)) (by unfold maxLen; omega) (by omega) (by first | omega | (simp; omega)) ?_; intro v9 w9 hm9 hg9 _ _; have HO9 := Lib.hid (Ow.push hm9); have HB9 := Lib.hid ((HB.out.alloc hs0 _).grown hg9 (by first | omega | (simp; omega)) (fun j hj => (HS0.out.lt j hj).1)); clear hm9 hg9)
        go_roundw
        case rel => exact ⟨q + 1, S ++ [x], by omega, by go_num, by simp; omega, Lib.hid (fun y hy => by rcases List.mem_append.1 hy with hy | hy; (· exact HSS.out y hy); (· rw [List.mem_singleton] at hy; subst hy; exact HXM.out)), HO9.out, HB9.out⟩
        case measure => simp [intOf]; omega
    · by_cases hq1 : q < m
      · have hq2 : ¬ q < kn := fun h => hqm ⟨hq1, h⟩
        have hqd1 : (q : Int) < (m : Int) := by omega
        have hqd2 : ¬ (q : Int) < (kn : Int) := by omega
        clear hqm
        obtain ⟨sa, sc, rfl, hz1⟩ := HS0.out.zl
        have HS1 := Lib.hid hz1
        replace HPL := Lib.hid (HPL.out.below HB.out)
        replace HZ := Lib.hid (HZ.out.below HB.out)
        clear hz1 HS0 hbel HKP
        obtain ⟨ns, hns⟩ : ∃ k, S.length = k := ⟨_, rfl⟩
        rw [hns] at HS1 hSl ⊢
        clear hns
        have HS64 := Lib.hid (show ∀ y ∈ S, W64 y from fun y hy => H64.out y (HSS.out y hy))
        go_wp2_with fail
        refine (conflicts_any _ _ _ L _ _ _ ids _ HPL.out HL64.out HZ.out H64.out (by omega) (by omega)).mono ?_
        rintro e w1 ⟨v1, rfl, ho, hb⟩
        obtain ⟨a1, c1, rfl, hp⟩ := ho.pr
        clear ho hp
        replace HPL := Lib.hid (HPL.out.below hb)
        replace HZ := Lib.hid (HZ.out.below hb)
        replace HS1 := Lib.hid (HS1.out.below hb)
        replace HB := Lib.hid (HB.out.trans (hb.mono HB.out.size))
        clear hb
        have HCE := Lib.hid (fun he => cfl_sub (N := normR L) HSS.out he)
        have hEl : (cfl (normR L) ids).length ≤ ln := Nat.le_trans (cfl_len _ _) hNl
        obtain ⟨ne, hne⟩ : ∃ k, (cfl (normR L) ids).length = k := ⟨_, rfl⟩
        have HNE := Lib.hid hne
        rw [hne] at hEl ⊢
        clear hne
        by_cases he0 : ne = 0
        · have HE0 := Lib.hid he0
          have hf0 : ((ne : Int) == 0) = true := by simp [he0]
          clear he0
          go_wp2_with fail
          refine (conflicts_any _ _ _ L _ _ _ S _ HPL.out HL64.out HS1.out HS64.out (by omega) (by omega)).mono ?_
          rintro e w2 ⟨v2, rfl, ho, hb⟩
          rw [HCE.out (List.length_eq_zero_iff.1 (HNE.out.trans HE0.out))] at ho
          obtain ⟨a2, c2, rfl, hp⟩ := ho.pr
          clear ho hp
          replace HPL := Lib.hid (HPL.out.below hb)
          replace HZ := Lib.hid (HZ.out.below hb)
          replace HS1 := Lib.hid (HS1.out.below hb)
          replace HB := Lib.hid (HB.out.trans (hb.mono HB.out.size))
          clear hb
          go_wp2_with fail
          refine (groups_any _ _ _ L _ _ _ ids _ HPL.out HL64.out HZ.out H64.out (by omega) (by omega)).mono ?_
          rintro e w3 ⟨v3, G, rfl, hG, hgn, hb⟩
          obtain ⟨ga, gc, rfl, hgl⟩ := hgn.gl
          have HG := Lib.hid hG
          clear hG hgn
          have HGL := Lib.hid hgl
          replace HPL := Lib.hid (HPL.out.below hb)
          replace HZ := Lib.hid (HZ.out.below hb)
          replace HS1 := Lib.hid (HS1.out.below hb)
          replace HB := Lib.hid (HB.out.trans (hb.mono HB.out.size))
          clear hb hgl
          have HIT := Lib.hid (show sumL List.length G = (distR ids).length from HG.out.items (fun x => .refl x) (distR_spec ids).1)
          have HWI := Lib.hid (show sumL (fun g => (cfl (normR L) g).length) G = ne by rw [← HNE.out]; exact HG.out.within)
          have hdl : (distR ids).length ≤ m := by rw [← HZN.out, ← rise_distR]; exact rise_len ids
          obtain ⟨ng, hng⟩ : ∃ k, G.length = k := ⟨_, rfl⟩
          have HNG := Lib.hid hng
          rw [hng] at HGL ⊢
          have hgc := HGL.out.2.1
          have hgm := HGL.out.2.2.1
          unfold maxLen at hgm
          clear hng
          have HBG := HB
          clear HS1
          go_wp2_with fail
          go_loopw [11, 12, 13] (fun it wi i wr => ∃ (q p r : Nat), q ≤ ng ∧ it = .int .i64 p ∧ wi = .int .i64 r ∧ i = .int .i64 q ∧ sumL List.length (G.take q) = p ∧ sumL (fun g => (cfl (normR L) g).length) (G.take q) = r ∧ Below w3.heap.size w3 wr) (fun _ _ i _ => ng - (intOf i).toNat)
          case atStart => exact ⟨0, 0, 0, Nat.zero_le _, rfl, rfl, rfl, rfl, rfl, Below.refl _ _⟩
          case round =>
            obtain ⟨i, p, r, hin, rfl, rfl, rfl, hp, hr, hbel⟩ := hrel
            have HP := Lib.hid hp
            have HR := Lib.hid hr
            have hp2 : p ≤ m := by rw [← hp]; exact Nat.le_trans (sumL_mono _ _ _) (by rw [HIT.out]; exact hdl)
            have hr2 : r ≤ ne := by rw [← hr, ← HWI.out]; exact sumL_mono _ _ _
            have HBR := Lib.hid hbel
            have hsr := hbel.size
            clear hp hr
            by_cases hig : i < ng
            · obtain ⟨gb, go, rfl, hgc2⟩ := (HGL.out.below hbel).2.2.2 (by omega)
              have HGC := Lib.hid hgc2
              obtain ⟨ai, ci, g1, zi⟩ := hgc2 i hig
              have hiG : i < G.length := by have := HNG.out; omega
              have egi : G.getD i [] = G[i] := by simp [List.getD, hiG]
              rw [egi] at g1 zi
              obtain ⟨Gi, hGi⟩ : ∃ g, G[i] = g := ⟨_, rfl⟩
              rw [hGi] at g1 zi
              have HGI := Lib.hid hGi
              obtain ⟨li, hli⟩ : ∃ k, Gi.length = k := ⟨_, rfl⟩
              have HLI := Lib.hid hli
              rw [hli] at g1 zi
              have HZI := Lib.hid zi
              have HI64 := Lib.hid (show ∀ y ∈ Gi, W64 y from fun y hy => H64.out y (((distR_spec ids).2 y).1 ((HG.out.2.1 Gi (by rw [← hGi]; exact List.getElem_mem hiG) y hy y).1 hy).1))
              have HP2 := Lib.hid (show sumL List.length (G.take (i + 1)) = p + li by rw [sumL_snoc _ _ _ hiG, HP.out, hGi, hli])
              have hp3 : p + li ≤ m := by rw [← HP2.out]; exact Nat.le_trans (sumL_mono _ _ _) (by rw [HIT.out]; exact hdl)
              obtain ⟨lc2, hlc2⟩ : ∃ k, (cfl (normR L) Gi).length = k := ⟨_, rfl⟩
              have HLC := Lib.hid hlc2
              have HR2 := Lib.hid (show sumL (fun g => (cfl (normR L) g).length) (G.take (i + 1)) = r + lc2 by rw [sumL_snoc _ _ _ hiG, HR.out, hGi, hlc2])
              have hr3 : r + lc2 ≤ ne := by rw [← HR2.out, ← HWI.out]; exact sumL_mono _ _ _
              have HPR := Lib.hid (HPL.out.below hbel)
              clear hgc2 zi egi hGi hli hlc2 hbel
              have hix0 : (0 : Int) ≤ (i : Int) := by omega
              have hix1 : (i : Int) < (ng : Int) := by omega
              have wp : IntKind.i64.wrap ((p : Int) + (li : Int)) = ((p + li : Nat) : Int) := by rw [IntKind.wrap_i64]; omega
              have wr' : IntKind.i64.wrap ((r : Int) + (lc2 : Int)) = ((r + lc2 : Nat) : Int) := by rw [IntKind.wrap_i64]; omega
              obtain ⟨wi, hwi⟩ : ∃ W, W = wr := ⟨_, rfl⟩
              subst hwi
              go_wp2_with fail
              refine (conflicts_any _ _ _ L _ _ _ Gi _ HPR.out HL64.out HZI.out HI64.out (by omega) (by omega)).mono ?_
              rintro e w4 ⟨v4, rfl, ho, hb⟩
              obtain ⟨a4, c4, rfl, hp⟩ := ho.pr
              rw [HLC.out] at hp ⊢
              clear ho hp
              have HBI := Lib.hid hb
              have HB4 := Lib.hid (HBR.out.trans (hb.mono hsr))
              have hs4 := HB4.out.size
              replace g1 := cell_mono g1 hb
              replace HZI := Lib.hid (HZI.out.below hb)
              clear hb HPR
              go_wp2_with fail
              go_loopw [14] (fun k wr => ∃ t : Nat, t ≤ i ∧ k = .int .i64 t ∧ Below w4.heap.size w4 wr) (fun k _ => i - (intOf k).toNat)
              case atStart => exact ⟨0, Nat.zero_le _, rfl, Below.refl _ _⟩
              case round =>
                obtain ⟨k, hk, rfl, hbel⟩ := hrel
                have HBK := Lib.hid hbel
                have hsk := hbel.size
                by_cases hki : k < i
                · obtain ⟨ak, ck, g2, zk⟩ := HGC.out k (by omega)
                  have hkG : k < G.length := by have := HNG.out; omega
                  have egk : G.getD k [] = G[k] := by simp [List.getD, hkG]
                  rw [egk] at g2 zk
                  obtain ⟨Gk, hGk⟩ : ∃ g, G[k] = g := ⟨_, rfl⟩
                  rw [hGk] at g2 zk
                  obtain ⟨lk, hlk⟩ : ∃ k, Gk.length = k := ⟨_, rfl⟩
                  rw [hlk] at g2 zk
                  have HAP := Lib.hid (show ∀ x ∈ Gi, ∀ y ∈ Gk, x ≠ y ∧ areP L x y = false from fun x hx y hy => HG.out.apart hiG hkG (by omega) x (by rw [HGI.out]; exact hx) y (by rw [hGk]; exact hy))
                  have hw4 : Below wi.heap.size wi wr := (show Below wi.heap.size wi w4 from HBI.out).trans (hbel.mono HBI.out.size)
                  replace g2 := cell_mono g2 hw4
                  have HZK := Lib.hid (zk.below hw4)
                  replace g1 := cell_mono g1 hbel
                  replace HZI := Lib.hid (HZI.out.below hbel)
                  replace HPL := Lib.hid (HPL.out.below (HB4.out.trans (hbel.mono hs4)))
                  clear egk hGk hlk zk hw4 hbel
                  have hkx0 : (0 : Int) ≤ (k : Int) := by omega
                  have hkx1 : (k : Int) < (ng : Int) := by omega
                  have hkx2 : (k : Int) < (i : Int) := by omega
                  go_wp2_with fail
                  refine region_name fun W1 hW => ?_
                  have HBw := Lib.hid (show Below wr.heap.size wr W1 by rw [← hW]; (repeat' (first | with_reducible exact Below.refl _ _ | (with_reducible refine Below.alloc ?_ ?_ _; rotate_left; (focus (first | omega | (simp; done) | (simp; omega)))) | with_reducible apply Below.drew | (with_reducible refine Below.setCell ?_ ?_ _; rotate_left; (focus (first | omega | (simp; done) | (simp; omega)))))))
                  clear hW
                  replace g1 := cell_mono g1 HBw.out
                  replace g2 := cell_mono g2 HBw.out
                  replace HPL := Lib.hid (HPL.out.below HBw.out)
                  replace HZI := Lib.hid (HZI.out.below HBw.out)
                  replace HZK := Lib.hid (HZK.out.below HBw.out)
                  replace HBK := Lib.hid (HBK.out.trans (HBw.out.mono hsk))
                  replace hsk := HBK.out.size
                  refine region_inv2 (by kernel_rfl) (InJ la ln lc gb go i k ng gc ai li ci ak lk ck (W1)) ?_ ?_ ?_ ?_
                  · exact ⟨u82, u83, u84, u85, u86, u87, u88, u89, u90, u91, u92, by simp only [Act.put, List.setIfInBounds_toArray, List.set_cons_zero, List.set_cons_succ], Since.drawn _, (fun h => by cases h), (fun h => by cases h), (fun h => by cases h), (fun h => by cases h), (fun h => by cases h), (fun h => by cases h), (fun h => by cases h), (fun h => by cases h), (fun h => by cases h), (fun h => by cases h), (fun h => by cases h)⟩
                  · exact acyc_spec (by kernel_rfl)
                  · intro Ls a0 wq i o ho hLi hafter hJ
                    obtain ⟨u82, u83, u84, u85, u86, u87, u88, u89, u90, u91, u92, rfl, hS, p0, p1, p2, p3, p4, p5, p6, p7, p8, p9, p10⟩ := hJ
                    have hi : i < 11 := (Array.getElem?_eq_some_iff.1 ho).1
                    obtain rfl | rfl | rfl | rfl | rfl | rfl | rfl | rfl | rfl | rfl | rfl : i = 0 ∨ i = 1 ∨ i = 2 ∨ i = 3 ∨ i = 4 ∨ i = 5 ∨ i = 6 ∨ i = 7 ∨ i = 8 ∨ i = 9 ∨ i = 10 := by omega
                    · simp only [List.getElem?_toArray, List.getElem?_cons_zero, Option.some.injEq] at ho
                      subst ho
                      have P0 := Lib.hid p0
                      have P1 := Lib.hid p1
                      have P2 := Lib.hid p2
                      have P3 := Lib.hid p3
                      have P4 := Lib.hid p4
                      have P5 := Lib.hid p5
                      have P6 := Lib.hid p6
                      have P7 := Lib.hid p7
                      have P8 := Lib.hid p8
                      have P9 := Lib.hid p9
                      have P10 := Lib.hid p10
                      have HS := Lib.hid hS
                      clear hS hLi hafter p0 p1 p2 p3 p4 p5 p6 p7 p8 p9 p10
                      simp only [Act.put, List.setIfInBounds_toArray, List.set_cons_zero, List.set_cons_succ]
                      go_wp2_with fail
                      exact ⟨.slice la ln lc, u83, u84, u85, u86, u87, u88, u89, u90, u91, u92, by simp only [Act.put, List.setIfInBounds_toArray, List.set_cons_zero, List.set_cons_succ], HS.out, (fun _ => rfl), (fun h => by first | rfl | exact P1.out (by simpa using h)), (fun h => by first | rfl | exact P2.out (by simpa using h)), (fun h => by first | rfl | exact P3.out (by simpa using h)), (fun h => by first | rfl | exact P4.out (by simpa using h)), (fun h => by first | rfl | exact P5.out (by simpa using h)), (fun h => by first | rfl | exact P6.out (by simpa using h)), (fun h => by first | rfl | exact P7.out (by simpa using h)), (fun h => by first | rfl | exact P8.out (by simpa using h)), (fun h => by first | rfl | exact P9.out (by simpa using h)), (fun h => by first | rfl | exact P10.out (by simpa using h))⟩
                    · simp only [List.getElem?_toArray, List.getElem?_cons_zero, List.getElem?_cons_succ, Option.some.injEq] at ho
                      subst ho
                      have P0 := Lib.hid p0
                      have P1 := Lib.hid p1
                      have P2 := Lib.hid p2
                      have P3 := Lib.hid p3
                      have P4 := Lib.hid p4
                      have P5 := Lib.hid p5
                      have P6 := Lib.hid p6
                      have P7 := Lib.hid p7
                      have P8 := Lib.hid p8
                      have P9 := Lib.hid p9
                      have P10 := Lib.hid p10
                      have HS := Lib.hid hS
                      clear hS hLi hafter p0 p1 p2 p3 p4 p5 p6 p7 p8 p9 p10
                      simp only [Act.put, List.setIfInBounds_toArray, List.set_cons_zero, List.set_cons_succ]
                      go_wp2_with fail
                      exact ⟨u82, .slice (some ⟨gb, go, none⟩) ng gc, u84, u85, u86, u87, u88, u89, u90, u91, u92, by simp only [Act.put, List.setIfInBounds_toArray, List.set_cons_zero, List.set_cons_succ], HS.out, (fun h => by first | rfl | exact P0.out (by simpa using h)), (fun _ => rfl), (fun h => by first | rfl | exact P2.out (by simpa using h)), (fun h => by first | rfl | exact P3.out (by simpa using h)), (fun h => by first | rfl | exact P4.out (by simpa using h)), (fun h => by first | rfl | exact P5.out (by simpa using h)), (fun h => by first | rfl | exact P6.out (by simpa using h)), (fun h => by first | rfl | exact P7.out (by simpa using h)), (fun h => by first | rfl | exact P8.out (by simpa using h)), (fun h => by first | rfl | exact P9.out (by simpa using h)), (fun h => by first | rfl | exact P10.out (by simpa using h))⟩
                    · simp only [List.getElem?_toArray, List.getElem?_cons_zero, List.getElem?_cons_succ, Option.some.injEq] at ho
                      subst ho
                      have P0 := Lib.hid p0
                      have P1 := Lib.hid p1
                      have P2 := Lib.hid p2
                      have P3 := Lib.hid p3
                      have P4 := Lib.hid p4
                      have P5 := Lib.hid p5
                      have P6 := Lib.hid p6
                      have P7 := Lib.hid p7
                      have P8 := Lib.hid p8
                      have P9 := Lib.hid p9
                      have P10 := Lib.hid p10
                      have HS := Lib.hid hS
                      clear hS hLi hafter p0 p1 p2 p3 p4 p5 p6 p7 p8 p9 p10
                      simp only [Act.put, List.setIfInBounds_toArray, List.set_cons_zero, List.set_cons_succ]
                      go_wp2_with fail
                      exact ⟨u82, u83, .int .i64 (i : Nat), u85, u86, u87, u88, u89, u90, u91, u92, by simp only [Act.put, List.setIfInBounds_toArray, List.set_cons_zero, List.set_cons_succ], HS.out, (fun h => by first | rfl | exact P0.out (by simpa using h)), (fun h => by first | rfl | exact P1.out (by simpa using h)), (fun _ => rfl), (fun h => by first | rfl | exact P3.out (by simpa using h)), (fun h => by first | rfl | exact P4.out (by simpa using h)), (fun h => by first | rfl | exact P5.out (by simpa using h)), (fun h => by first | rfl | exact P6.out (by simpa using h)), (fun h => by first | rfl | exact P7.out (by simpa using h)), (fun h => by first | rfl | exact P8.out (by simpa using h)), (fun h => by first | rfl | exact P9.out (by simpa using h)), (fun h => by first | rfl | exact P10.out (by simpa using h))⟩
                    · simp only [List.getElem?_toArray, List.getElem?_cons_zero, List.getElem?_cons_succ, Option.some.injEq] at ho
                      subst ho
                      obtain rfl := p1 (hafter ⟨1, .data⟩ (by simp) rfl)
                      obtain rfl := p2 (hafter ⟨2, .data⟩ (by simp) rfl)
                      have P0 := Lib.hid p0
                      have P1 := Lib.hid p1
                      have P2 := Lib.hid p2
                      have P3 := Lib.hid p3
                      have P4 := Lib.hid p4
                      have P5 := Lib.hid p5
                      have P6 := Lib.hid p6
                      have P7 := Lib.hid p7
                      have P8 := Lib.hid p8
                      have P9 := Lib.hid p9
                      have P10 := Lib.hid p10
                      have HS := Lib.hid hS
                      clear hS hLi hafter p0 p1 p2 p3 p4 p5 p6 p7 p8 p9 p10
                      simp only [Act.put, List.setIfInBounds_toArray, List.set_cons_zero, List.set_cons_succ]
                      go_wp2_with fail
                      exact ⟨u82, .slice (some ⟨gb, go, none⟩) ng gc, .int .i64 (i : Nat), .pointer (some ⟨gb, go + i, none⟩), u86, u87, u88, u89, u90, u91, u92, by simp only [Act.put, List.setIfInBounds_toArray, List.set_cons_zero, List.set_cons_succ], HS.out, (fun h => by first | rfl | exact P0.out (by simpa using h)), (fun h => by first | rfl | exact P1.out (by simpa using h)), (fun h => by first | rfl | exact P2.out (by simpa using h)), (fun _ => rfl), (fun h => by first | rfl | exact P4.out (by simpa using h)), (fun h => by first | rfl | exact P5.out (by simpa using h)), (fun h => by first | rfl | exact P6.out (by simpa using h)), (fun h => by first | rfl | exact P7.out (by simpa using h)), (fun h => by first | rfl | exact P8.out (by simpa using h)), (fun h => by first | rfl | exact P9.out (by simpa using h)), (fun h => by first | rfl | exact P10.out (by simpa using h))⟩
                    · simp only [List.getElem?_toArray, List.getElem?_cons_zero, List.getElem?_cons_succ, Option.some.injEq] at ho
                      subst ho
                      obtain rfl := p3 (hafter ⟨3, .data⟩ (by simp) rfl)
                      have c0 := cell_mono g1 hS.1
                      have P0 := Lib.hid p0
                      have P1 := Lib.hid p1
                      have P2 := Lib.hid p2
                      have P3 := Lib.hid p3
                      have P4 := Lib.hid p4
                      have P5 := Lib.hid p5
                      have P6 := Lib.hid p6
                      have P7 := Lib.hid p7
                      have P8 := Lib.hid p8
                      have P9 := Lib.hid p9
                      have P10 := Lib.hid p10
                      have HS := Lib.hid hS
                      clear hS hLi hafter p0 p1 p2 p3 p4 p5 p6 p7 p8 p9 p10
                      simp only [Act.put, List.setIfInBounds_toArray, List.set_cons_zero, List.set_cons_succ]
                      go_wp2_with fail
                      exact ⟨u82, u83, u84, .pointer (some ⟨gb, go + i, none⟩), .slice ai li ci, u87, u88, u89, u90, u91, u92, by simp only [Act.put, List.setIfInBounds_toArray, List.set_cons_zero, List.set_cons_succ], HS.out, (fun h => by first | rfl | exact P0.out (by simpa using h)), (fun h => by first | rfl | exact P1.out (by simpa using h)), (fun h => by first | rfl | exact P2.out (by simpa using h)), (fun h => by first | rfl | exact P3.out (by simpa using h)), (fun _ => rfl), (fun h => by first | rfl | exact P5.out (by simpa using h)), (fun h => by first | rfl | exact P6.out (by simpa using h)), (fun h => by first | rfl | exact P7.out (by simpa using h)), (fun h => by first | rfl | exact P8.out (by simpa using h)), (fun h => by first | rfl | exact P9.out (by simpa using h)), (fun h => by first | rfl | exact P10.out (by simpa using h))⟩
                    · simp only [List.getElem?_toArray, List.getElem?_cons_zero, List.getElem?_cons_succ, Option.some.injEq] at ho
                      subst ho
                      have P0 := Lib.hid p0
                      have P1 := Lib.hid p1
                      have P2 := Lib.hid p2
                      have P3 := Lib.hid p3
                      have P4 := Lib.hid p4
                      have P5 := Lib.hid p5
                      have P6 := Lib.hid p6
                      have P7 := Lib.hid p7
                      have P8 := Lib.hid p8
                      have P9 := Lib.hid p9
                      have P10 := Lib.hid p10
                      have HS := Lib.hid hS
                      clear hS hLi hafter p0 p1 p2 p3 p4 p5 p6 p7 p8 p9 p10
                      simp only [Act.put, List.setIfInBounds_toArray, List.set_cons_zero, List.set_cons_succ]
                      go_wp2_with fail
                      exact ⟨u82, u83, u84, u85, u86, .slice (some ⟨gb, go, none⟩) ng gc, u88, u89, u90, u91, u92, by simp only [Act.put, List.setIfInBounds_toArray, List.set_cons_zero, List.set_cons_succ], HS.out, (fun h => by first | rfl | exact P0.out (by simpa using h)), (fun h => by first | rfl | exact P1.out (by simpa using h)), (fun h => by first | rfl | exact P2.out (by simpa using h)), (fun h => by first | rfl | exact P3.out (by simpa using h)), (fun h => by first | rfl | exact P4.out (by simpa using h)), (fun _ => rfl), (fun h => by first | rfl | exact P6.out (by simpa using h)), (fun h => by first | rfl | exact P7.out (by simpa using h)), (fun h => by first | rfl | exact P8.out (by simpa using h)), (fun h => by first | rfl | exact P9.out (by simpa using h)), (fun h => by first | rfl | exact P10.out (by simpa using h))⟩
                    · simp only [List.getElem?_toArray, List.getElem?_cons_zero, List.getElem?_cons_succ, Option.some.injEq] at ho
                      subst ho
                      have P0 := Lib.hid p0
                      have P1 := Lib.hid p1
                      have P2 := Lib.hid p2
                      have P3 := Lib.hid p3
                      have P4 := Lib.hid p4
                      have P5 := Lib.hid p5
                      have P6 := Lib.hid p6
                      have P7 := Lib.hid p7
                      have P8 := Lib.hid p8
                      have P9 := Lib.hid p9
                      have P10 := Lib.hid p10
                      have HS := Lib.hid hS
                      clear hS hLi hafter p0 p1 p2 p3 p4 p5 p6 p7 p8 p9 p10
                      simp only [Act.put, List.setIfInBounds_toArray, List.set_cons_zero, List.set_cons_succ]
                      go_wp2_with fail
                      exact ⟨u82, u83, u84, u85, u86, u87, .int .i64 (k : Nat), u89, u90, u91, u92, by simp only [Act.put, List.setIfInBounds_toArray, List.set_cons_zero, List.set_cons_succ], HS.out, (fun h => by first | rfl | exact P0.out (by simpa using h)), (fun h => by first | rfl | exact P1.out (by simpa using h)), (fun h => by first | rfl | exact P2.out (by simpa using h)), (fun h => by first | rfl | exact P3.out (by simpa using h)), (fun h => by first | rfl | exact P4.out (by simpa using h)), (fun h => by first | rfl | exact P5.out (by simpa using h)), (fun _ => rfl), (fun h => by first | rfl | exact P7.out (by simpa using h)), (fun h => by first | rfl | exact P8.out (by simpa using h)), (fun h => by first | rfl | exact P9.out (by simpa using h)), (fun h => by first | rfl | exact P10.out (by simpa using h))⟩
                    · simp only [List.getElem?_toArray, List.getElem?_cons_zero, List.getElem?_cons_succ, Option.some.injEq] at ho
                      subst ho
                      obtain rfl := p5 (hafter ⟨5, .data⟩ (by simp) rfl)
                      obtain rfl := p6 (hafter ⟨6, .data⟩ (by simp) rfl)
                      have P0 := Lib.hid p0
                      have P1 := Lib.hid p1
                      have P2 := Lib.hid p2
                      have P3 := Lib.hid p3
                      have P4 := Lib.hid p4
                      have P5 := Lib.hid p5
                      have P6 := Lib.hid p6
                      have P7 := Lib.hid p7
                      have P8 := Lib.hid p8
                      have P9 := Lib.hid p9
                      have P10 := Lib.hid p10
                      have HS := Lib.hid hS
                      clear hS hLi hafter p0 p1 p2 p3 p4 p5 p6 p7 p8 p9 p10
                      simp only [Act.put, List.setIfInBounds_toArray, List.set_cons_zero, List.set_cons_succ]
                      go_wp2_with fail
                      exact ⟨u82, u83, u84, u85, u86, .slice (some ⟨gb, go, none⟩) ng gc, .int .i64 (k : Nat), .pointer (some ⟨gb, go + k, none⟩), u90, u91, u92, by simp only [Act.put, List.setIfInBounds_toArray, List.set_cons_zero, List.set_cons_succ], HS.out, (fun h => by first | rfl | exact P0.out (by simpa using h)), (fun h => by first | rfl | exact P1.out (by simpa using h)), (fun h => by first | rfl | exact P2.out (by simpa using h)), (fun h => by first | rfl | exact P3.out (by simpa using h)), (fun h => by first | rfl | exact P4.out (by simpa using h)), (fun h => by first | rfl | exact P5.out (by simpa using h)), (fun h => by first | rfl | exact P6.out (by simpa using h)), (fun _ => rfl), (fun h => by first | rfl | exact P8.out (by simpa using h)), (fun h => by first | rfl | exact P9.out (by simpa using h)), (fun h => by first | rfl | exact P10.out (by simpa using h))⟩
                    · simp only [List.getElem?_toArray, List.getElem?_cons_zero, List.getElem?_cons_succ, Option.some.injEq] at ho
                      subst ho
                      obtain rfl := p7 (hafter ⟨7, .data⟩ (by simp) rfl)
                      have c0 := cell_mono g2 hS.1
                      have P0 := Lib.hid p0
                      have P1 := Lib.hid p1
                      have P2 := Lib.hid p2
                      have P3 := Lib.hid p3
                      have P4 := Lib.hid p4
                      have P5 := Lib.hid p5
                      have P6 := Lib.hid p6
                      have P7 := Lib.hid p7
                      have P8 := Lib.hid p8
                      have P9 := Lib.hid p9
                      have P10 := Lib.hid p10
                      have HS := Lib.hid hS
                      clear hS hLi hafter p0 p1 p2 p3 p4 p5 p6 p7 p8 p9 p10
                      simp only [Act.put, List.setIfInBounds_toArray, List.set_cons_zero, List.set_cons_succ]
                      go_wp2_with fail
                      exact ⟨u82, u83, u84, u85, u86, u87, u88, .pointer (some ⟨gb, go + k, none⟩), .slice ak lk ck, u91, u92, by simp only [Act.put, List.setIfInBounds_toArray, List.set_cons_zero, List.set_cons_succ], HS.out, (fun h => by first | rfl | exact P0.out (by simpa using h)), (fun h => by first | rfl | exact P1.out (by simpa using h)), (fun h => by first | rfl | exact P2.out (by simpa using h)), (fun h => by first | rfl | exact P3.out (by simpa using h)), (fun h => by first | rfl | exact P4.out (by simpa using h)), (fun h => by first | rfl | exact P5.out (by simpa using h)), (fun h => by first | rfl | exact P6.out (by simpa using h)), (fun h => by first | rfl | exact P7.out (by simpa using h)), (fun _ => rfl), (fun h => by first | rfl | exact P9.out (by simpa using h)), (fun h => by first | rfl | exact P10.out (by simpa using h))⟩
                    · simp only [List.getElem?_toArray, List.getElem?_cons_zero, List.getElem?_cons_succ, Option.some.injEq] at ho
                      subst ho
                      obtain rfl := p0 (hafter ⟨0, .data⟩ (by simp) rfl)
                      obtain rfl := p4 (hafter ⟨4, .data⟩ (by simp) rfl)
                      obtain rfl := p8 (hafter ⟨8, .data⟩ (by simp) rfl)
                      have P0 := Lib.hid p0
                      have P1 := Lib.hid p1
                      have P2 := Lib.hid p2
                      have P3 := Lib.hid p3
                      have P4 := Lib.hid p4
                      have P5 := Lib.hid p5
                      have P6 := Lib.hid p6
                      have P7 := Lib.hid p7
                      have P8 := Lib.hid p8
                      have P9 := Lib.hid p9
                      have P10 := Lib.hid p10
                      have HS := Lib.hid hS
                      clear hS hLi hafter p0 p1 p2 p3 p4 p5 p6 p7 p8 p9 p10
                      simp only [Act.put, List.setIfInBounds_toArray, List.set_cons_zero, List.set_cons_succ]
                      go_wp2_with fail
                      refine (apart_any _ _ _ L _ _ _ _ _ _ Gi Gk _ (HPL.out.below HS.out.1) (HZI.out.below HS.out.1) (HZK.out.below HS.out.1) HAP.out).mono ?_
                      rintro e wn ⟨rfl, hb⟩
                      have Hb := Lib.hid hb
                      clear hb
                      go_wp2_with fail
                      exact ⟨.slice la ln lc, u83, u84, u85, .slice ai li ci, u87, u88, u89, .slice ak lk ck, .bool true, u92, by simp only [Act.put, List.setIfInBounds_toArray, List.set_cons_zero, List.set_cons_succ], HS.out.below Hb.out, (fun h => by first | rfl | exact P0.out (by simpa using h)), (fun h => by first | rfl | exact P1.out (by simpa using h)), (fun h => by first | rfl | exact P2.out (by simpa using h)), (fun h => by first | rfl | exact P3.out (by simpa using h)), (fun h => by first | rfl | exact P4.out (by simpa using h)), (fun h => by first | rfl | exact P5.out (by simpa using h)), (fun h => by first | rfl | exact P6.out (by simpa using h)), (fun h => by first | rfl | exact P7.out (by simpa using h)), (fun h => by first | rfl | exact P8.out (by simpa using h)), (fun _ => rfl), (fun h => by first | rfl | exact P10.out (by simpa using h))⟩
                    · simp only [List.getElem?_toArray, List.getElem?_cons_zero, List.getElem?_cons_succ, Option.some.injEq] at ho
                      subst ho
                      obtain rfl := p9 (hafter ⟨9, .data⟩ (by simp) rfl)
                      have P0 := Lib.hid p0
                      have P1 := Lib.hid p1
                      have P2 := Lib.hid p2
                      have P3 := Lib.hid p3
                      have P4 := Lib.hid p4
                      have P5 := Lib.hid p5
                      have P6 := Lib.hid p6
                      have P7 := Lib.hid p7
                      have P8 := Lib.hid p8
                      have P9 := Lib.hid p9
                      have P10 := Lib.hid p10
                      have HS := Lib.hid hS
                      clear hS hLi hafter p0 p1 p2 p3 p4 p5 p6 p7 p8 p9 p10
                      simp only [Act.put, List.setIfInBounds_toArray, List.set_cons_zero, List.set_cons_succ]
                      go_wp2_with fail
                      exact ⟨u82, u83, u84, u85, u86, u87, u88, u89, u90, .bool true, .bool false, by simp only [Act.put, List.setIfInBounds_toArray, List.set_cons_zero, List.set_cons_succ], HS.out, (fun h => by first | rfl | exact P0.out (by simpa using h)), (fun h => by first | rfl | exact P1.out (by simpa using h)), (fun h => by first | rfl | exact P2.out (by simpa using h)), (fun h => by first | rfl | exact P3.out (by simpa using h)), (fun h => by first | rfl | exact P4.out (by simpa using h)), (fun h => by first | rfl | exact P5.out (by simpa using h)), (fun h => by first | rfl | exact P6.out (by simpa using h)), (fun h => by first | rfl | exact P7.out (by simpa using h)), (fun h => by first | rfl | exact P8.out (by simpa using h)), (fun h => by first | rfl | exact P9.out (by simpa using h)), (fun _ => rfl)⟩
                  · intro Ls a0 wq hall hJ
                    obtain ⟨u82, u83, u84, u85, u86, u87, u88, u89, u90, u91, u92, rfl, hS, p0, p1, p2, p3, p4, p5, p6, p7, p8, p9, p10⟩ := hJ
                    replace p0 := p0 (hall 0 (by decide))
                    replace p1 := p1 (hall 1 (by decide))
                    replace p2 := p2 (hall 2 (by decide))
                    replace p3 := p3 (hall 3 (by decide))
                    replace p4 := p4 (hall 4 (by decide))
                    replace p5 := p5 (hall 5 (by decide))
                    replace p6 := p6 (hall 6 (by decide))
                    replace p7 := p7 (hall 7 (by decide))
                    replace p8 := p8 (hall 8 (by decide))
                    replace p9 := p9 (hall 9 (by decide))
                    replace p10 := p10 (hall 10 (by decide))
                    have HBz := Lib.hid (HBK.out.trans (hS.1.mono hsk))
                    subst p10
                    clear hall hS p0 p1 p2 p3 p4 p5 p6 p7 p8 p9
                    simp only [Act.put, List.setIfInBounds_toArray, List.set_cons_zero, List.set_cons_succ]
                    go_wp2_with fail
                    go_roundw
                    case rel => exact ⟨k + 1, by omega, by go_num, HBz.out⟩
                    case measure => simp [intOf]; omega
                · obtain rfl : k = i := by omega
                  have HBF := Lib.hid (HB4.out.trans (hbel.mono hs4))
                  clear hbel
                  go_wp2_with fail
                  go_roundw
                  case rel => exact ⟨k + 1, p + li, r + lc2, by omega, rfl, rfl, by go_num, HP2.out, HR2.out, HBF.out⟩
                  case measure => simp [intOf]; omega
            · obtain rfl : i = ng := by omega
              have HPF := Lib.hid (show p = (distR ids).length by rw [← HIT.out, ← HP.out, List.take_of_length_le (by rw [HNG.out]; exact Nat.le_refl _)])
              have HRF := Lib.hid (show r = ne by rw [← HWI.out, ← HR.out, List.take_of_length_le (by rw [HNG.out]; exact Nat.le_refl _)])
              replace HZ := Lib.hid (HZ.out.below hbel)
              have HBX := Lib.hid (HBG.out.trans (hbel.mono HBG.out.size))
              clear hbel
              obtain rfl := HRF.out
              go_wp2_with fail
              refine (xdistinct_any _ _ _ ids _ HZ.out (by omega)).mono ?_
              rintro e w5 ⟨v5, rfl, ho, hb⟩
              obtain ⟨a5, c5, rfl, _⟩ := ho.zl
              rw [← HPF.out]
              have HBY := Lib.hid (HBX.out.trans (hb.mono HBX.out.size))
              clear ho hb
              have e1 : ((p : Int) == (p : Int)) = true := by simp
              have e2 : ((r : Int) == (r : Int)) = true := by simp
              go_wp2_with fail
              refine (awake_any _).mono ?_
              rintro e w6 ⟨rfl, hb⟩
              have HBZ := Lib.hid (HBY.out.trans (hb.mono HBY.out.size))
              clear hb
              go_wp2_with fail
              go_ret
              exact ⟨rfl, HBZ.out⟩
        · have hf0 : ((ne : Int) == 0) = false := by simp; omega
          have hf1 : ¬ (ne : Int) = 0 := by omega
          go_wp2_with fail
          refine (groups_any _ _ _ L _ _ _ ids _ HPL.out HL64.out HZ.out H64.out (by omega) (by omega)).mono ?_
          rintro e w3 ⟨v3, G, rfl, hG, hgn, hb⟩
          obtain ⟨ga, gc, rfl, hgl⟩ := hgn.gl
          have HG := Lib.hid hG
          clear hG hgn
          have HGL := Lib.hid hgl
          replace HPL := Lib.hid (HPL.out.below hb)
          replace HZ := Lib.hid (HZ.out.below hb)
          replace HS1 := Lib.hid (HS1.out.below hb)
          replace HB := Lib.hid (HB.out.trans (hb.mono HB.out.size))
          clear hb hgl
          have HIT := Lib.hid (show sumL List.length G = (distR ids).length from HG.out.items (fun x => .refl x) (distR_spec ids).1)
          have HWI := Lib.hid (show sumL (fun g => (cfl (normR L) g).length) G = ne by rw [← HNE.out]; exact HG.out.within)
          have hdl : (distR ids).length ≤ m := by rw [← HZN.out, ← rise_distR]; exact rise_len ids
          obtain ⟨ng, hng⟩ : ∃ k, G.length = k := ⟨_, rfl⟩
          have HNG := Lib.hid hng
          rw [hng] at HGL ⊢
          have hgc := HGL.out.2.1
          have hgm := HGL.out.2.2.1
          unfold maxLen at hgm
          clear hng
          have HBG := HB
          clear HS1
          go_wp2_with fail
          go_loopw [11, 12, 13] (fun it wi i wr => ∃ (q p r : Nat), q ≤ ng ∧ it = .int .i64 p ∧ wi = .int .i64 r ∧ i = .int .i64 q ∧ sumL List.length (G.take q) = p ∧ sumL (fun g => (cfl (normR L) g).length) (G.take q) = r ∧ Below w3.heap.size w3 wr) (fun _ _ i _ => ng - (intOf i).toNat)
          case atStart => exact ⟨0, 0, 0, Nat.zero_le _, rfl, rfl, rfl, rfl, rfl, Below.refl _ _⟩
          case round =>
            obtain ⟨i, p, r, hin, rfl, rfl, rfl, hp, hr, hbel⟩ := hrel
            have HP := Lib.hid hp
            have HR := Lib.hid hr
            have hp2 : p ≤ m := by rw [← hp]; exact Nat.le_trans (sumL_mono _ _ _) (by rw [HIT.out]; exact hdl)
            have hr2 : r ≤ ne := by rw [← hr, ← HWI.out]; exact sumL_mono _ _ _
            have HBR := Lib.hid hbel
            have hsr := hbel.size
            clear hp hr
            by_cases hig : i < ng
            · obtain ⟨gb, go, rfl, hgc2⟩ := (HGL.out.below hbel).2.2.2 (by omega)
              have HGC := Lib.hid hgc2
              obtain ⟨ai, ci, g1, zi⟩ := hgc2 i hig
              have hiG : i < G.length := by have := HNG.out; omega
              have egi : G.getD i [] = G[i] := by simp [List.getD, hiG]
              rw [egi] at g1 zi
              obtain ⟨Gi, hGi⟩ : ∃ g, G[i] = g := ⟨_, rfl⟩
              rw [hGi] at g1 zi
              have HGI := Lib.hid hGi
              obtain ⟨li, hli⟩ : ∃ k, Gi.length = k := ⟨_, rfl⟩
              have HLI := Lib.hid hli
              rw [hli] at g1 zi
              have HZI := Lib.hid zi
              have HI64 := Lib.hid (show ∀ y ∈ Gi, W64 y from fun y hy => H64.out y (((distR_spec ids).2 y).1 ((HG.out.2.1 Gi (by rw [← hGi]; exact List.getElem_mem hiG) y hy y).1 hy).1))
              have HP2 := Lib.hid (show sumL List.length (G.take (i + 1)) = p + li by rw [sumL_snoc _ _ _ hiG, HP.out, hGi, hli])
              have hp3 : p + li ≤ m := by rw [← HP2.out]; exact Nat.le_trans (sumL_mono _ _ _) (by rw [HIT.out]; exact hdl)
              obtain ⟨lc2, hlc2⟩ : ∃ k, (cfl (normR L) Gi).length = k := ⟨_, rfl⟩
              have HLC := Lib.hid hlc2
              have HR2 := Lib.hid (show sumL (fun g => (cfl (normR L) g).length) (G.take (i + 1)) = r + lc2 by rw [sumL_snoc _ _ _ hiG, HR.out, hGi, hlc2])
              have hr3 : r + lc2 ≤ ne := by rw [← HR2.out, ← HWI.out]; exact sumL_mono _ _ _
              have HPR := Lib.hid (HPL.out.below hbel)
              clear hgc2 zi egi hGi hli hlc2 hbel
              have hix0 : (0 : Int) ≤ (i : Int) := by omega
              have hix1 : (i : Int) < (ng : Int) := by omega
              have wp : IntKind.i64.wrap ((p : Int) + (li : Int)) = ((p + li : Nat) : Int) := by rw [IntKind.wrap_i64]; omega
              have wr' : IntKind.i64.wrap ((r : Int) + (lc2 : Int)) = ((r + lc2 : Nat) : Int) := by rw [IntKind.wrap_i64]; omega
              obtain ⟨wi, hwi⟩ : ∃ W, W = wr := ⟨_, rfl⟩
              subst hwi
              go_wp2_with fail
              refine (conflicts_any _ _ _ L _ _ _ Gi _ HPR.out HL64.out HZI.out HI64.out (by omega) (by omega)).mono ?_
              rintro e w4 ⟨v4, rfl, ho, hb⟩
              obtain ⟨a4, c4, rfl, hp⟩ := ho.pr
              rw [HLC.out] at hp ⊢
              clear ho hp
              have HBI := Lib.hid hb
              have HB4 := Lib.hid (HBR.out.trans (hb.mono hsr))
              have hs4 := HB4.out.size
              replace g1 := cell_mono g1 hb
              replace HZI := Lib.hid (HZI.out.below hb)
              clear hb HPR
              go_wp2_with fail
              go_loopw [14] (fun k wr => ∃ t : Nat, t ≤ i ∧ k = .int .i64 t ∧ Below w4.heap.size w4 wr) (fun k _ => i - (intOf k).toNat)
              case atStart => exact ⟨0, Nat.zero_le _, rfl, Below.refl _ _⟩
              case round =>
                obtain ⟨k, hk, rfl, hbel⟩ := hrel
                have HBK := Lib.hid hbel
                have hsk := hbel.size
                by_cases hki : k < i
                · obtain ⟨ak, ck, g2, zk⟩ := HGC.out k (by omega)
                  have hkG : k < G.length := by have := HNG.out; omega
                  have egk : G.getD k [] = G[k] := by simp [List.getD, hkG]
                  rw [egk] at g2 zk
                  obtain ⟨Gk, hGk⟩ : ∃ g, G[k] = g := ⟨_, rfl⟩
                  rw [hGk] at g2 zk
                  obtain ⟨lk, hlk⟩ : ∃ k, Gk.length = k := ⟨_, rfl⟩
                  rw [hlk] at g2 zk
                  have HAP := Lib.hid (show ∀ x ∈ Gi, ∀ y ∈ Gk, x ≠ y ∧ areP L x y = false from fun x hx y hy => HG.out.apart hiG hkG (by omega) x (by rw [HGI.out]; exact hx) y (by rw [hGk]; exact hy))
                  have hw4 : Below wi.heap.size wi wr := (show Below wi.heap.size wi w4 from HBI.out).trans (hbel.mono HBI.out.size)
                  replace g2 := cell_mono g2 hw4
                  have HZK := Lib.hid (zk.below hw4)
                  replace g1 := cell_mono g1 hbel
                  replace HZI := Lib.hid (HZI.out.below hbel)
                  replace HPL := Lib.hid (HPL.out.below (HB4.out.trans (hbel.mono hs4)))
                  clear egk hGk hlk zk hw4 hbel
                  have hkx0 : (0 : Int) ≤ (k : Int) := by omega
                  have hkx1 : (k : Int) < (ng : Int) := by omega
                  have hkx2 : (k : Int) < (i : Int) := by omega
                  go_wp2_with fail
                  refine region_name fun W1 hW => ?_
                  have HBw := Lib.hid (show Below wr.heap.size wr W1 by rw [← hW]; (repeat' (first | with_reducible exact Below.refl _ _ | (with_reducible refine Below.alloc ?_ ?_ _; rotate_left; (focus (first | omega | (simp; done) | (simp; omega)))) | with_reducible apply Below.drew | (with_reducible refine Below.setCell ?_ ?_ _; rotate_left; (focus (first | omega | (simp; done) | (simp; omega)))))))
                  clear hW
                  replace g1 := cell_mono g1 HBw.out
                  replace g2 := cell_mono g2 HBw.out
                  replace HPL := Lib.hid (HPL.out.below HBw.out)
                  replace HZI := Lib.hid (HZI.out.below HBw.out)
                  replace HZK := Lib.hid (HZK.out.below HBw.out)
                  replace HBK := Lib.hid (HBK.out.trans (HBw.out.mono hsk))
                  replace hsk := HBK.out.size
                  refine region_inv2 (by kernel_rfl) (InJ la ln lc gb go i k ng gc ai li ci ak lk ck (W1)) ?_ ?_ ?_ ?_
                  · exact ⟨u82, u83, u84, u85, u86, u87, u88, u89, u90, u91, u92, by simp only [Act.put, List.setIfInBounds_toArray, List.set_cons_zero, List.set_cons_succ], Since.drawn _, (fun h => by cases h), (fun h => by cases h), (fun h => by cases h), (fun h => by cases h), (fun h => by cases h), (fun h => by cases h), (fun h => by cases h), (fun h => by cases h), (fun h => by cases h), (fun h => by cases h), (fun h => by cases h)⟩
                  · exact acyc_spec (by kernel_rfl)
                  · intro Ls a0 wq i o ho hLi hafter hJ
                    obtain ⟨u82, u83, u84, u85, u86, u87, u88, u89, u90, u91, u92, rfl, hS, p0, p1, p2, p3, p4, p5, p6, p7, p8, p9, p10⟩ := hJ
                    have hi : i < 11 := (Array.getElem?_eq_some_iff.1 ho).1
                    obtain rfl | rfl | rfl | rfl | rfl | rfl | rfl | rfl | rfl | rfl | rfl : i = 0 ∨ i = 1 ∨ i = 2 ∨ i = 3 ∨ i = 4 ∨ i = 5 ∨ i = 6 ∨ i = 7 ∨ i = 8 ∨ i = 9 ∨ i = 10 := by omega
                    · simp only [List.getElem?_toArray, List.getElem?_cons_zero, Option.some.injEq] at ho
                      subst ho
                      have P0 := Lib.hid p0
                      have P1 := Lib.hid p1
                      have P2 := Lib.hid p2
                      have P3 := Lib.hid p3
                      have P4 := Lib.hid p4
                      have P5 := Lib.hid p5
                      have P6 := Lib.hid p6
                      have P7 := Lib.hid p7
                      have P8 := Lib.hid p8
                      have P9 := Lib.hid p9
                      have P10 := Lib.hid p10
                      have HS := Lib.hid hS
                      clear hS hLi hafter p0 p1 p2 p3 p4 p5 p6 p7 p8 p9 p10
                      simp only [Act.put, List.setIfInBounds_toArray, List.set_cons_zero, List.set_cons_succ]
                      go_wp2_with fail
                      exact ⟨.slice la ln lc, u83, u84, u85, u86, u87, u88, u89, u90, u91, u92, by simp only [Act.put, List.setIfInBounds_toArray, List.set_cons_zero, List.set_cons_succ], HS.out, (fun _ => rfl), (fun h => by first | rfl | exact P1.out (by simpa using h)), (fun h => by first | rfl | exact P2.out (by simpa using h)), (fun h => by first | rfl | exact P3.out (by simpa using h)), (fun h => by first | rfl | exact P4.out (by simpa using h)), (fun h => by first | rfl | exact P5.out (by simpa using h)), (fun h => by first | rfl | exact P6.out (by simpa using h)), (fun h => by first | rfl | exact P7.out (by simpa using h)), (fun h => by first | rfl | exact P8.out (by simpa using h)), (fun h => by first | rfl | exact P9.out (by simpa using h)), (fun h => by first | rfl | exact P10.out (by simpa using h))⟩
                    · simp only [List.getElem?_toArray, List.getElem?_cons_zero, List.getElem?_cons_succ, Option.some.injEq] at ho
                      subst ho
                      have P0 := Lib.hid p0
                      have P1 := Lib.hid p1
                      have P2 := Lib.hid p2
                      have P3 := Lib.hid p3
                      have P4 := Lib.hid p4
                      have P5 := Lib.hid p5
                      have P6 := Lib.hid p6
                      have P7 := Lib.hid p7
                      have P8 := Lib.hid p8
                      have P9 := Lib.hid p9
                      have P10 := Lib.hid p10
                      have HS := Lib.hid hS
                      clear hS hLi hafter p0 p1 p2 p3 p4 p5 p6 p7 p8 p9 p10
                      simp only [Act.put, List.setIfInBounds_toArray, List.set_cons_zero, List.set_cons_succ]
                      go_wp2_with fail
                      exact ⟨u82, .slice (some ⟨gb, go, none⟩) ng gc, u84, u85, u86, u87, u88, u89, u90, u91, u92, by simp only [Act.put, List.setIfInBounds_toArray, List.set_cons_zero, List.set_cons_succ], HS.out, (fun h => by first | rfl | exact P0.out (by simpa using h)), (fun _ => rfl), (fun h => by first | rfl | exact P2.out (by simpa using h)), (fun h => by first | rfl | exact P3.out (by simpa using h)), (fun h => by first | rfl | exact P4.out (by simpa using h)), (fun h => by first | rfl | exact P5.out (by simpa using h)), (fun h => by first | rfl | exact P6.out (by simpa using h)), (fun h => by first | rfl | exact P7.out (by simpa using h)), (fun h => by first | rfl | exact P8.out (by simpa using h)), (fun h => by first | rfl | exact P9.out (by simpa using h)), (fun h => by first | rfl | exact P10.out (by simpa using h))⟩
                    · simp only [List.getElem?_toArray, List.getElem?_cons_zero, List.getElem?_cons_succ, Option.some.injEq] at ho
                      subst ho
                      have P0 := Lib.hid p0
                      have P1 := Lib.hid p1
                      have P2 := Lib.hid p2
                      have P3 := Lib.hid p3
                      have P4 := Lib.hid p4
                      have P5 := Lib.hid p5
                      have P6 := Lib.hid p6
                      have P7 := Lib.hid p7
                      have P8 := Lib.hid p8
                      have P9 := Lib.hid p9
                      have P10 := Lib.hid p10
                      have HS := Lib.hid hS
                      clear hS hLi hafter p0 p1 p2 p3 p4 p5 p6 p7 p8 p9 p10
                      simp only [Act.put, List.setIfInBounds_toArray, List.set_cons_zero, List.set_cons_succ]
                      go_wp2_with fail
                      exact ⟨u82, u83, .int .i64 (i : Nat), u85, u86, u87, u88, u89, u90, u91, u92, by simp only [Act.put, List.setIfInBounds_toArray, List.set_cons_zero, List.set_cons_succ], HS.out, (fun h => by first | rfl | exact P0.out (by simpa using h)), (fun h => by first | rfl | exact P1.out (by simpa using h)), (fun _ => rfl), (fun h => by first | rfl | exact P3.out (by simpa using h)), (fun h => by first | rfl | exact P4.out (by simpa using h)), (fun h => by first | rfl | exact P5.out (by simpa using h)), (fun h => by first | rfl | exact P6.out (by simpa using h)), (fun h => by first | rfl | exact P7.out (by simpa using h)), (fun h => by first | rfl | exact P8.out (by simpa using h)), (fun h => by first | rfl | exact P9.out (by simpa using h)), (fun h => by first | rfl | exact P10.out (by simpa using h))⟩
                    · simp only [List.getElem?_toArray, List.getElem?_cons_zero, List.getElem?_cons_succ, Option.some.injEq] at ho
                      subst ho
                      obtain rfl := p1 (hafter ⟨1, .data⟩ (by simp) rfl)
                      obtain rfl := p2 (hafter ⟨2, .data⟩ (by simp) rfl)
                      have P0 := Lib.hid p0
                      have P1 := Lib.hid p1
                      have P2 := Lib.hid p2
                      have P3 := Lib.hid p3
                      have P4 := Lib.hid p4
                      have P5 := Lib.hid p5
                      have P6 := Lib.hid p6
                      have P7 := Lib.hid p7
                      have P8 := Lib.hid p8
                      have P9 := Lib.hid p9
                      have P10 := Lib.hid p10
                      have HS := Lib.hid hS
                      clear hS hLi hafter p0 p1 p2 p3 p4 p5 p6 p7 p8 p9 p10
                      simp only [Act.put, List.setIfInBounds_toArray, List.set_cons_zero, List.set_cons_succ]
                      go_wp2_with fail
                      exact ⟨u82, .slice (some ⟨gb, go, none⟩) ng gc, .int .i64 (i : Nat), .pointer (some ⟨gb, go + i, none⟩), u86, u87, u88, u89, u90, u91, u92, by simp only [Act.put, List.setIfInBounds_toArray, List.set_cons_zero, List.set_cons_succ], HS.out, (fun h => by first | rfl | exact P0.out (by simpa using h)), (fun h => by first | rfl | exact P1.out (by simpa using h)), (fun h => by first | rfl | exact P2.out (by simpa using h)), (fun _ => rfl), (fun h => by first | rfl | exact P4.out (by simpa using h)), (fun h => by first | rfl | exact P5.out (by simpa using h)), (fun h => by first | rfl | exact P6.out (by simpa using h)), (fun h => by first | rfl | exact P7.out (by simpa using h)), (fun h => by first | rfl | exact P8.out (by simpa using h)), (fun h => by first | rfl | exact P9.out (by simpa using h)), (fun h => by first | rfl | exact P10.out (by simpa using h))⟩
                    · simp only [List.getElem?_toArray, List.getElem?_cons_zero, List.getElem?_cons_succ, Option.some.injEq] at ho
                      subst ho
                      obtain rfl := p3 (hafter ⟨3, .data⟩ (by simp) rfl)
                      have c0 := cell_mono g1 hS.1
                      have P0 := Lib.hid p0
                      have P1 := Lib.hid p1
                      have P2 := Lib.hid p2
                      have P3 := Lib.hid p3
                      have P4 := Lib.hid p4
                      have P5 := Lib.hid p5
                      have P6 := Lib.hid p6
                      have P7 := Lib.hid p7
                      have P8 := Lib.hid p8
                      have P9 := Lib.hid p9
                      have P10 := Lib.hid p10
                      have HS := Lib.hid hS
                      clear hS hLi hafter p0 p1 p2 p3 p4 p5 p6 p7 p8 p9 p10
                      simp only [Act.put, List.setIfInBounds_toArray, List.set_cons_zero, List.set_cons_succ]
                      go_wp2_with fail
                      exact ⟨u82, u83, u84, .pointer (some ⟨gb, go + i, none⟩), .slice ai li ci, u87, u88, u89, u90, u91, u92, by simp only [Act.put, List.setIfInBounds_toArray, List.set_cons_zero, List.set_cons_succ], HS.out, (fun h => by first | rfl | exact P0.out (by simpa using h)), (fun h => by first | rfl | exact P1.out (by simpa using h)), (fun h => by first | rfl | exact P2.out (by simpa using h)), (fun h => by first | rfl | exact P3.out (by simpa using h)), (fun _ => rfl), (fun h => by first | rfl | exact P5.out (by simpa using h)), (fun h => by first | rfl | exact P6.out (by simpa using h)), (fun h => by first | rfl | exact P7.out (by simpa using h)), (fun h => by first | rfl | exact P8.out (by simpa using h)), (fun h => by first | rfl | exact P9.out (by simpa using h)), (fun h => by first | rfl | exact P10.out (by simpa using h))⟩
                    · simp only [List.getElem?_toArray, List.getElem?_cons_zero, List.getElem?_cons_succ, Option.some.injEq] at ho
                      subst ho
                      have P0 := Lib.hid p0
                      have P1 := Lib.hid p1
                      have P2 := Lib.hid p2
                      have P3 := Lib.hid p3
                      have P4 := Lib.hid p4
                      have P5 := Lib.hid p5
                      have P6 := Lib.hid p6
                      have P7 := Lib.hid p7
                      have P8 := Lib.hid p8
                      have P9 := Lib.hid p9
                      have P10 := Lib.hid p10
                      have HS := Lib.hid hS
                      clear hS hLi hafter p0 p1 p2 p3 p4 p5 p6 p7 p8 p9 p10
                      simp only [Act.put, List.setIfInBounds_toArray, List.set_cons_zero, List.set_cons_succ]
                      go_wp2_with fail
                      exact ⟨u82, u83, u84, u85, u86, .slice (some ⟨gb, go, none⟩) ng gc, u88, u89, u90, u91, u92, by simp only [Act.put, List.setIfInBounds_toArray, List.set_cons_zero, List.set_cons_succ], HS.out, (fun h => by first | rfl | exact P0.out (by simpa using h)), (fun h => by first | rfl | exact P1.out (by simpa using h)), (fun h => by first | rfl | exact P2.out (by simpa using h)), (fun h => by first | rfl | exact P3.out (by simpa using h)), (fun h => by first | rfl | exact P4.out (by simpa using h)), (fun _ => rfl), (fun h => by first | rfl | exact P6.out (by simpa using h)), (fun h => by first | rfl | exact P7.out (by simpa using h)), (fun h => by first | rfl | exact P8.out (by simpa using h)), (fun h => by first | rfl | exact P9.out (by simpa using h)), (fun h => by first | rfl | exact P10.out (by simpa using h))⟩
                    · simp only [List.getElem?_toArray, List.getElem?_cons_zero, List.getElem?_cons_succ, Option.some.injEq] at ho
                      subst ho
                      have P0 := Lib.hid p0
                      have P1 := Lib.hid p1
                      have P2 := Lib.hid p2
                      have P3 := Lib.hid p3
                      have P4 := Lib.hid p4
                      have P5 := Lib.hid p5
                      have P6 := Lib.hid p6
                      have P7 := Lib.hid p7
                      have P8 := Lib.hid p8
                      have P9 := Lib.hid p9
                      have P10 := Lib.hid p10
                      have HS := Lib.hid hS
                      clear hS hLi hafter p0 p1 p2 p3 p4 p5 p6 p7 p8 p9 p10
                      simp only [Act.put, List.setIfInBounds_toArray, List.set_cons_zero, List.set_cons_succ]
                      go_wp2_with fail
                      exact ⟨u82, u83, u84, u85, u86, u87, .int .i64 (k : Nat), u89, u90, u91, u92, by simp only [Act.put, List.setIfInBounds_toArray, List.set_cons_zero, List.set_cons_succ], HS.out, (fun h => by first | rfl | exact P0.out (by simpa using h)), (fun h => by first | rfl | exact P1.out (by simpa using h)), (fun h => by first | rfl | exact P2.out (by simpa using h)), (fun h => by first | rfl | exact P3.out (by simpa using h)), (fun h => by first | rfl | exact P4.out (by simpa using h)), (fun h => by first | rfl | exact P5.out (by simpa using h)), (fun _ => rfl), (fun h => by first | rfl | exact P7.out (by simpa using h)), (fun h => by first | rfl | exact P8.out (by simpa using h)), (fun h => by first | rfl | exact P9.out (by simpa using h)), (fun h => by first | rfl | exact P10.out (by simpa using h))⟩
                    · simp only [List.getElem?_toArray, List.getElem?_cons_zero, List.getElem?_cons_succ, Option.some.injEq] at ho
                      subst ho
                      obtain rfl := p5 (hafter ⟨5, .data⟩ (by simp) rfl)
                      obtain rfl := p6 (hafter ⟨6, .data⟩ (by simp) rfl)
                      have P0 := Lib.hid p0
                      have P1 := Lib.hid p1
                      have P2 := Lib.hid p2
                      have P3 := Lib.hid p3
                      have P4 := Lib.hid p4
                      have P5 := Lib.hid p5
                      have P6 := Lib.hid p6
                      have P7 := Lib.hid p7
                      have P8 := Lib.hid p8
                      have P9 := Lib.hid p9
                      have P10 := Lib.hid p10
                      have HS := Lib.hid hS
                      clear hS hLi hafter p0 p1 p2 p3 p4 p5 p6 p7 p8 p9 p10
                      simp only [Act.put, List.setIfInBounds_toArray, List.set_cons_zero, List.set_cons_succ]
                      go_wp2_with fail
                      exact ⟨u82, u83, u84, u85, u86, .slice (some ⟨gb, go, none⟩) ng gc, .int .i64 (k : Nat), .pointer (some ⟨gb, go + k, none⟩), u90, u91, u92, by simp only [Act.put, List.setIfInBounds_toArray, List.set_cons_zero, List.set_cons_succ], HS.out, (fun h => by first | rfl | exact P0.out (by simpa using h)), (fun h => by first | rfl | exact P1.out (by simpa using h)), (fun h => by first | rfl | exact P2.out (by simpa using h)), (fun h => by first | rfl | exact P3.out (by simpa using h)), (fun h => by first | rfl | exact P4.out (by simpa using h)), (fun h => by first | rfl | exact P5.out (by simpa using h)), (fun h => by first | rfl | exact P6.out (by simpa using h)), (fun _ => rfl), (fun h => by first | rfl | exact P8.out (by simpa using h)), (fun h => by first | rfl | exact P9.out (by simpa using h)), (fun h => by first | rfl | exact P10.out (by simpa using h))⟩
                    · simp only [List.getElem?_toArray, List.getElem?_cons_zero, List.getElem?_cons_succ, Option.some.injEq] at ho
                      subst ho
                      obtain rfl := p7 (hafter ⟨7, .data⟩ (by simp) rfl)
                      have c0 := cell_mono g2 hS.1
                      have P0 := Lib.hid p0
                      have P1 := Lib.hid p1
                      have P2 := Lib.hid p2
                      have P3 := Lib.hid p3
                      have P4 := Lib.hid p4
                      have P5 := Lib.hid p5
                      have P6 := Lib.hid p6
                      have P7 := Lib.hid p7
                      have P8 := Lib.hid p8
                      have P9 := Lib.hid p9
                      have P10 := Lib.hid p10
                      have HS := Lib.hid hS
                      clear hS hLi hafter p0 p1 p2 p3 p4 p5 p6 p7 p8 p9 p10
                      simp only [Act.put, List.setIfInBounds_toArray, List.set_cons_zero, List.set_cons_succ]
                      go_wp2_with fail
                      exact ⟨u82, u83, u84, u85, u86, u87, u88, .pointer (some ⟨gb, go + k, none⟩), .slice ak lk ck, u91, u92, by simp only [Act.put, List.setIfInBounds_toArray, List.set_cons_zero, List.set_cons_succ], HS.out, (fun h => by first | rfl | exact P0.out (by simpa using h)), (fun h => by first | rfl | exact P1.out (by simpa using h)), (fun h => by first | rfl | exact P2.out (by simpa using h)), (fun h => by first | rfl | exact P3.out (by simpa using h)), (fun h => by first | rfl | exact P4.out (by simpa using h)), (fun h => by first | rfl | exact P5.out (by simpa using h)), (fun h => by first | rfl | exact P6.out (by simpa using h)), (fun h => by first | rfl | exact P7.out (by simpa using h)), (fun _ => rfl), (fun h => by first | rfl | exact P9.out (by simpa using h)), (fun h => by first | rfl | exact P10.out (by simpa using h))⟩
                    · simp only [List.getElem?_toArray, List.getElem?_cons_zero, List.getElem?_cons_succ, Option.some.injEq] at ho
                      subst ho
                      obtain rfl := p0 (hafter ⟨0, .data⟩ (by simp) rfl)
                      obtain rfl := p4 (hafter ⟨4, .data⟩ (by simp) rfl)
                      obtain rfl := p8 (hafter ⟨8, .data⟩ (by simp) rfl)
                      have P0 := Lib.hid p0
                      have P1 := Lib.hid p1
                      have P2 := Lib.hid p2
                      have P3 := Lib.hid p3
                      have P4 := Lib.hid p4
                      have P5 := Lib.hid p5
                      have P6 := Lib.hid p6
                      have P7 := Lib.hid p7
                      have P8 := Lib.hid p8
                      have P9 := Lib.hid p9
                      have P10 := Lib.hid p10
                      have HS := Lib.hid hS
                      clear hS hLi hafter p0 p1 p2 p3 p4 p5 p6 p7 p8 p9 p10
                      simp only [Act.put, List.setIfInBounds_toArray, List.set_cons_zero, List.set_cons_succ]
                      go_wp2_with fail
                      refine (apart_any _ _ _ L _ _ _ _ _ _ Gi Gk _ (HPL.out.below HS.out.1) (HZI.out.below HS.out.1) (HZK.out.below HS.out.1) HAP.out).mono ?_
                      rintro e wn ⟨rfl, hb⟩
                      have Hb := Lib.hid hb
                      clear hb
                      go_wp2_with fail
                      exact ⟨.slice la ln lc, u83, u84, u85, .slice ai li ci, u87, u88, u89, .slice ak lk ck, .bool true, u92, by simp only [Act.put, List.setIfInBounds_toArray, List.set_cons_zero, List.set_cons_succ], HS.out.below Hb.out, (fun h => by first | rfl | exact P0.out (by simpa using h)), (fun h => by first | rfl | exact P1.out (by simpa using h)), (fun h => by first | rfl | exact P2.out (by simpa using h)), (fun h => by first | rfl | exact P3.out (by simpa using h)), (fun h => by first | rfl | exact P4.out (by simpa using h)), (fun h => by first | rfl | exact P5.out (by simpa using h)), (fun h => by first | rfl | exact P6.out (by simpa using h)), (fun h => by first | rfl | exact P7.out (by simpa using h)), (fun h => by first | rfl | exact P8.out (by simpa using h)), (fun _ => rfl), (fun h => by first | rfl | exact P10.out (by simpa using h))⟩
                    · simp only [List.getElem?_toArray, List.getElem?_cons_zero, List.getElem?_cons_succ, Option.some.injEq] at ho
                      subst ho
                      obtain rfl := p9 (hafter ⟨9, .data⟩ (by simp) rfl)
                      have P0 := Lib.hid p0
                      have P1 := Lib.hid p1
                      have P2 := Lib.hid p2
                      have P3 := Lib.hid p3
                      have P4 := Lib.hid p4
                      have P5 := Lib.hid p5
                      have P6 := Lib.hid p6
                      have P7 := Lib.hid p7
                      have P8 := Lib.hid p8
                      have P9 := Lib.hid p9
                      have P10 := Lib.hid p10
                      have HS := Lib.hid hS
                      clear hS hLi hafter p0 p1 p2 p3 p4 p5 p6 p7 p8 p9 p10
                      simp only [Act.put, List.setIfInBounds_toArray, List.set_cons_zero, List.set_cons_succ]
                      go_wp2_with fail
                      exact ⟨u82, u83, u84, u85, u86, u87, u88, u89, u90, .bool true, .bool false, by simp only [Act.put, List.setIfInBounds_toArray, List.set_cons_zero, List.set_cons_succ], HS.out, (fun h => by first | rfl | exact P0.out (by simpa using h)), (fun h => by first | rfl | exact P1.out (by simpa using h)), (fun h => by first | rfl | exact P2.out (by simpa using h)), (fun h => by first | rfl | exact P3.out (by simpa using h)), (fun h => by first | rfl | exact P4.out (by simpa using h)), (fun h => by first | rfl | exact P5.out (by simpa using h)), (fun h => by first | rfl | exact P6.out (by simpa using h)), (fun h => by first | rfl | exact P7.out (by simpa using h)), (fun h => by first | rfl | exact P8.out (by simpa using h)), (fun h => by first | rfl | exact P9.out (by simpa using h)), (fun _ => rfl)⟩
                  · intro Ls a0 wq hall hJ
                    obtain ⟨u82, u83, u84, u85, u86, u87, u88, u89, u90, u91, u92, rfl, hS, p0, p1, p2, p3, p4, p5, p6, p7, p8, p9, p10⟩ := hJ
                    replace p0 := p0 (hall 0 (by decide))
                    replace p1 := p1 (hall 1 (by decide))
                    replace p2 := p2 (hall 2 (by decide))
                    replace p3 := p3 (hall 3 (by decide))
                    replace p4 := p4 (hall 4 (by decide))
                    replace p5 := p5 (hall 5 (by decide))
                    replace p6 := p6 (hall 6 (by decide))
                    replace p7 := p7 (hall 7 (by decide))
                    replace p8 := p8 (hall 8 (by decide))
                    replace p9 := p9 (hall 9 (by decide))
                    replace p10 := p10 (hall 10 (by decide))
                    have HBz := Lib.hid (HBK.out.trans (hS.1.mono hsk))
                    subst p10
                    clear hall hS p0 p1 p2 p3 p4 p5 p6 p7 p8 p9
                    simp only [Act.put, List.setIfInBounds_toArray, List.set_cons_zero, List.set_cons_succ]
                    go_wp2_with fail
                    go_roundw
                    case rel => exact ⟨k + 1, by omega, by go_num, HBz.out⟩
                    case measure => simp [intOf]; omega
                · obtain rfl : k = i := by omega
                  have HBF := Lib.hid (HB4.out.trans (hbel.mono hs4))
                  clear hbel
                  go_wp2_with fail
                  go_roundw
                  case rel => exact ⟨k + 1, p + li, r + lc2, by omega, rfl, rfl, by go_num, HP2.out, HR2.out, HBF.out⟩
                  case measure => simp [intOf]; omega
            · obtain rfl : i = ng := by omega
              have HPF := Lib.hid (show p = (distR ids).length by rw [← HIT.out, ← HP.out, List.take_of_length_le (by rw [HNG.out]; exact Nat.le_refl _)])
              have HRF := Lib.hid (show r = ne by rw [← HWI.out, ← HR.out, List.take_of_length_le (by rw [HNG.out]; exact Nat.le_refl _)])
              replace HZ := Lib.hid (HZ.out.below hbel)
              have HBX := Lib.hid (HBG.out.trans (hbel.mono HBG.out.size))
              clear hbel
              obtain rfl := HRF.out
              go_wp2_with fail
              refine (xdistinct_any _ _ _ ids _ HZ.out (by omega)).mono ?_
              rintro e w5 ⟨v5, rfl, ho, hb⟩
              obtain ⟨a5, c5, rfl, _⟩ := ho.zl
              rw [← HPF.out]
              have HBY := Lib.hid (HBX.out.trans (hb.mono HBX.out.size))
              clear ho hb
              have e1 : ((p : Int) == (p : Int)) = true := by simp
              have e2 : ((r : Int) == (r : Int)) = true := by simp
              go_wp2_with fail
              refine (awake_any _).mono ?_
              rintro e w6 ⟨rfl, hb⟩
              have HBZ := Lib.hid (HBY.out.trans (hb.mono HBY.out.size))
              clear hb
              go_wp2_with fail
              go_ret
              exact ⟨rfl, HBZ.out⟩
      · have hqd1 : ¬ (q : Int) < (m : Int) := by omega
        clear hqm
        obtain ⟨sa, sc, rfl, hz1⟩ := HS0.out.zl
        have HS1 := Lib.hid hz1
        replace HPL := Lib.hid (HPL.out.below HB.out)
        replace HZ := Lib.hid (HZ.out.below HB.out)
        clear hz1 HS0 hbel HKP
        obtain ⟨ns, hns⟩ : ∃ k, S.length = k := ⟨_, rfl⟩
        rw [hns] at HS1 hSl ⊢
        clear hns
        have HS64 := Lib.hid (show ∀ y ∈ S, W64 y from fun y hy => H64.out y (HSS.out y hy))
        go_wp2_with fail
        refine (conflicts_any _ _ _ L _ _ _ ids _ HPL.out HL64.out HZ.out H64.out (by omega) (by omega)).mono ?_
        rintro e w1 ⟨v1, rfl, ho, hb⟩
        obtain ⟨a1, c1, rfl, hp⟩ := ho.pr
        clear ho hp
        replace HPL := Lib.hid (HPL.out.below hb)
        replace HZ := Lib.hid (HZ.out.below hb)
        replace HS1 := Lib.hid (HS1.out.below hb)
        replace HB := Lib.hid (HB.out.trans (hb.mono HB.out.size))
        clear hb
        have HCE := Lib.hid (fun he => cfl_sub (N := normR L) HSS.out he)
        have hEl : (cfl (normR L) ids).length ≤ ln := Nat.le_trans (cfl_len _ _) hNl
        obtain ⟨ne, hne⟩ : ∃ k, (cfl (normR L) ids).length = k := ⟨_, rfl⟩
        have HNE := Lib.hid hne
        rw [hne] at hEl ⊢
        clear hne
        by_cases he0 : ne = 0
        · have HE0 := Lib.hid he0
          have hf0 : ((ne : Int) == 0) = true := by simp [he0]
          clear he0
          go_wp2_with fail
          refine (conflicts_any _ _ _ L _ _ _ S _ HPL.out HL64.out HS1.out HS64.out (by omega) (by omega)).mono ?_
          rintro e w2 ⟨v2, rfl, ho, hb⟩
          rw [HCE.out (List.length_eq_zero_iff.1 (HNE.out.trans HE0.out))] at ho
          obtain ⟨a2, c2, rfl, hp⟩ := ho.pr
          clear ho hp
          replace HPL := Lib.hid (HPL.out.below hb)
          replace HZ := Lib.hid (HZ.out.below hb)
          replace HS1 := Lib.hid (HS1.out.below hb)
          replace HB := Lib.hid (HB.out.trans (hb.mono HB.out.size))
          clear hb
          go_wp2_with fail
          refine (groups_any _ _ _ L _ _ _ ids _ HPL.out HL64.out HZ.out H64.out (by omega) (by omega)).mono ?_
          rintro e w3 ⟨v3, G, rfl, hG, hgn, hb⟩
          obtain ⟨ga, gc, rfl, hgl⟩ := hgn.gl
          have HG := Lib.hid hG
          clear hG hgn
          have HGL := Lib.hid hgl
          replace HPL := Lib.hid (HPL.out.below hb)
          replace HZ := Lib.hid (HZ.out.below hb)
          replace HS1 := Lib.hid (HS1.out.below hb)
          replace HB := Lib.hid (HB.out.trans (hb.mono HB.out.size))
          clear hb hgl
          have HIT := Lib.hid (show sumL List.length G = (distR ids).length from HG.out.items (fun x => .refl x) (distR_spec ids).1)
          have HWI := Lib.hid (show sumL (fun g => (cfl (normR L) g).length) G = ne by rw [← HNE.out]; exact HG.out.within)
          have hdl : (distR ids).length ≤ m := by rw [← HZN.out, ← rise_distR]; exact rise_len ids
          obtain ⟨ng, hng⟩ : ∃ k, G.length = k := ⟨_, rfl⟩
          have HNG := Lib.hid hng
          rw [hng] at HGL ⊢
          have hgc := HGL.out.2.1
          have hgm := HGL.out.2.2.1
          unfold maxLen at hgm
          clear hng
          have HBG := HB
          clear HS1
          go_wp2_with fail
          go_loopw [11, 12, 13] (fun it wi i wr => ∃ (q p r : Nat), q ≤ ng ∧ it = .int .i64 p ∧ wi = .int .i64 r ∧ i = .int .i64 q ∧ sumL List.length (G.take q) = p ∧ sumL (fun g => (cfl (normR L) g).length) (G.take q) = r ∧ Below w3.heap.size w3 wr) (fun _ _ i _ => ng - (intOf i).toNat)
          case atStart => exact ⟨0, 0, 0, Nat.zero_le _, rfl, rfl, rfl, rfl, rfl, Below.refl _ _⟩
          case round =>
            obtain ⟨i, p, r, hin, rfl, rfl, rfl, hp, hr, hbel⟩ := hrel
            have HP := Lib.hid hp
            have HR := Lib.hid hr
            have hp2 : p ≤ m := by rw [← hp]; exact Nat.le_trans (sumL_mono _ _ _) (by rw [HIT.out]; exact hdl)
            have hr2 : r ≤ ne := by rw [← hr, ← HWI.out]; exact sumL_mono _ _ _
            have HBR := Lib.hid hbel
            have hsr := hbel.size
            clear hp hr
            by_cases hig : i < ng
            · obtain ⟨gb, go, rfl, hgc2⟩ := (HGL.out.below hbel).2.2.2 (by omega)
              have HGC := Lib.hid hgc2
              obtain ⟨ai, ci, g1, zi⟩ := hgc2 i hig
              have hiG : i < G.length := by have := HNG.out; omega
              have egi : G.getD i [] = G[i] := by simp [List.getD, hiG]
              rw [egi] at g1 zi
              obtain ⟨Gi, hGi⟩ : ∃ g, G[i] = g := ⟨_, rfl⟩
              rw [hGi] at g1 zi
              have HGI := Lib.hid hGi
              obtain ⟨li, hli⟩ : ∃ k, Gi.length = k := ⟨_, rfl⟩
              have HLI := Lib.hid hli
              rw [hli] at g1 zi
              have HZI := Lib.hid zi
              have HI64 := Lib.hid (show ∀ y ∈ Gi, W64 y from fun y hy => H64.out y (((distR_spec ids).2 y).1 ((HG.out.2.1 Gi (by rw [← hGi]; exact List.getElem_mem hiG) y hy y).1 hy).1))
              have HP2 := Lib.hid (show sumL List.length (G.take (i + 1)) = p + li by rw [sumL_snoc _ _ _ hiG, HP.out, hGi, hli])
              have hp3 : p + li ≤ m := by rw [← HP2.out]; exact Nat.le_trans (sumL_mono _ _ _) (by rw [HIT.out]; exact hdl)
              obtain ⟨lc2, hlc2⟩ : ∃ k, (cfl (normR L) Gi).length = k := ⟨_, rfl⟩
              have HLC := Lib.hid hlc2
              have HR2 := Lib.hid (show sumL (fun g => (cfl (normR L) g).length) (G.take (i + 1)) = r + lc2 by rw [sumL_snoc _ _ _ hiG, HR.out, hGi, hlc2])
              have hr3 : r + lc2 ≤ ne := by rw [← HR2.out, ← HWI.out]; exact sumL_mono _ _ _
              have HPR := Lib.hid (HPL.out.below hbel)
              clear hgc2 zi egi hGi hli hlc2 hbel
              have hix0 : (0 : Int) ≤ (i : Int) := by omega
              have hix1 : (i : Int) < (ng : Int) := by omega
              have wp : IntKind.i64.wrap ((p : Int) + (li : Int)) = ((p + li : Nat) : Int) := by rw [IntKind.wrap_i64]; omega
              have wr' : IntKind.i64.wrap ((r : Int) + (lc2 : Int)) = ((r + lc2 : Nat) : Int) := by rw [IntKind.wrap_i64]; omega
              obtain ⟨wi, hwi⟩ : ∃ W, W = wr := ⟨_, rfl⟩
              subst hwi
              go_wp2_with fail
              refine (conflicts_any _ _ _ L _ _ _ Gi _ HPR.out HL64.out HZI.out HI64.out (by omega) (by omega)).mono ?_
              rintro e w4 ⟨v4, rfl, ho, hb⟩
              obtain ⟨a4, c4, rfl, hp⟩ := ho.pr
              rw [HLC.out] at hp ⊢
              clear ho hp
              have HBI := Lib.hid hb
              have HB4 := Lib.hid (HBR.out.trans (hb.mono hsr))
              have hs4 := HB4.out.size
              replace g1 := cell_mono g1 hb
              replace HZI := Lib.hid (HZI.out.below hb)
              clear hb HPR
              go_wp2_with fail
              go_loopw [14] (fun k wr => ∃ t : Nat, t ≤ i ∧ k = .int .i64 t ∧ Below w4.heap.size w4 wr) (fun k _ => i - (intOf k).toNat)
              case atStart => exact ⟨0, Nat.zero_le _, rfl, Below.refl _ _⟩
              case round =>
                obtain ⟨k, hk, rfl, hbel⟩ := hrel
                have HBK := Lib.hid hbel
                have hsk := hbel.size
                by_cases hki : k < i
                · obtain ⟨ak, ck, g2, zk⟩ := HGC.out k (by omega)
                  have hkG : k < G.length := by have := HNG.out; omega
                  have egk : G.getD k [] = G[k] := by simp [List.getD, hkG]
                  rw [egk] at g2 zk
                  obtain ⟨Gk, hGk⟩ : ∃ g, G[k] = g := ⟨_, rfl⟩
                  rw [hGk] at g2 zk
                  obtain ⟨lk, hlk⟩ : ∃ k, Gk.length = k := ⟨_, rfl⟩
                  rw [hlk] at g2 zk
                  have HAP := Lib.hid (show ∀ x ∈ Gi, ∀ y ∈ Gk, x ≠ y ∧ areP L x y = false from fun x hx y hy => HG.out.apart hiG hkG (by omega) x (by rw [HGI.out]; exact hx) y (by rw [hGk]; exact hy))
                  have hw4 : Below wi.heap.size wi wr := (show Below wi.heap.size wi w4 from HBI.out).trans (hbel.mono HBI.out.size)
                  replace g2 := cell_mono g2 hw4
                  have HZK := Lib.hid (zk.below hw4)
                  replace g1 := cell_mono g1 hbel
                  replace HZI := Lib.hid (HZI.out.below hbel)
                  replace HPL := Lib.hid (HPL.out.below (HB4.out.trans (hbel.mono hs4)))
                  clear egk hGk hlk zk hw4 hbel
                  have hkx0 : (0 : Int) ≤ (k : Int) := by omega
                  have hkx1 : (k : Int) < (ng : Int) := by omega
                  have hkx2 : (k : Int) < (i : Int) := by omega
                  go_wp2_with fail
                  refine region_name fun W1 hW => ?_
                  have HBw := Lib.hid (show Below wr.heap.size wr W1 by rw [← hW]; (repeat' (first | with_reducible exact Below.refl _ _ | (with_reducible refine Below.alloc ?_ ?_ _; rotate_left; (focus (first | omega | (simp; done) | (simp; omega)))) | with_reducible apply Below.drew | (with_reducible refine Below.setCell ?_ ?_ _; rotate_left; (focus (first | omega | (simp; done) | (simp; omega)))))))
                  clear hW
                  replace g1 := cell_mono g1 HBw.out
                  replace g2 := cell_mono g2 HBw.out
                  replace HPL := Lib.hid (HPL.out.below HBw.out)
                  replace HZI := Lib.hid (HZI.out.below HBw.out)
                  replace HZK := Lib.hid (HZK.out.below HBw.out)
                  replace HBK := Lib.hid (HBK.out.trans (HBw.out.mono hsk))
                  replace hsk := HBK.out.size
                  refine region_inv2 (by kernel_rfl) (InJ la ln lc gb go i k ng gc ai li ci ak lk ck (W1)) ?_ ?_ ?_ ?_
                  · exact ⟨u82, u83, u84, u85, u86, u87, u88, u89, u90, u91, u92, by simp only [Act.put, List.setIfInBounds_toArray, List.set_cons_zero, List.set_cons_succ], Since.drawn _, (fun h => by cases h), (fun h => by cases h), (fun h => by cases h), (fun h => by cases h), (fun h => by cases h), (fun h => by cases h), (fun h => by cases h), (fun h => by cases h), (fun h => by cases h), (fun h => by cases h), (fun h => by cases h)⟩
                  · exact acyc_spec (by kernel_rfl)
                  · intro Ls a0 wq i o ho hLi hafter hJ
                    obtain ⟨u82, u83, u84, u85, u86, u87, u88, u89, u90, u91, u92, rfl, hS, p0, p1, p2, p3, p4, p5, p6, p7, p8, p9, p10⟩ := hJ
                    have hi : i < 11 := (Array.getElem?_eq_some_iff.1 ho).1
                    obtain rfl | rfl | rfl | rfl | rfl | rfl | rfl | rfl | rfl | rfl | rfl : i = 0 ∨ i = 1 ∨ i = 2 ∨ i = 3 ∨ i = 4 ∨ i = 5 ∨ i = 6 ∨ i = 7 ∨ i = 8 ∨ i = 9 ∨ i = 10 := by omega
                    · simp only [List.getElem?_toArray, List.getElem?_cons_zero, Option.some.injEq] at ho
                      subst ho
                      have P0 := Lib.hid p0
                      have P1 := Lib.hid p1
                      have P2 := Lib.hid p2
                      have P3 := Lib.hid p3
                      have P4 := Lib.hid p4
                      have P5 := Lib.hid p5
                      have P6 := Lib.hid p6
                      have P7 := Lib.hid p7
                      have P8 := Lib.hid p8
                      have P9 := Lib.hid p9
                      have P10 := Lib.hid p10
                      have HS := Lib.hid hS
                      clear hS hLi hafter p0 p1 p2 p3 p4 p5 p6 p7 p8 p9 p10
                      simp only [Act.put, List.setIfInBounds_toArray, List.set_cons_zero, List.set_cons_succ]
                      go_wp2_with fail
                      exact ⟨.slice la ln lc, u83, u84, u85, u86, u87, u88, u89, u90, u91, u92, by simp only [Act.put, List.setIfInBounds_toArray, List.set_cons_zero, List.set_cons_succ], HS.out, (fun _ => rfl), (fun h => by first | rfl | exact P1.out (by simpa using h)), (fun h => by first | rfl | exact P2.out (by simpa using h)), (fun h => by first | rfl | exact P3.out (by simpa using h)), (fun h => by first | rfl | exact P4.out (by simpa using h)), (fun h => by first | rfl | exact P5.out (by simpa using h)), (fun h => by first | rfl | exact P6.out (by simpa using h)), (fun h => by first | rfl | exact P7.out (by simpa using h)), (fun h => by first | rfl | exact P8.out (by simpa using h)), (fun h => by first | rfl | exact P9.out (by simpa using h)), (fun h => by first | rfl | exact P10.out (by simpa using h))⟩
                    · simp only [List.getElem?_toArray, List.getElem?_cons_zero, List.getElem?_cons_succ, Option.some.injEq] at ho
                      subst ho
                      have P0 := Lib.hid p0
                      have P1 := Lib.hid p1
                      have P2 := Lib.hid p2
                      have P3 := Lib.hid p3
                      have P4 := Lib.hid p4
                      have P5 := Lib.hid p5
                      have P6 := Lib.hid p6
                      have P7 := Lib.hid p7
                      have P8 := Lib.hid p8
                      have P9 := Lib.hid p9
                      have P10 := Lib.hid p10
                      have HS := Lib.hid hS
                      clear hS hLi hafter p0 p1 p2 p3 p4 p5 p6 p7 p8 p9 p10
                      simp only [Act.put, List.setIfInBounds_toArray, List.set_cons_zero, List.set_cons_succ]
                      go_wp2_with fail
                      exact ⟨u82, .slice (some ⟨gb, go, none⟩) ng gc, u84, u85, u86, u87, u88, u89, u90, u91, u92, by simp only [Act.put, List.setIfInBounds_toArray, List.set_cons_zero, List.set_cons_succ], HS.out, (fun h => by first | rfl | exact P0.out (by simpa using h)), (fun _ => rfl), (fun h => by first | rfl | exact P2.out (by simpa using h)), (fun h => by first | rfl | exact P3.out (by simpa using h)), (fun h => by first | rfl | exact P4.out (by simpa using h)), (fun h => by first | rfl | exact P5.out (by simpa using h)), (fun h => by first | rfl | exact P6.out (by simpa using h)), (fun h => by first | rfl | exact P7.out (by simpa using h)), (fun h => by first | rfl | exact P8.out (by simpa using h)), (fun h => by first | rfl | exact P9.out (by simpa using h)), (fun h => by first | rfl | exact P10.out (by simpa using h))⟩
                    · simp only [List.getElem?_toArray, List.getElem?_cons_zero, List.getElem?_cons_succ, Option.some.injEq] at ho
                      subst ho
                      have P0 := Lib.hid p0
                      have P1 := Lib.hid p1
                      have P2 := Lib.hid p2
                      have P3 := Lib.hid p3
                      have P4 := Lib.hid p4
                      have P5 := Lib.hid p5
                      have P6 := Lib.hid p6
                      have P7 := Lib.hid p7
                      have P8 := Lib.hid p8
                      have P9 := Lib.hid p9
                      have P10 := Lib.hid p10
                      have HS := Lib.hid hS
                      clear hS hLi hafter p0 p1 p2 p3 p4 p5 p6 p7 p8 p9 p10
                      simp only [Act.put, List.setIfInBounds_toArray, List.set_cons_zero, List.set_cons_succ]
                      go_wp2_with fail
                      exact ⟨u82, u83, .int .i64 (i : Nat), u85, u86, u87, u88, u89, u90, u91, u92, by simp only [Act.put, List.setIfInBounds_toArray, List.set_cons_zero, List.set_cons_succ], HS.out, (fun h => by first | rfl | exact P0.out (by simpa using h)), (fun h => by first | rfl | exact P1.out (by simpa using h)), (fun _ => rfl), (fun h => by first | rfl | exact P3.out (by simpa using h)), (fun h => by first | rfl | exact P4.out (by simpa using h)), (fun h => by first | rfl | exact P5.out (by simpa using h)), (fun h => by first | rfl | exact P6.out (by simpa using h)), (fun h => by first | rfl | exact P7.out (by simpa using h)), (fun h => by first | rfl | exact P8.out (by simpa using h)), (fun h => by first | rfl | exact P9.out (by simpa using h)), (fun h => by first | rfl | exact P10.out (by simpa using h))⟩
                    · simp only [List.getElem?_toArray, List.getElem?_cons_zero, List.getElem?_cons_succ, Option.some.injEq] at ho
                      subst ho
                      obtain rfl := p1 (hafter ⟨1, .data⟩ (by simp) rfl)
                      obtain rfl := p2 (hafter ⟨2, .data⟩ (by simp) rfl)
                      have P0 := Lib.hid p0
                      have P1 := Lib.hid p1
                      have P2 := Lib.hid p2
                      have P3 := Lib.hid p3
                      have P4 := Lib.hid p4
                      have P5 := Lib.hid p5
                      have P6 := Lib.hid p6
                      have P7 := Lib.hid p7
                      have P8 := Lib.hid p8
                      have P9 := Lib.hid p9
                      have P10 := Lib.hid p10
                      have HS := Lib.hid hS
                      clear hS hLi hafter p0 p1 p2 p3 p4 p5 p6 p7 p8 p9 p10
                      simp only [Act.put, List.setIfInBounds_toArray, List.set_cons_zero, List.set_cons_succ]
                      go_wp2_with fail
                      exact ⟨u82, .slice (some ⟨gb, go, none⟩) ng gc, .int .i64 (i : Nat), .pointer (some ⟨gb, go + i, none⟩), u86, u87, u88, u89, u90, u91, u92, by simp only [Act.put, List.setIfInBounds_toArray, List.set_cons_zero, List.set_cons_succ], HS.out, (fun h => by first | rfl | exact P0.out (by simpa using h)), (fun h => by first | rfl | exact P1.out (by simpa using h)), (fun h => by first | rfl | exact P2.out (by simpa using h)), (fun _ => rfl), (fun h => by first | rfl | exact P4.out (by simpa using h)), (fun h => by first | rfl | exact P5.out (by simpa using h)), (fun h => by first | rfl | exact P6.out (by simpa using h)), (fun h => by first | rfl | exact P7.out (by simpa using h)), (fun h => by first | rfl | exact P8.out (by simpa using h)), (fun h => by first | rfl | exact P9.out (by simpa using h)), (fun h => by first | rfl | exact P10.out (by simpa using h))⟩
                    · simp only [List.getElem?_toArray, List.getElem?_cons_zero, List.getElem?_cons_succ, Option.some.injEq] at ho
                      subst ho
                      obtain rfl := p3 (hafter ⟨3, .data⟩ (by simp) rfl)
                      have c0 := cell_mono g1 hS.1
                      have P0 := Lib.hid p0
                      have P1 := Lib.hid p1
                      have P2 := Lib.hid p2
                      have P3 := Lib.hid p3
                      have P4 := Lib.hid p4
                      have P5 := Lib.hid p5
                      have P6 := Lib.hid p6
                      have P7 := Lib.hid p7
                      have P8 := Lib.hid p8
                      have P9 := Lib.hid p9
                      have P10 := Lib.hid p10
                      have HS := Lib.hid hS
                      clear hS hLi hafter p0 p1 p2 p3 p4 p5 p6 p7 p8 p9 p10
                      simp only [Act.put, List.setIfInBounds_toArray, List.set_cons_zero, List.set_cons_succ]
                      go_wp2_with fail
                      exact ⟨u82, u83, u84, .pointer (some ⟨gb, go + i, none⟩), .slice ai li ci, u87, u88, u89, u90, u91, u92, by simp only [Act.put, List.setIfInBounds_toArray, List.set_cons_zero, List.set_cons_succ], HS.out, (fun h => by first | rfl | exact P0.out (by simpa using h)), (fun h => by first | rfl | exact P1.out (by simpa using h)), (fun h => by first | rfl | exact P2.out (by simpa using h)), (fun h => by first | rfl | exact P3.out (by simpa using h)), (fun _ => rfl), (fun h => by first | rfl | exact P5.out (by simpa using h)), (fun h => by first | rfl | exact P6.out (by simpa using h)), (fun h => by first | rfl | exact P7.out (by simpa using h)), (fun h => by first | rfl | exact P8.out (by simpa using h)), (fun h => by first | rfl | exact P9.out (by simpa using h)), (fun h => by first | rfl | exact P10.out (by simpa using h))⟩
                    · simp only [List.getElem?_toArray, List.getElem?_cons_zero, List.getElem?_cons_succ, Option.some.injEq] at ho
                      subst ho
                      have P0 := Lib.hid p0
                      have P1 := Lib.hid p1
                      have P2 := Lib.hid p2
                      have P3 := Lib.hid p3
                      have P4 := Lib.hid p4
                      have P5 := Lib.hid p5
                      have P6 := Lib.hid p6
                      have P7 := Lib.hid p7
                      have P8 := Lib.hid p8
                      have P9 := Lib.hid p9
                      have P10 := Lib.hid p10
                      have HS := Lib.hid hS
                      clear hS hLi hafter p0 p1 p2 p3 p4 p5 p6 p7 p8 p9 p10
                      simp only [Act.put, List.setIfInBounds_toArray, List.set_cons_zero, List.set_cons_succ]
                      go_wp2_with fail
                      exact ⟨u82, u83, u84, u85, u86, .slice (some ⟨gb, go, none⟩) ng gc, u88, u89, u90, u91, u92, by simp only [Act.put, List.setIfInBounds_toArray, List.set_cons_zero, List.set_cons_succ], HS.out, (fun h => by first | rfl | exact P0.out (by simpa using h)), (fun h => by first | rfl | exact P1.out (by simpa using h)), (fun h => by first | rfl | exact P2.out (by simpa using h)), (fun h => by first | rfl | exact P3.out (by simpa using h)), (fun h => by first | rfl | exact P4.out (by simpa using h)), (fun _ => rfl), (fun h => by first | rfl | exact P6.out (by simpa using h)), (fun h => by first | rfl | exact P7.out (by simpa using h)), (fun h => by first | rfl | exact P8.out (by simpa using h)), (fun h => by first | rfl | exact P9.out (by simpa using h)), (fun h => by first | rfl | exact P10.out (by simpa using h))⟩
                    · simp only [List.getElem?_toArray, List.getElem?_cons_zero, List.getElem?_cons_succ, Option.some.injEq] at ho
                      subst ho
                      have P0 := Lib.hid p0
                      have P1 := Lib.hid p1
                      have P2 := Lib.hid p2
                      have P3 := Lib.hid p3
                      have P4 := Lib.hid p4
                      have P5 := Lib.hid p5
                      have P6 := Lib.hid p6
                      have P7 := Lib.hid p7
                      have P8 := Lib.hid p8
                      have P9 := Lib.hid p9
                      have P10 := Lib.hid p10
                      have HS := Lib.hid hS
                      clear hS hLi hafter p0 p1 p2 p3 p4 p5 p6 p7 p8 p9 p10
                      simp only [Act.put, List.setIfInBounds_toArray, List.set_cons_zero, List.set_cons_succ]
                      go_wp2_with fail
                      exact ⟨u82, u83, u84, u85, u86, u87, .int .i64 (k : Nat), u89, u90, u91, u92, by simp only [Act.put, List.setIfInBounds_toArray, List.set_cons_zero, List.set_cons_succ], HS.out, (fun h => by first | rfl | exact P0.out (by simpa using h)), (fun h => by first | rfl | exact P1.out (by simpa using h)), (fun h => by first | rfl | exact P2.out (by simpa using h)), (fun h => by first | rfl | exact P3.out (by simpa using h)), (fun h => by first | rfl | exact P4.out (by simpa using h)), (fun h => by first | rfl | exact P5.out (by simpa using h)), (fun _ => rfl), (fun h => by first | rfl | exact P7.out (by simpa using h)), (fun h => by first | rfl | exact P8.out (by simpa using h)), (fun h => by first | rfl | exact P9.out (by simpa using h)), (fun h => by first | rfl | exact P10.out (by simpa using h))⟩
                    · simp only [List.getElem?_toArray, List.getElem?_cons_zero, List.getElem?_cons_succ, Option.some.injEq] at ho
                      subst ho
                      obtain rfl := p5 (hafter ⟨5, .data⟩ (by simp) rfl)
                      obtain rfl := p6 (hafter ⟨6, .data⟩ (by simp) rfl)
                      have P0 := Lib.hid p0
                      have P1 := Lib.hid p1
                      have P2 := Lib.hid p2
                      have P3 := Lib.hid p3
                      have P4 := Lib.hid p4
                      have P5 := Lib.hid p5
                      have P6 := Lib.hid p6
                      have P7 := Lib.hid p7
                      have P8 := Lib.hid p8
                      have P9 := Lib.hid p9
                      have P10 := Lib.hid p10
                      have HS := Lib.hid hS
                      clear hS hLi hafter p0 p1 p2 p3 p4 p5 p6 p7 p8 p9 p10
                      simp only [Act.put, List.setIfInBounds_toArray, List.set_cons_zero, List.set_cons_succ]
                      go_wp2_with fail
                      exact ⟨u82, u83, u84, u85, u86, .slice (some ⟨gb, go, none⟩) ng gc, .int .i64 (k : Nat), .pointer (some ⟨gb, go + k, none⟩), u90, u91, u92, by simp only [Act.put, List.setIfInBounds_toArray, List.set_cons_zero, List.set_cons_succ], HS.out, (fun h => by first | rfl | exact P0.out (by simpa using h)), (fun h => by first | rfl | exact P1.out (by simpa using h)), (fun h => by first | rfl | exact P2.out (by simpa using h)), (fun h => by first | rfl | exact P3.out (by simpa using h)), (fun h => by first | rfl | exact P4.out (by simpa using h)), (fun h => by first | rfl | exact P5.out (by simpa using h)), (fun h => by first | rfl | exact P6.out (by simpa using h)), (fun _ => rfl), (fun h => by first | rfl | exact P8.out (by simpa using h)), (fun h => by first | rfl | exact P9.out (by simpa using h)), (fun h => by first | rfl | exact P10.out (by simpa using h))⟩
                    · simp only [List.getElem?_toArray, List.getElem?_cons_zero, List.getElem?_cons_succ, Option.some.injEq] at ho
                      subst ho
                      obtain rfl := p7 (hafter ⟨7, .data⟩ (by simp) rfl)
                      have c0 := cell_mono g2 hS.1
                      have P0 := Lib.hid p0
                      have P1 := Lib.hid p1
                      have P2 := Lib.hid p2
                      have P3 := Lib.hid p3
                      have P4 := Lib.hid p4
                      have P5 := Lib.hid p5
                      have P6 := Lib.hid p6
                      have P7 := Lib.hid p7
                      have P8 := Lib.hid p8
                      have P9 := Lib.hid p9
                      have P10 := Lib.hid p10
                      have HS := Lib.hid hS
                      clear hS hLi hafter p0 p1 p2 p3 p4 p5 p6 p7 p8 p9 p10
                      simp only [Act.put, List.setIfInBounds_toArray, List.set_cons_zero, List.set_cons_succ]
                      go_wp2_with fail
                      exact ⟨u82, u83, u84, u85, u86, u87, u88, .pointer (some ⟨gb, go + k, none⟩), .slice ak lk ck, u91, u92, by simp only [Act.put, List.setIfInBounds_toArray, List.set_cons_zero, List.set_cons_succ], HS.out, (fun h => by first | rfl | exact P0.out (by simpa using h)), (fun h => by first | rfl | exact P1.out (by simpa using h)), (fun h => by first | rfl | exact P2.out (by simpa using h)), (fun h => by first | rfl | exact P3.out (by simpa using h)), (fun h => by first | rfl | exact P4.out (by simpa using h)), (fun h => by first | rfl | exact P5.out (by simpa using h)), (fun h => by first | rfl | exact P6.out (by simpa using h)), (fun h => by first | rfl | exact P7.out (by simpa using h)), (fun _ => rfl), (fun h => by first | rfl | exact P9.out (by simpa using h)), (fun h => by first | rfl | exact P10.out (by simpa using h))⟩
                    · simp only [List.getElem?_toArray, List.getElem?_cons_zero, List.getElem?_cons_succ, Option.some.injEq] at ho
                      subst ho
                      obtain rfl := p0 (hafter ⟨0, .data⟩ (by simp) rfl)
                      obtain rfl := p4 (hafter ⟨4, .data⟩ (by simp) rfl)
                      obtain rfl := p8 (hafter ⟨8, .data⟩ (by simp) rfl)
                      have P0 := Lib.hid p0
                      have P1 := Lib.hid p1
                      have P2 := Lib.hid p2
                      have P3 := Lib.hid p3
                      have P4 := Lib.hid p4
                      have P5 := Lib.hid p5
                      have P6 := Lib.hid p6
                      have P7 := Lib.hid p7
                      have P8 := Lib.hid p8
                      have P9 := Lib.hid p9
                      have P10 := Lib.hid p10
                      have HS := Lib.hid hS
                      clear hS hLi hafter p0 p1 p2 p3 p4 p5 p6 p7 p8 p9 p10
                      simp only [Act.put, List.setIfInBounds_toArray, List.set_cons_zero, List.set_cons_succ]
                      go_wp2_with fail
                      refine (apart_any _ _ _ L _ _ _ _ _ _ Gi Gk _ (HPL.out.below HS.out.1) (HZI.out.below HS.out.1) (HZK.out.below HS.out.1) HAP.out).mono ?_
                      rintro e wn ⟨rfl, hb⟩
                      have Hb := Lib.hid hb
                      clear hb
                      go_wp2_with fail
                      exact ⟨.slice la ln lc, u83, u84, u85, .slice ai li ci, u87, u88, u89, .slice ak lk ck, .bool true, u92, by simp only [Act.put, List.setIfInBounds_toArray, List.set_cons_zero, List.set_cons_succ], HS.out.below Hb.out, (fun h => by first | rfl | exact P0.out (by simpa using h)), (fun h => by first | rfl | exact P1.out (by simpa using h)), (fun h => by first | rfl | exact P2.out (by simpa using h)), (fun h => by first | rfl | exact P3.out (by simpa using h)), (fun h => by first | rfl | exact P4.out (by simpa using h)), (fun h => by first | rfl | exact P5.out (by simpa using h)), (fun h => by first | rfl | exact P6.out (by simpa using h)), (fun h => by first | rfl | exact P7.out (by simpa using h)), (fun h => by first | rfl | exact P8.out (by simpa using h)), (fun _ => rfl), (fun h => by first | rfl | exact P10.out (by simpa using h))⟩
                    · simp only [List.getElem?_toArray, List.getElem?_cons_zero, List.getElem?_cons_succ, Option.some.injEq] at ho
                      subst ho
                      obtain rfl := p9 (hafter ⟨9, .data⟩ (by simp) rfl)
                      have P0 := Lib.hid p0
                      have P1 := Lib.hid p1
                      have P2 := Lib.hid p2
                      have P3 := Lib.hid p3
                      have P4 := Lib.hid p4
                      have P5 := Lib.hid p5
                      have P6 := Lib.hid p6
                      have P7 := Lib.hid p7
                      have P8 := Lib.hid p8
                      have P9 := Lib.hid p9
                      have P10 := Lib.hid p10
                      have HS := Lib.hid hS
                      clear hS hLi hafter p0 p1 p2 p3 p4 p5 p6 p7 p8 p9 p10
                      simp only [Act.put, List.setIfInBounds_toArray, List.set_cons_zero, List.set_cons_succ]
                      go_wp2_with fail
                      exact ⟨u82, u83, u84, u85, u86, u87, u88, u89, u90, .bool true, .bool false, by simp only [Act.put, List.setIfInBounds_toArray, List.set_cons_zero, List.set_cons_succ], HS.out, (fun h => by first | rfl | exact P0.out (by simpa using h)), (fun h => by first | rfl | exact P1.out (by simpa using h)), (fun h => by first | rfl | exact P2.out (by simpa using h)), (fun h => by first | rfl | exact P3.out (by simpa using h)), (fun h => by first | rfl | exact P4.out (by simpa using h)), (fun h => by first | rfl | exact P5.out (by simpa using h)), (fun h => by first | rfl | exact P6.out (by simpa using h)), (fun h => by first | rfl | exact P7.out (by simpa using h)), (fun h => by first | rfl | exact P8.out (by simpa using h)), (fun h => by first | rfl | exact P9.out (by simpa using h)), (fun _ => rfl)⟩
                  · intro Ls a0 wq hall hJ
                    obtain ⟨u82, u83, u84, u85, u86, u87, u88, u89, u90, u91, u92, rfl, hS, p0, p1, p2, p3, p4, p5, p6, p7, p8, p9, p10⟩ := hJ
                    replace p0 := p0 (hall 0 (by decide))
                    replace p1 := p1 (hall 1 (by decide))
                    replace p2 := p2 (hall 2 (by decide))
                    replace p3 := p3 (hall 3 (by decide))
                    replace p4 := p4 (hall 4 (by decide))
                    replace p5 := p5 (hall 5 (by decide))
                    replace p6 := p6 (hall 6 (by decide))
                    replace p7 := p7 (hall 7 (by decide))
                    replace p8 := p8 (hall 8 (by decide))
                    replace p9 := p9 (hall 9 (by decide))
                    replace p10 := p10 (hall 10 (by decide))
                    have HBz := Lib.hid (HBK.out.trans (hS.1.mono hsk))
                    subst p10
                    clear hall hS p0 p1 p2 p3 p4 p5 p6 p7 p8 p9
                    simp only [Act.put, List.setIfInBounds_toArray, List.set_cons_zero, List.set_cons_succ]
                    go_wp2_with fail
                    go_roundw
                    case rel => exact ⟨k + 1, by omega, by go_num, HBz.out⟩
                    case measure => simp [intOf]; omega
                · obtain rfl : k = i := by omega
                  have HBF := Lib.hid (HB4.out.trans (hbel.mono hs4))
                  clear hbel
                  go_wp2_with fail
                  go_roundw
                  case rel => exact ⟨k + 1, p + li, r + lc2, by omega, rfl, rfl, by go_num, HP2.out, HR2.out, HBF.out⟩
                  case measure => simp [intOf]; omega
            · obtain rfl : i = ng := by omega
              have HPF := Lib.hid (show p = (distR ids).length by rw [← HIT.out, ← HP.out, List.take_of_length_le (by rw [HNG.out]; exact Nat.le_refl _)])
              have HRF := Lib.hid (show r = ne by rw [← HWI.out, ← HR.out, List.take_of_length_le (by rw [HNG.out]; exact Nat.le_refl _)])
              replace HZ := Lib.hid (HZ.out.below hbel)
              have HBX := Lib.hid (HBG.out.trans (hbel.mono HBG.out.size))
              clear hbel
              obtain rfl := HRF.out
              go_wp2_with fail
              refine (xdistinct_any _ _ _ ids _ HZ.out (by omega)).mono ?_
              rintro e w5 ⟨v5, rfl, ho, hb⟩
              obtain ⟨a5, c5, rfl, _⟩ := ho.zl
              rw [← HPF.out]
              have HBY := Lib.hid (HBX.out.trans (hb.mono HBX.out.size))
              clear ho hb
              have e1 : ((p : Int) == (p : Int)) = true := by simp
              have e2 : ((r : Int) == (r : Int)) = true := by simp
              go_wp2_with fail
              refine (awake_any _).mono ?_
              rintro e w6 ⟨rfl, hb⟩
              have HBZ := Lib.hid (HBY.out.trans (hb.mono HBY.out.size))
              clear hb
              go_wp2_with fail
              go_ret
              exact ⟨rfl, HBZ.out⟩
        · have hf0 : ((ne : Int) == 0) = false := by simp; omega
          have hf1 : ¬ (ne : Int) = 0 := by omega
          go_wp2_with fail
          refine (groups_any _ _ _ L _ _ _ ids _ HPL.out HL64.out HZ.out H64.out (by omega) (by omega)).mono ?_
          rintro e w3 ⟨v3, G, rfl, hG, hgn, hb⟩
          obtain ⟨ga, gc, rfl, hgl⟩ := hgn.gl
          have HG := Lib.hid hG
          clear hG hgn
          have HGL := Lib.hid hgl
          replace HPL := Lib.hid (HPL.out.below hb)
          replace HZ := Lib.hid (HZ.out.below hb)
          replace HS1 := Lib.hid (HS1.out.below hb)
          replace HB := Lib.hid (HB.out.trans (hb.mono HB.out.size))
          clear hb hgl
          have HIT := Lib.hid (show sumL List.length G = (distR ids).length from HG.out.items (fun x => .refl x) (distR_spec ids).1)
          have HWI := Lib.hid (show sumL (fun g => (cfl (normR L) g).length) G = ne by rw [← HNE.out]; exact HG.out.within)
          have hdl : (distR ids).length ≤ m := by rw [← HZN.out, ← rise_distR]; exact rise_len ids
          obtain ⟨ng, hng⟩ : ∃ k, G.length = k := ⟨_, rfl⟩
          have HNG := Lib.hid hng
          rw [hng] at HGL ⊢
          have hgc := HGL.out.2.1
          have hgm := HGL.out.2.2.1
          unfold maxLen at hgm
          clear hng
          have HBG := HB
          clear HS1
          go_wp2_with fail
          go_loopw [11, 12, 13] (fun it wi i wr => ∃ (q p r : Nat), q ≤ ng ∧ it = .int .i64 p ∧ wi = .int .i64 r ∧ i = .int .i64 q ∧ sumL List.length (G.take q) = p ∧ sumL (fun g => (cfl (normR L) g).length) (G.take q) = r ∧ Below w3.heap.size w3 wr) (fun _ _ i _ => ng - (intOf i).toNat)
          case atStart => exact ⟨0, 0, 0, Nat.zero_le _, rfl, rfl, rfl, rfl, rfl, Below.refl _ _⟩
          case round =>
            obtain ⟨i, p, r, hin, rfl, rfl, rfl, hp, hr, hbel⟩ := hrel
            have HP := Lib.hid hp
            have HR := Lib.hid hr
            have hp2 : p ≤ m := by rw [← hp]; exact Nat.le_trans (sumL_mono _ _ _) (by rw [HIT.out]; exact hdl)
            have hr2 : r ≤ ne := by rw [← hr, ← HWI.out]; exact sumL_mono _ _ _
            have HBR := Lib.hid hbel
            have hsr := hbel.size
            clear hp hr
            by_cases hig : i < ng
            · obtain ⟨gb, go, rfl, hgc2⟩ := (HGL.out.below hbel).2.2.2 (by omega)
              have HGC := Lib.hid hgc2
              obtain ⟨ai, ci, g1, zi⟩ := hgc2 i hig
              have hiG : i < G.length := by have := HNG.out; omega
              have egi : G.getD i [] = G[i] := by simp [List.getD, hiG]
              rw [egi] at g1 zi
              obtain ⟨Gi, hGi⟩ : ∃ g, G[i] = g := ⟨_, rfl⟩
              rw [hGi] at g1 zi
              have HGI := Lib.hid hGi
              obtain ⟨li, hli⟩ : ∃ k, Gi.length = k := ⟨_, rfl⟩
              have HLI := Lib.hid hli
              rw [hli] at g1 zi
              have HZI := Lib.hid zi
              have HI64 := Lib.hid (show ∀ y ∈ Gi, W64 y from fun y hy => H64.out y (((distR_spec ids).2 y).1 ((HG.out.2.1 Gi (by rw [← hGi]; exact List.getElem_mem hiG) y hy y).1 hy).1))
              have HP2 := Lib.hid (show sumL List.length (G.take (i + 1)) = p + li by rw [sumL_snoc _ _ _ hiG, HP.out, hGi, hli])
              have hp3 : p + li ≤ m := by rw [← HP2.out]; exact Nat.le_trans (sumL_mono _ _ _) (by rw [HIT.out]; exact hdl)
              obtain ⟨lc2, hlc2⟩ : ∃ k, (cfl (normR L) Gi).length = k := ⟨_, rfl⟩
              have HLC := Lib.hid hlc2
              have HR2 := Lib.hid (show sumL (fun g => (cfl (normR L) g).length) (G.take (i + 1)) = r + lc2 by rw [sumL_snoc _ _ _ hiG, HR.out, hGi, hlc2])
              have hr3 : r + lc2 ≤ ne := by rw [← HR2.out, ← HWI.out]; exact sumL_mono _ _ _
              have HPR := Lib.hid (HPL.out.below hbel)
              clear hgc2 zi egi hGi hli hlc2 hbel
              have hix0 : (0 : Int) ≤ (i : Int) := by omega
              have hix1 : (i : Int) < (ng : Int) := by omega
              have wp : IntKind.i64.wrap ((p : Int) + (li : Int)) = ((p + li : Nat) : Int) := by rw [IntKind.wrap_i64]; omega
              have wr' : IntKind.i64.wrap ((r : Int) + (lc2 : Int)) = ((r + lc2 : Nat) : Int) := by rw [IntKind.wrap_i64]; omega
              obtain ⟨wi, hwi⟩ : ∃ W, W = wr := ⟨_, rfl⟩
              subst hwi
              go_wp2_with fail
              refine (conflicts_any _ _ _ L _ _ _ Gi _ HPR.out HL64.out HZI.out HI64.out (by omega) (by omega)).mono ?_
              rintro e w4 ⟨v4, rfl, ho, hb⟩
              obtain ⟨a4, c4, rfl, hp⟩ := ho.pr
              rw [HLC.out] at hp ⊢
              clear ho hp
              have HBI := Lib.hid hb
              have HB4 := Lib.hid (HBR.out.trans (hb.mono hsr))
              have hs4 := HB4.out.size
              replace g1 := cell_mono g1 hb
              replace HZI := Lib.hid (HZI.out.below hb)
              clear hb HPR
              go_wp2_with fail
              go_loopw [14] (fun k wr => ∃ t : Nat, t ≤ i ∧ k = .int .i64 t ∧ Below w4.heap.size w4 wr) (fun k _ => i - (intOf k).toNat)
              case atStart => exact ⟨0, Nat.zero_le _, rfl, Below.refl _ _⟩
              case round =>
                obtain ⟨k, hk, rfl, hbel⟩ := hrel
                have HBK := Lib.hid hbel
                have hsk := hbel.size
                by_cases hki : k < i
                · obtain ⟨ak, ck, g2, zk⟩ := HGC.out k (by omega)
                  have hkG : k < G.length := by have := HNG.out; omega
                  have egk : G.getD k [] = G[k] := by simp [List.getD, hkG]
                  rw [egk] at g2 zk
                  obtain ⟨Gk, hGk⟩ : ∃ g, G[k] = g := ⟨_, rfl⟩
                  rw [hGk] at g2 zk
                  obtain ⟨lk, hlk⟩ : ∃ k, Gk.length = k := ⟨_, rfl⟩
                  rw [hlk] at g2 zk
                  have HAP := Lib.hid (show ∀ x ∈ Gi, ∀ y ∈ Gk, x ≠ y ∧ areP L x y = false from fun x hx y hy => HG.out.apart hiG hkG (by omega) x (by rw [HGI.out]; exact hx) y (by rw [hGk]; exact hy))
                  have hw4 : Below wi.heap.size wi wr := (show Below wi.heap.size wi w4 from HBI.out).trans (hbel.mono HBI.out.size)
                  replace g2 := cell_mono g2 hw4
                  have HZK := Lib.hid (zk.below hw4)
                  replace g1 := cell_mono g1 hbel
                  replace HZI := Lib.hid (HZI.out.below hbel)
                  replace HPL := Lib.hid (HPL.out.below (HB4.out.trans (hbel.mono hs4)))
                  clear egk hGk hlk zk hw4 hbel
                  have hkx0 : (0 : Int) ≤ (k : Int) := by omega
                  have hkx1 : (k : Int) < (ng : Int) := by omega
                  have hkx2 : (k : Int) < (i : Int) := by omega
                  go_wp2_with fail
                  refine region_name fun W1 hW => ?_
                  have HBw := Lib.hid (show Below wr.heap.size wr W1 by rw [← hW]; (repeat' (first | with_reducible exact Below.refl _ _ | (with_reducible refine Below.alloc ?_ ?_ _; rotate_left; (focus (first | omega | (simp; done) | (simp; omega)))) | with_reducible apply Below.drew | (with_reducible refine Below.setCell ?_ ?_ _; rotate_left; (focus (first | omega | (simp; done) | (simp; omega)))))))
                  clear hW
                  replace g1 := cell_mono g1 HBw.out
                  replace g2 := cell_mono g2 HBw.out
                  replace HPL := Lib.hid (HPL.out.below HBw.out)
                  replace HZI := Lib.hid (HZI.out.below HBw.out)
                  replace HZK := Lib.hid (HZK.out.below HBw.out)
                  replace HBK := Lib.hid (HBK.out.trans (HBw.out.mono hsk))
                  replace hsk := HBK.out.size
                  refine region_inv2 (by kernel_rfl) (InJ la ln lc gb go i k ng gc ai li ci ak lk ck (W1)) ?_ ?_ ?_ ?_
                  · exact ⟨u82, u83, u84, u85, u86, u87, u88, u89, u90, u91, u92, by simp only [Act.put, List.setIfInBounds_toArray, List.set_cons_zero, List.set_cons_succ], Since.drawn _, (fun h => by cases h), (fun h => by cases h), (fun h => by cases h), (fun h => by cases h), (fun h => by cases h), (fun h => by cases h), (fun h => by cases h), (fun h => by cases h), (fun h => by cases h), (fun h => by cases h), (fun h => by cases h)⟩
                  · exact acyc_spec (by kernel_rfl)
                  · intro Ls a0 wq i o ho hLi hafter hJ
                    obtain ⟨u82, u83, u84, u85, u86, u87, u88, u89, u90, u91, u92, rfl, hS, p0, p1, p2, p3, p4, p5, p6, p7, p8, p9, p10⟩ := hJ
                    have hi : i < 11 := (Array.getElem?_eq_some_iff.1 ho).1
                    obtain rfl | rfl | rfl | rfl | rfl | rfl | rfl | rfl | rfl | rfl | rfl : i = 0 ∨ i = 1 ∨ i = 2 ∨ i = 3 ∨ i = 4 ∨ i = 5 ∨ i = 6 ∨ i = 7 ∨ i = 8 ∨ i = 9 ∨ i = 10 := by omega
                    · simp only [List.getElem?_toArray, List.getElem?_cons_zero, Option.some.injEq] at ho
                      subst ho
                      have P0 := Lib.hid p0
                      have P1 := Lib.hid p1
                      have P2 := Lib.hid p2
                      have P3 := Lib.hid p3
                      have P4 := Lib.hid p4
                      have P5 := Lib.hid p5
                      have P6 := Lib.hid p6
                      have P7 := Lib.hid p7
                      have P8 := Lib.hid p8
                      have P9 := Lib.hid p9
                      have P10 := Lib.hid p10
                      have HS := Lib.hid hS
                      clear hS hLi hafter p0 p1 p2 p3 p4 p5 p6 p7 p8 p9 p10
                      simp only [Act.put, List.setIfInBounds_toArray, List.set_cons_zero, List.set_cons_succ]
                      go_wp2_with fail
                      exact ⟨.slice la ln lc, u83, u84, u85, u86, u87, u88, u89, u90, u91, u92, by simp only [Act.put, List.setIfInBounds_toArray, List.set_cons_zero, List.set_cons_succ], HS.out, (fun _ => rfl), (fun h => by first | rfl | exact P1.out (by simpa using h)), (fun h => by first | rfl | exact P2.out (by simpa using h)), (fun h => by first | rfl | exact P3.out (by simpa using h)), (fun h => by first | rfl | exact P4.out (by simpa using h)), (fun h => by first | rfl | exact P5.out (by simpa using h)), (fun h => by first | rfl | exact P6.out (by simpa using h)), (fun h => by first | rfl | exact P7.out (by simpa using h)), (fun h => by first | rfl | exact P8.out (by simpa using h)), (fun h => by first | rfl | exact P9.out (by simpa using h)), (fun h => by first | rfl | exact P10.out (by simpa using h))⟩
                    · simp only [List.getElem?_toArray, List.getElem?_cons_zero, List.getElem?_cons_succ, Option.some.injEq] at ho
                      subst ho
                      have P0 := Lib.hid p0
                      have P1 := Lib.hid p1
                      have P2 := Lib.hid p2
                      have P3 := Lib.hid p3
                      have P4 := Lib.hid p4
                      have P5 := Lib.hid p5
                      have P6 := Lib.hid p6
                      have P7 := Lib.hid p7
                      have P8 := Lib.hid p8
                      have P9 := Lib.hid p9
                      have P10 := Lib.hid p10
                      have HS := Lib.hid hS
                      clear hS hLi hafter p0 p1 p2 p3 p4 p5 p6 p7 p8 p9 p10
                      simp only [Act.put, List.setIfInBounds_toArray, List.set_cons_zero, List.set_cons_succ]
                      go_wp2_with fail
                      exact ⟨u82, .slice (some ⟨gb, go, none⟩) ng gc, u84, u85, u86, u87, u88, u89, u90, u91, u92, by simp only [Act.put, List.setIfInBounds_toArray, List.set_cons_zero, List.set_cons_succ], HS.out, (fun h => by first | rfl | exact P0.out (by simpa using h)), (fun _ => rfl), (fun h => by first | rfl | exact P2.out (by simpa using h)), (fun h => by first | rfl | exact P3.out (by simpa using h)), (fun h => by first | rfl | exact P4.out (by simpa using h)), (fun h => by first | rfl | exact P5.out (by simpa using h)), (fun h => by first | rfl | exact P6.out (by simpa using h)), (fun h => by first | rfl | exact P7.out (by simpa using h)), (fun h => by first | rfl | exact P8.out (by simpa using h)), (fun h => by first | rfl | exact P9.out (by simpa using h)), (fun h => by first | rfl | exact P10.out (by simpa using h))⟩
                    · simp only [List.getElem?_toArray, List.getElem?_cons_zero, List.getElem?_cons_succ, Option.some.injEq] at ho
                      subst ho
                      have P0 := Lib.hid p0
                      have P1 := Lib.hid p1
                      have P2 := Lib.hid p2
                      have P3 := Lib.hid p3
                      have P4 := Lib.hid p4
                      have P5 := Lib.hid p5
                      have P6 := Lib.hid p6
                      have P7 := Lib.hid p7
                      have P8 := Lib.hid p8
                      have P9 := Lib.hid p9
                      have P10 := Lib.hid p10
                      have HS := Lib.hid hS
                      clear hS hLi hafter p0 p1 p2 p3 p4 p5 p6 p7 p8 p9 p10
                      simp only [Act.put, List.setIfInBounds_toArray, List.set_cons_zero, List.set_cons_succ]
                      go_wp2_with fail
                      exact ⟨u82, u83, .int .i64 (i : Nat), u85, u86, u87, u88, u89, u90, u91, u92, by simp only [Act.put, List.setIfInBounds_toArray, List.set_cons_zero, List.set_cons_succ], HS.out, (fun h => by first | rfl | exact P0.out (by simpa using h)), (fun h => by first | rfl | exact P1.out (by simpa using h)), (fun _ => rfl), (fun h => by first | rfl | exact P3.out (by simpa using h)), (fun h => by first | rfl | exact P4.out (by simpa using h)), (fun h => by first | rfl | exact P5.out (by simpa using h)), (fun h => by first | rfl | exact P6.out (by simpa using h)), (fun h => by first | rfl | exact P7.out (by simpa using h)), (fun h => by first | rfl | exact P8.out (by simpa using h)), (fun h => by first | rfl | exact P9.out (by simpa using h)), (fun h => by first | rfl | exact P10.out (by simpa using h))⟩
                    · simp only [List.getElem?_toArray, List.getElem?_cons_zero, List.getElem?_cons_succ, Option.some.injEq] at ho
                      subst ho
                      obtain rfl := p1 (hafter ⟨1, .data⟩ (by simp) rfl)
                      obtain rfl := p2 (hafter ⟨2, .data⟩ (by simp) rfl)
                      have P0 := Lib.hid p0
                      have P1 := Lib.hid p1
                      have P2 := Lib.hid p2
                      have P3 := Lib.hid p3
                      have P4 := Lib.hid p4
                      have P5 := Lib.hid p5
                      have P6 := Lib.hid p6
                      have P7 := Lib.hid p7
                      have P8 := Lib.hid p8
                      have P9 := Lib.hid p9
                      have P10 := Lib.hid p10
                      have HS := Lib.hid hS
                      clear hS hLi hafter p0 p1 p2 p3 p4 p5 p6 p7 p8 p9 p10
                      simp only [Act.put, List.setIfInBounds_toArray, List.set_cons_zero, List.set_cons_succ]
                      go_wp2_with fail
                      exact ⟨u82, .slice (some ⟨gb, go, none⟩) ng gc, .int .i64 (i : Nat), .pointer (some ⟨gb, go + i, none⟩), u86, u87, u88, u89, u90, u91, u92, by simp only [Act.put, List.setIfInBounds_toArray, List.set_cons_zero, List.set_cons_succ], HS.out, (fun h => by first | rfl | exact P0.out (by simpa using h)), (fun h => by first | rfl | exact P1.out (by simpa using h)), (fun h => by first | rfl | exact P2.out (by simpa using h)), (fun _ => rfl), (fun h => by first | rfl | exact P4.out (by simpa using h)), (fun h => by first | rfl | exact P5.out (by simpa using h)), (fun h => by first | rfl | exact P6.out (by simpa using h)), (fun h => by first | rfl | exact P7.out (by simpa using h)), (fun h => by first | rfl | exact P8.out (by simpa using h)), (fun h => by first | rfl | exact P9.out (by simpa using h)), (fun h => by first | rfl | exact P10.out (by simpa using h))⟩
                    · simp only [List.getElem?_toArray, List.getElem?_cons_zero, List.getElem?_cons_succ, Option.some.injEq] at ho
                      subst ho
                      obtain rfl := p3 (hafter ⟨3, .data⟩ (by simp) rfl)
                      have c0 := cell_mono g1 hS.1
                      have P0 := Lib.hid p0
                      have P1 := Lib.hid p1
                      have P2 := Lib.hid p2
                      have P3 := Lib.hid p3
                      have P4 := Lib.hid p4
                      have P5 := Lib.hid p5
                      have P6 := Lib.hid p6
                      have P7 := Lib.hid p7
                      have P8 := Lib.hid p8
                      have P9 := Lib.hid p9
                      have P10 := Lib.hid p10
                      have HS := Lib.hid hS
                      clear hS hLi hafter p0 p1 p2 p3 p4 p5 p6 p7 p8 p9 p10
                      simp only [Act.put, List.setIfInBounds_toArray, List.set_cons_zero, List.set_cons_succ]
                      go_wp2_with fail
                      exact ⟨u82, u83, u84, .pointer (some ⟨gb, go + i, none⟩), .slice ai li ci, u87, u88, u89, u90, u91, u92, by simp only [Act.put, List.setIfInBounds_toArray, List.set_cons_zero, List.set_cons_succ], HS.out, (fun h => by first | rfl | exact P0.out (by simpa using h)), (fun h => by first | rfl | exact P1.out (by simpa using h)), (fun h => by first | rfl | exact P2.out (by simpa using h)), (fun h => by first | rfl | exact P3.out (by simpa using h)), (fun _ => rfl), (fun h => by first | rfl | exact P5.out (by simpa using h)), (fun h => by first | rfl | exact P6.out (by simpa using h)), (fun h => by first | rfl | exact P7.out (by simpa using h)), (fun h => by first | rfl | exact P8.out (by simpa using h)), (fun h => by first | rfl | exact P9.out (by simpa using h)), (fun h => by first | rfl | exact P10.out (by simpa using h))⟩
                    · simp only [List.getElem?_toArray, List.getElem?_cons_zero, List.getElem?_cons_succ, Option.some.injEq] at ho
                      subst ho
                      have P0 := Lib.hid p0
                      have P1 := Lib.hid p1
                      have P2 := Lib.hid p2
                      have P3 := Lib.hid p3
                      have P4 := Lib.hid p4
                      have P5 := Lib.hid p5
                      have P6 := Lib.hid p6
                      have P7 := Lib.hid p7
                      have P8 := Lib.hid p8
                      have P9 := Lib.hid p9
                      have P10 := Lib.hid p10
                      have HS := Lib.hid hS
                      clear hS hLi hafter p0 p1 p2 p3 p4 p5 p6 p7 p8 p9 p10
                      simp only [Act.put, List.setIfInBounds_toArray, List.set_cons_zero, List.set_cons_succ]
                      go_wp2_with fail
                      exact ⟨u82, u83, u84, u85, u86, .slice (some ⟨gb, go, none⟩) ng gc, u88, u89, u90, u91, u92, by simp only [Act.put, List.setIfInBounds_toArray, List.set_cons_zero, List.set_cons_succ], HS.out, (fun h => by first | rfl | exact P0.out (by simpa using h)), (fun h => by first | rfl | exact P1.out (by simpa using h)), (fun h => by first | rfl | exact P2.out (by simpa using h)), (fun h => by first | rfl | exact P3.out (by simpa using h)), (fun h => by first | rfl | exact P4.out (by simpa using h)), (fun _ => rfl), (fun h => by first | rfl | exact P6.out (by simpa using h)), (fun h => by first | rfl | exact P7.out (by simpa using h)), (fun h => by first | rfl | exact P8.out (by simpa using h)), (fun h => by first | rfl | exact P9.out (by simpa using h)), (fun h => by first | rfl | exact P10.out (by simpa using h))⟩
                    · simp only [List.getElem?_toArray, List.getElem?_cons_zero, List.getElem?_cons_succ, Option.some.injEq] at ho
                      subst ho
                      have P0 := Lib.hid p0
                      have P1 := Lib.hid p1
                      have P2 := Lib.hid p2
                      have P3 := Lib.hid p3
                      have P4 := Lib.hid p4
                      have P5 := Lib.hid p5
                      have P6 := Lib.hid p6
                      have P7 := Lib.hid p7
                      have P8 := Lib.hid p8
                      have P9 := Lib.hid p9
                      have P10 := Lib.hid p10
                      have HS := Lib.hid hS
                      clear hS hLi hafter p0 p1 p2 p3 p4 p5 p6 p7 p8 p9 p10
                      simp only [Act.put, List.setIfInBounds_toArray, List.set_cons_zero, List.set_cons_succ]
                      go_wp2_with fail
                      exact ⟨u82, u83, u84, u85, u86, u87, .int .i64 (k : Nat), u89, u90, u91, u92, by simp only [Act.put, List.setIfInBounds_toArray, List.set_cons_zero, List.set_cons_succ], HS.out, (fun h => by first | rfl | exact P0.out (by simpa using h)), (fun h => by first | rfl | exact P1.out (by simpa using h)), (fun h => by first | rfl | exact P2.out (by simpa using h)), (fun h => by first | rfl | exact P3.out (by simpa using h)), (fun h => by first | rfl | exact P4.out (by simpa using h)), (fun h => by first | rfl | exact P5.out (by simpa using h)), (fun _ => rfl), (fun h => by first | rfl | exact P7.out (by simpa using h)), (fun h => by first | rfl | exact P8.out (by simpa using h)), (fun h => by first | rfl | exact P9.out (by simpa using h)), (fun h => by first | rfl | exact P10.out (by simpa using h))⟩
                    · simp only [List.getElem?_toArray, List.getElem?_cons_zero, List.getElem?_cons_succ, Option.some.injEq] at ho
                      subst ho
                      obtain rfl := p5 (hafter ⟨5, .data⟩ (by simp) rfl)
                      obtain rfl := p6 (hafter ⟨6, .data⟩ (by simp) rfl)
                      have P0 := Lib.hid p0
                      have P1 := Lib.hid p1
                      have P2 := Lib.hid p2
                      have P3 := Lib.hid p3
                      have P4 := Lib.hid p4
                      have P5 := Lib.hid p5
                      have P6 := Lib.hid p6
                      have P7 := Lib.hid p7
                      have P8 := Lib.hid p8
                      have P9 := Lib.hid p9
                      have P10 := Lib.hid p10
                      have HS := Lib.hid hS
                      clear hS hLi hafter p0 p1 p2 p3 p4 p5 p6 p7 p8 p9 p10
                      simp only [Act.put, List.setIfInBounds_toArray, List.set_cons_zero, List.set_cons_succ]
                      go_wp2_with fail
                      exact ⟨u82, u83, u84, u85, u86, .slice (some ⟨gb, go, none⟩) ng gc, .int .i64 (k : Nat), .pointer (some ⟨gb, go + k, none⟩), u90, u91, u92, by simp only [Act.put, List.setIfInBounds_toArray, List.set_cons_zero, List.set_cons_succ], HS.out, (fun h => by first | rfl | exact P0.out (by simpa using h)), (fun h => by first | rfl | exact P1.out (by simpa using h)), (fun h => by first | rfl | exact P2.out (by simpa using h)), (fun h => by first | rfl | exact P3.out (by simpa using h)), (fun h => by first | rfl | exact P4.out (by simpa using h)), (fun h => by first | rfl | exact P5.out (by simpa using h)), (fun h => by first | rfl | exact P6.out (by simpa using h)), (fun _ => rfl), (fun h => by first | rfl | exact P8.out (by simpa using h)), (fun h => by first | rfl | exact P9.out (by simpa using h)), (fun h => by first | rfl | exact P10.out (by simpa using h))⟩
                    · simp only [List.getElem?_toArray, List.getElem?_cons_zero, List.getElem?_cons_succ, Option.some.injEq] at ho
                      subst ho
                      obtain rfl := p7 (hafter ⟨7, .data⟩ (by simp) rfl)
                      have c0 := cell_mono g2 hS.1
                      have P0 := Lib.hid p0
                      have P1 := Lib.hid p1
                      have P2 := Lib.hid p2
                      have P3 := Lib.hid p3
                      have P4 := Lib.hid p4
                      have P5 := Lib.hid p5
                      have P6 := Lib.hid p6
                      have P7 := Lib.hid p7
                      have P8 := Lib.hid p8
                      have P9 := Lib.hid p9
                      have P10 := Lib.hid p10
                      have HS := Lib.hid hS
                      clear hS hLi hafter p0 p1 p2 p3 p4 p5 p6 p7 p8 p9 p10
                      simp only [Act.put, List.setIfInBounds_toArray, List.set_cons_zero, List.set_cons_succ]
                      go_wp2_with fail
                      exact ⟨u82, u83, u84, u85, u86, u87, u88, .pointer (some ⟨gb, go + k, none⟩), .slice ak lk ck, u91, u92, by simp only [Act.put, List.setIfInBounds_toArray, List.set_cons_zero, List.set_cons_succ], HS.out, (fun h => by first | rfl | exact P0.out (by simpa using h)), (fun h => by first | rfl | exact P1.out (by simpa using h)), (fun h => by first | rfl | exact P2.out (by simpa using h)), (fun h => by first | rfl | exact P3.out (by simpa using h)), (fun h => by first | rfl | exact P4.out (by simpa using h)), (fun h => by first | rfl | exact P5.out (by simpa using h)), (fun h => by first | rfl | exact P6.out (by simpa using h)), (fun h => by first | rfl | exact P7.out (by simpa using h)), (fun _ => rfl), (fun h => by first | rfl | exact P9.out (by simpa using h)), (fun h => by first | rfl | exact P10.out (by simpa using h))⟩
                    · simp only [List.getElem?_toArray, List.getElem?_cons_zero, List.getElem?_cons_succ, Option.some.injEq] at ho
                      subst ho
                      obtain rfl := p0 (hafter ⟨0, .data⟩ (by simp) rfl)
                      obtain rfl := p4 (hafter ⟨4, .data⟩ (by simp) rfl)
                      obtain rfl := p8 (hafter ⟨8, .data⟩ (by simp) rfl)
                      have P0 := Lib.hid p0
                      have P1 := Lib.hid p1
                      have P2 := Lib.hid p2
                      have P3 := Lib.hid p3
                      have P4 := Lib.hid p4
                      have P5 := Lib.hid p5
                      have P6 := Lib.hid p6
                      have P7 := Lib.hid p7
                      have P8 := Lib.hid p8
                      have P9 := Lib.hid p9
                      have P10 := Lib.hid p10
                      have HS := Lib.hid hS
                      clear hS hLi hafter p0 p1 p2 p3 p4 p5 p6 p7 p8 p9 p10
                      simp only [Act.put, List.setIfInBounds_toArray, List.set_cons_zero, List.set_cons_succ]
                      go_wp2_with fail
                      refine (apart_any _ _ _ L _ _ _ _ _ _ Gi Gk _ (HPL.out.below HS.out.1) (HZI.out.below HS.out.1) (HZK.out.below HS.out.1) HAP.out).mono ?_
                      rintro e wn ⟨rfl, hb⟩
                      have Hb := Lib.hid hb
                      clear hb
                      go_wp2_with fail
                      exact ⟨.slice la ln lc, u83, u84, u85, .slice ai li ci, u87, u88, u89, .slice ak lk ck, .bool true, u92, by simp only [Act.put, List.setIfInBounds_toArray, List.set_cons_zero, List.set_cons_succ], HS.out.below Hb.out, (fun h => by first | rfl | exact P0.out (by simpa using h)), (fun h => by first | rfl | exact P1.out (by simpa using h)), (fun h => by first | rfl | exact P2.out (by simpa using h)), (fun h => by first | rfl | exact P3.out (by simpa using h)), (fun h => by first | rfl | exact P4.out (by simpa using h)), (fun h => by first | rfl | exact P5.out (by simpa using h)), (fun h => by first | rfl | exact P6.out (by simpa using h)), (fun h => by first | rfl | exact P7.out (by simpa using h)), (fun h => by first | rfl | exact P8.out (by simpa using h)), (fun _ => rfl), (fun h => by first | rfl | exact P10.out (by simpa using h))⟩
                    · simp only [List.getElem?_toArray, List.getElem?_cons_zero, List.getElem?_cons_succ, Option.some.injEq] at ho
                      subst ho
                      obtain rfl := p9 (hafter ⟨9, .data⟩ (by simp) rfl)
                      have P0 := Lib.hid p0
                      have P1 := Lib.hid p1
                      have P2 := Lib.hid p2
                      have P3 := Lib.hid p3
                      have P4 := Lib.hid p4
                      have P5 := Lib.hid p5
                      have P6 := Lib.hid p6
                      have P7 := Lib.hid p7
                      have P8 := Lib.hid p8
                      have P9 := Lib.hid p9
                      have P10 := Lib.hid p10
                      have HS := Lib.hid hS
                      clear hS hLi hafter p0 p1 p2 p3 p4 p5 p6 p7 p8 p9 p10
                      simp only [Act.put, List.setIfInBounds_toArray, List.set_cons_zero, List.set_cons_succ]
                      go_wp2_with fail
                      exact ⟨u82, u83, u84, u85, u86, u87, u88, u89, u90, .bool true, .bool false, by simp only [Act.put, List.setIfInBounds_toArray, List.set_cons_zero, List.set_cons_succ], HS.out, (fun h => by first | rfl | exact P0.out (by simpa using h)), (fun h => by first | rfl | exact P1.out (by simpa using h)), (fun h => by first | rfl | exact P2.out (by simpa using h)), (fun h => by first | rfl | exact P3.out (by simpa using h)), (fun h => by first | rfl | exact P4.out (by simpa using h)), (fun h => by first | rfl | exact P5.out (by simpa using h)), (fun h => by first | rfl | exact P6.out (by simpa using h)), (fun h => by first | rfl | exact P7.out (by simpa using h)), (fun h => by first | rfl | exact P8.out (by simpa using h)), (fun h => by first | rfl | exact P9.out (by simpa using h)), (fun _ => rfl)⟩
                  · intro Ls a0 wq hall hJ
                    obtain ⟨u82, u83, u84, u85, u86, u87, u88, u89, u90, u91, u92, rfl, hS, p0, p1, p2, p3, p4, p5, p6, p7, p8, p9, p10⟩ := hJ
                    replace p0 := p0 (hall 0 (by decide))
                    replace p1 := p1 (hall 1 (by decide))
                    replace p2 := p2 (hall 2 (by decide))
                    replace p3 := p3 (hall 3 (by decide))
                    replace p4 := p4 (hall 4 (by decide))
                    replace p5 := p5 (hall 5 (by decide))
                    replace p6 := p6 (hall 6 (by decide))
                    replace p7 := p7 (hall 7 (by decide))
                    replace p8 := p8 (hall 8 (by decide))
                    replace p9 := p9 (hall 9 (by decide))
                    replace p10 := p10 (hall 10 (by decide))
                    have HBz := Lib.hid (HBK.out.trans (hS.1.mono hsk))
                    subst p10
                    clear hall hS p0 p1 p2 p3 p4 p5 p6 p7 p8 p9
                    simp only [Act.put, List.setIfInBounds_toArray, List.set_cons_zero, List.set_cons_succ]
                    go_wp2_with fail
                    go_roundw
                    case rel => exact ⟨k + 1, by omega, by go_num, HBz.out⟩
                    case measure => simp [intOf]; omega
                · obtain rfl : k = i := by omega
                  have HBF := Lib.hid (HB4.out.trans (hbel.mono hs4))
                  clear hbel
                  go_wp2_with fail
                  go_roundw
                  case rel => exact ⟨k + 1, p + li, r + lc2, by omega, rfl, rfl, by go_num, HP2.out, HR2.out, HBF.out⟩
                  case measure => simp [intOf]; omega
            · obtain rfl : i = ng := by omega
              have HPF := Lib.hid (show p = (distR ids).length by rw [← HIT.out, ← HP.out, List.take_of_length_le (by rw [HNG.out]; exact Nat.le_refl _)])
              have HRF := Lib.hid (show r = ne by rw [← HWI.out, ← HR.out, List.take_of_length_le (by rw [HNG.out]; exact Nat.le_refl _)])
              replace HZ := Lib.hid (HZ.out.below hbel)
              have HBX := Lib.hid (HBG.out.trans (hbel.mono HBG.out.size))
              clear hbel
              obtain rfl := HRF.out
              go_wp2_with fail
              refine (xdistinct_any _ _ _ ids _ HZ.out (by omega)).mono ?_
              rintro e w5 ⟨v5, rfl, ho, hb⟩
              obtain ⟨a5, c5, rfl, _⟩ := ho.zl
              rw [← HPF.out]
              have HBY := Lib.hid (HBX.out.trans (hb.mono HBX.out.size))
              clear ho hb
              have e1 : ((p : Int) == (p : Int)) = true := by simp
              have e2 : ((r : Int) == (r : Int)) = true := by simp
              go_wp2_with fail
              refine (awake_any _).mono ?_
              rintro e w6 ⟨rfl, hb⟩
              have HBZ := Lib.hid (HBY.out.trans (hb.mono HBY.out.size))
              clear hb
              go_wp2_with fail
              go_ret
              exact ⟨rfl, HBZ.out⟩

end Go.Proofs.Ytonnbcongnkcdaa
