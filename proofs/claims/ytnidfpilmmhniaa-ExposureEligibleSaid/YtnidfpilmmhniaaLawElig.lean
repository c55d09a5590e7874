/- ExposureEligible returns true for every input; no condition. -/
import Derived.Test.YtnidfpilmmhniaaExpC
import Derived.Test.YtnidfpilmmhniaaExpB
import Derived.Test.YtnidfpilmmhniaaFr
namespace Go.Proofs.Ytnidfpilmmhniaa
open Go.RowKit Go.ChangeShapes Go.WideShapes Go.ChangeAt Go.Deep

def EligA (s : Bool) (a d : Option Addr) (na ca nd cd : Nat) (W : World) (z0 : Act) (L : Nat → Bool) (z1 : Act) (w : World) : Prop :=
  ∃ u9 u10 u11 u12 u13 u14 u15 u16 u17 u18 u19 u20 u21 u22 u23 u8, z1 = ((((((((((((((((z0.put (some 9) u9).put (some 10) u10).put (some 11) u11).put (some 12) u12).put (some 13) u13).put (some 14) u14).put (some 15) u15).put (some 16) u16).put (some 17) u17).put (some 18) u18).put (some 19) u19).put (some 20) u20).put (some 21) u21).put (some 22) u22).put (some 23) u23).put (some 8) u8) ∧ Since W w ∧ (L 0 = true → u9 = .agg #[.bool s, .slice a na ca, .slice d nd cd]) ∧ (L 1 = true → u10 = .bool true) ∧ (L 2 = true → u11 = .bool true) ∧ (L 14 = true → u23 = .bool true) ∧ (L 15 = true → u8 = .bool true)

set_option maxHeartbeats 4000000 in
theorem eligible_walk {N : Nat} (count served : Int) (s : Bool) (a d : Option Addr) (na ca nd cd : Nat) (slack : Int) (w : World) (mn md : Nat) (hN : N ≤ w.heap.size) (ha : Nt N w a na ca mn) (hd : Nt N w d nd cd md) :
    Calls Try.prog 4 #[.int .i64 count, .int .i64 served, .agg #[.bool s, .slice a na ca, .slice d nd cd], .int .i64 slack] w fun e w' => e = .returned (.bool true) ∧ Below w.heap.size w w' := by
  by_cases hl : 20 < na ∨ 20 < nd
  · have HLG := Lib.hid (show (decide (20 < na) || decide (20 < nd)) = true by simpa using hl)
    clear ha hd hl
    obtain ⟨W, hW, hWs, k0, k1, k2⟩ : ∃ W, w.alloc (.cells #[.bool s, .slice a na ca, .slice d nd cd] 29) = W ∧ W.heap.size = w.heap.size + 1 ∧ W.cell? ⟨w.heap.size, 0, none⟩ = some (.bool s) ∧ W.cell? ⟨w.heap.size, 1, none⟩ = some (.slice a na ca) ∧ W.cell? ⟨w.heap.size, 2, none⟩ = some (.slice d nd cd) := ⟨_, rfl, by simp, by go_simp, by go_simp, by go_simp⟩
    have HBW := Lib.hid (show Below w.heap.size w W by rw [← hW]; exact bel1 _ _)
    go_enter Try.func4, Try.ntmps4
    go_wp2_with fail
    try rw [hW]
    clear hW
    refine region_inv2 (by kernel_rfl) (EligA s a d na ca nd cd (W)) ?_ ?_ ?_ ?_
    · exact ⟨undef, undef, undef, undef, undef, undef, undef, undef, undef, undef, undef, undef, undef, undef, undef, .bool false, by simp only [Act.put, List.setIfInBounds_toArray, List.set_cons_zero, List.set_cons_succ], Since.drawn _, (fun h => by cases h), (fun h => by cases h), (fun h => by cases h), (fun h => by cases h), (fun h => by cases h)⟩
    · exact acyc_spec (by kernel_rfl)
    · intro Ls a0 wq i o ho hLi hafter hJ
      obtain ⟨u9, u10, u11, u12, u13, u14, u15, u16, u17, u18, u19, u20, u21, u22, u23, u8, rfl, hS, p0, p1, p2, p14, p15⟩ := hJ
      have hi : i < 16 := (Array.getElem?_eq_some_iff.1 ho).1
      obtain rfl | rfl | rfl | rfl | rfl | rfl | rfl | rfl | rfl | rfl | rfl | rfl | rfl | rfl | rfl | rfl : i = 0 ∨ i = 1 ∨ i = 2 ∨ i = 3 ∨ i = 4 ∨ i = 5 ∨ i = 6 ∨ i = 7 ∨ i = 8 ∨ i = 9 ∨ i = 10 ∨ i = 11 ∨ i = 12 ∨ i = 13 ∨ i = 14 ∨ i = 15 := by omega
      · simp only [List.getElem?_toArray, List.getElem?_cons_zero, Option.some.injEq] at ho
        subst ho
        have c0 := (hS.1.cell (p := ⟨w.heap.size, 0, none⟩) (by show w.heap.size < W.heap.size; omega)).trans k0
        have c1 := (hS.1.cell (p := ⟨w.heap.size, 1, none⟩) (by show w.heap.size < W.heap.size; omega)).trans k1
        have c2 := (hS.1.cell (p := ⟨w.heap.size, 2, none⟩) (by show w.heap.size < W.heap.size; omega)).trans k2
        have P0 := Lib.hid p0
        have P1 := Lib.hid p1
        have P2 := Lib.hid p2
        have P14 := Lib.hid p14
        have P15 := Lib.hid p15
        have HS := Lib.hid hS
        clear hS hLi hafter p0 p1 p2 p14 p15
        simp only [Act.put, List.setIfInBounds_toArray, List.set_cons_zero, List.set_cons_succ]
        go_wp2_with fail
        exact ⟨.agg #[.bool s, .slice a na ca, .slice d nd cd], u10, u11, u12, u13, u14, u15, u16, u17, u18, u19, u20, u21, u22, u23, u8, by simp only [Act.put, List.setIfInBounds_toArray, List.set_cons_zero, List.set_cons_succ], HS.out, (fun _ => rfl), (fun h => by first | rfl | exact P1.out (by simpa using h)), (fun h => by first | rfl | exact P2.out (by simpa using h)), (fun h => by first | rfl | exact P14.out (by simpa using h)), (fun h => by first | rfl | exact P15.out (by simpa using h))⟩
      · simp only [List.getElem?_toArray, List.getElem?_cons_zero, List.getElem?_cons_succ, Option.some.injEq] at ho
        subst ho
        obtain rfl := p0 (hafter ⟨0, .data⟩ (by simp) rfl)
        have P0 := Lib.hid p0
        have P1 := Lib.hid p1
        have P2 := Lib.hid p2
        have P14 := Lib.hid p14
        have P15 := Lib.hid p15
        have HS := Lib.hid hS
        clear hS hLi hafter p0 p1 p2 p14 p15
        simp only [Act.put, List.setIfInBounds_toArray, List.set_cons_zero, List.set_cons_succ]
        go_wp2_with fail
        refine (large_any _ _ _ _ _ _ _ _).mono ?_
        rw [HLG.out]
        rintro e wn ⟨rfl, hb⟩
        have Hb := Lib.hid hb
        clear hb
        go_wp2_with fail
        exact ⟨.agg #[.bool s, .slice a na ca, .slice d nd cd], .bool true, u11, u12, u13, u14, u15, u16, u17, u18, u19, u20, u21, u22, u23, u8, by simp only [Act.put, List.setIfInBounds_toArray, List.set_cons_zero, List.set_cons_succ], HS.out.below Hb.out, (fun h => by first | rfl | exact P0.out (by simpa using h)), (fun _ => rfl), (fun h => by first | rfl | exact P2.out (by simpa using h)), (fun h => by first | rfl | exact P14.out (by simpa using h)), (fun h => by first | rfl | exact P15.out (by simpa using h))⟩
      · simp only [List.getElem?_toArray, List.getElem?_cons_zero, List.getElem?_cons_succ, Option.some.injEq] at ho
        subst ho
        obtain rfl := p1 (hafter ⟨1, .data⟩ (by simp) rfl)
        have P0 := Lib.hid p0
        have P1 := Lib.hid p1
        have P2 := Lib.hid p2
        have P14 := Lib.hid p14
        have P15 := Lib.hid p15
        have HS := Lib.hid hS
        clear hS hLi hafter p0 p1 p2 p14 p15
        simp only [Act.put, List.setIfInBounds_toArray, List.set_cons_zero, List.set_cons_succ]
        go_wp2_with fail
        exact ⟨u9, .bool true, .bool true, u12, u13, u14, u15, u16, u17, u18, u19, u20, u21, u22, u23, u8, by simp only [Act.put, List.setIfInBounds_toArray, List.set_cons_zero, List.set_cons_succ], HS.out, (fun h => by first | rfl | exact P0.out (by simpa using h)), (fun h => by first | rfl | exact P1.out (by simpa using h)), (fun _ => rfl), (fun h => by first | rfl | exact P14.out (by simpa using h)), (fun h => by first | rfl | exact P15.out (by simpa using h))⟩
      · simp only [List.getElem?_toArray, List.getElem?_cons_zero, List.getElem?_cons_succ, Option.some.injEq] at ho
        subst ho
        obtain rfl := p2 (hafter ⟨2, .guard⟩ (by simp) rfl)
        have P0 := Lib.hid p0
        have P1 := Lib.hid p1
        have P2 := Lib.hid p2
        have P14 := Lib.hid p14
        have P15 := Lib.hid p15
        have HS := Lib.hid hS
        clear hS hLi hafter p0 p1 p2 p14 p15
        simp only [Act.put, List.setIfInBounds_toArray, List.set_cons_zero, List.set_cons_succ]
        go_wp2_with fail
        exact ⟨u9, u10, .bool true, undef, u13, u14, u15, u16, u17, u18, u19, u20, u21, u22, u23, u8, by simp only [Act.put, List.setIfInBounds_toArray, List.set_cons_zero, List.set_cons_succ], HS.out, (fun h => by first | rfl | exact P0.out (by simpa using h)), (fun h => by first | rfl | exact P1.out (by simpa using h)), (fun h => by first | rfl | exact P2.out (by simpa using h)), (fun h => by first | rfl | exact P14.out (by simpa using h)), (fun h => by first | rfl | exact P15.out (by simpa using h))⟩
      · simp only [List.getElem?_toArray, List.getElem?_cons_zero, List.getElem?_cons_succ, Option.some.injEq] at ho
        subst ho
        obtain rfl := p2 (hafter ⟨2, .guard⟩ (by simp) rfl)
        have P0 := Lib.hid p0
        have P1 := Lib.hid p1
        have P2 := Lib.hid p2
        have P14 := Lib.hid p14
        have P15 := Lib.hid p15
        have HS := Lib.hid hS
        clear hS hLi hafter p0 p1 p2 p14 p15
        simp only [Act.put, List.setIfInBounds_toArray, List.set_cons_zero, List.set_cons_succ]
        go_wp2_with fail
        exact ⟨u9, u10, .bool true, u12, undef, u14, u15, u16, u17, u18, u19, u20, u21, u22, u23, u8, by simp only [Act.put, List.setIfInBounds_toArray, List.set_cons_zero, List.set_cons_succ], HS.out, (fun h => by first | rfl | exact P0.out (by simpa using h)), (fun h => by first | rfl | exact P1.out (by simpa using h)), (fun h => by first | rfl | exact P2.out (by simpa using h)), (fun h => by first | rfl | exact P14.out (by simpa using h)), (fun h => by first | rfl | exact P15.out (by simpa using h))⟩
      · simp only [List.getElem?_toArray, List.getElem?_cons_zero, List.getElem?_cons_succ, Option.some.injEq] at ho
        subst ho
        obtain rfl := p2 (hafter ⟨2, .guard⟩ (by simp) rfl)
        have P0 := Lib.hid p0
        have P1 := Lib.hid p1
        have P2 := Lib.hid p2
        have P14 := Lib.hid p14
        have P15 := Lib.hid p15
        have HS := Lib.hid hS
        clear hS hLi hafter p0 p1 p2 p14 p15
        simp only [Act.put, List.setIfInBounds_toArray, List.set_cons_zero, List.set_cons_succ]
        go_wp2_with fail
        exact ⟨u9, u10, .bool true, u12, u13, undef, u15, u16, u17, u18, u19, u20, u21, u22, u23, u8, by simp only [Act.put, List.setIfInBounds_toArray, List.set_cons_zero, List.set_cons_succ], HS.out, (fun h => by first | rfl | exact P0.out (by simpa using h)), (fun h => by first | rfl | exact P1.out (by simpa using h)), (fun h => by first | rfl | exact P2.out (by simpa using h)), (fun h => by first | rfl | exact P14.out (by simpa using h)), (fun h => by first | rfl | exact P15.out (by simpa using h))⟩
      · simp only [List.getElem?_toArray, List.getElem?_cons_zero, List.getElem?_cons_succ, Option.some.injEq] at ho
        subst ho
        obtain rfl := p2 (hafter ⟨2, .guard⟩ (by simp) rfl)
        have P0 := Lib.hid p0
        have P1 := Lib.hid p1
        have P2 := Lib.hid p2
        have P14 := Lib.hid p14
        have P15 := Lib.hid p15
        have HS := Lib.hid hS
        clear hS hLi hafter p0 p1 p2 p14 p15
        simp only [Act.put, List.setIfInBounds_toArray, List.set_cons_zero, List.set_cons_succ]
        go_wp2_with fail
        exact ⟨u9, u10, .bool true, u12, u13, u14, undef, u16, u17, u18, u19, u20, u21, u22, u23, u8, by simp only [Act.put, List.setIfInBounds_toArray, List.set_cons_zero, List.set_cons_succ], HS.out, (fun h => by first | rfl | exact P0.out (by simpa using h)), (fun h => by first | rfl | exact P1.out (by simpa using h)), (fun h => by first | rfl | exact P2.out (by simpa using h)), (fun h => by first | rfl | exact P14.out (by simpa using h)), (fun h => by first | rfl | exact P15.out (by simpa using h))⟩
      · simp only [List.getElem?_toArray, List.getElem?_cons_zero, List.getElem?_cons_succ, Option.some.injEq] at ho
        subst ho
        obtain rfl := p2 (hafter ⟨2, .guard⟩ (by simp) rfl)
        have P0 := Lib.hid p0
        have P1 := Lib.hid p1
        have P2 := Lib.hid p2
        have P14 := Lib.hid p14
        have P15 := Lib.hid p15
        have HS := Lib.hid hS
        clear hS hLi hafter p0 p1 p2 p14 p15
        simp only [Act.put, List.setIfInBounds_toArray, List.set_cons_zero, List.set_cons_succ]
        go_wp2_with fail
        exact ⟨u9, u10, .bool true, u12, u13, u14, u15, undef, u17, u18, u19, u20, u21, u22, u23, u8, by simp only [Act.put, List.setIfInBounds_toArray, List.set_cons_zero, List.set_cons_succ], HS.out, (fun h => by first | rfl | exact P0.out (by simpa using h)), (fun h => by first | rfl | exact P1.out (by simpa using h)), (fun h => by first | rfl | exact P2.out (by simpa using h)), (fun h => by first | rfl | exact P14.out (by simpa using h)), (fun h => by first | rfl | exact P15.out (by simpa using h))⟩
      · simp only [List.getElem?_toArray, List.getElem?_cons_zero, List.getElem?_cons_succ, Option.some.injEq] at ho
        subst ho
        obtain rfl := p2 (hafter ⟨2, .guard⟩ (by simp) rfl)
        have P0 := Lib.hid p0
        have P1 := Lib.hid p1
        have P2 := Lib.hid p2
        have P14 := Lib.hid p14
        have P15 := Lib.hid p15
        have HS := Lib.hid hS
        clear hS hLi hafter p0 p1 p2 p14 p15
        simp only [Act.put, List.setIfInBounds_toArray, List.set_cons_zero, List.set_cons_succ]
        go_wp2_with fail
        exact ⟨u9, u10, .bool true, u12, u13, u14, u15, u16, undef, u18, u19, u20, u21, u22, u23, u8, by simp only [Act.put, List.setIfInBounds_toArray, List.set_cons_zero, List.set_cons_succ], HS.out, (fun h => by first | rfl | exact P0.out (by simpa using h)), (fun h => by first | rfl | exact P1.out (by simpa using h)), (fun h => by first | rfl | exact P2.out (by simpa using h)), (fun h => by first | rfl | exact P14.out (by simpa using h)), (fun h => by first | rfl | exact P15.out (by simpa using h))⟩
      · simp only [List.getElem?_toArray, List.getElem?_cons_zero, List.getElem?_cons_succ, Option.some.injEq] at ho
        subst ho
        obtain rfl := p2 (hafter ⟨2, .guard⟩ (by simp) rfl)
        have P0 := Lib.hid p0
        have P1 := Lib.hid p1
        have P2 := Lib.hid p2
        have P14 := Lib.hid p14
        have P15 := Lib.hid p15
        have HS := Lib.hid hS
        clear hS hLi hafter p0 p1 p2 p14 p15
        simp only [Act.put, List.setIfInBounds_toArray, List.set_cons_zero, List.set_cons_succ]
        go_wp2_with fail
        exact ⟨u9, u10, .bool true, u12, u13, u14, u15, u16, u17, undef, u19, u20, u21, u22, u23, u8, by simp only [Act.put, List.setIfInBounds_toArray, List.set_cons_zero, List.set_cons_succ], HS.out, (fun h => by first | rfl | exact P0.out (by simpa using h)), (fun h => by first | rfl | exact P1.out (by simpa using h)), (fun h => by first | rfl | exact P2.out (by simpa using h)), (fun h => by first | rfl | exact P14.out (by simpa using h)), (fun h => by first | rfl | exact P15.out (by simpa using h))⟩
      · simp only [List.getElem?_toArray, List.getElem?_cons_zero, List.getElem?_cons_succ, Option.some.injEq] at ho
        subst ho
        obtain rfl := p2 (hafter ⟨2, .guard⟩ (by simp) rfl)
        have P0 := Lib.hid p0
        have P1 := Lib.hid p1
        have P2 := Lib.hid p2
        have P14 := Lib.hid p14
        have P15 := Lib.hid p15
        have HS := Lib.hid hS
        clear hS hLi hafter p0 p1 p2 p14 p15
        simp only [Act.put, List.setIfInBounds_toArray, List.set_cons_zero, List.set_cons_succ]
        go_wp2_with fail
        exact ⟨u9, u10, .bool true, u12, u13, u14, u15, u16, u17, u18, undef, u20, u21, u22, u23, u8, by simp only [Act.put, List.setIfInBounds_toArray, List.set_cons_zero, List.set_cons_succ], HS.out, (fun h => by first | rfl | exact P0.out (by simpa using h)), (fun h => by first | rfl | exact P1.out (by simpa using h)), (fun h => by first | rfl | exact P2.out (by simpa using h)), (fun h => by first | rfl | exact P14.out (by simpa using h)), (fun h => by first | rfl | exact P15.out (by simpa using h))⟩
      · simp only [List.getElem?_toArray, List.getElem?_cons_zero, List.getElem?_cons_succ, Option.some.injEq] at ho
        subst ho
        obtain rfl := p2 (hafter ⟨2, .guard⟩ (by simp) rfl)
        have P0 := Lib.hid p0
        have P1 := Lib.hid p1
        have P2 := Lib.hid p2
        have P14 := Lib.hid p14
        have P15 := Lib.hid p15
        have HS := Lib.hid hS
        clear hS hLi hafter p0 p1 p2 p14 p15
        simp only [Act.put, List.setIfInBounds_toArray, List.set_cons_zero, List.set_cons_succ]
        go_wp2_with fail
        exact ⟨u9, u10, .bool true, u12, u13, u14, u15, u16, u17, u18, u19, undef, u21, u22, u23, u8, by simp only [Act.put, List.setIfInBounds_toArray, List.set_cons_zero, List.set_cons_succ], HS.out, (fun h => by first | rfl | exact P0.out (by simpa using h)), (fun h => by first | rfl | exact P1.out (by simpa using h)), (fun h => by first | rfl | exact P2.out (by simpa using h)), (fun h => by first | rfl | exact P14.out (by simpa using h)), (fun h => by first | rfl | exact P15.out (by simpa using h))⟩
      · simp only [List.getElem?_toArray, List.getElem?_cons_zero, List.getElem?_cons_succ, Option.some.injEq] at ho
        subst ho
        obtain rfl := p2 (hafter ⟨2, .guard⟩ (by simp) rfl)
        have P0 := Lib.hid p0
        have P1 := Lib.hid p1
        have P2 := Lib.hid p2
        have P14 := Lib.hid p14
        have P15 := Lib.hid p15
        have HS := Lib.hid hS
        clear hS hLi hafter p0 p1 p2 p14 p15
        simp only [Act.put, List.setIfInBounds_toArray, List.set_cons_zero, List.set_cons_succ]
        go_wp2_with fail
        exact ⟨u9, u10, .bool true, u12, u13, u14, u15, u16, u17, u18, u19, u20, undef, u22, u23, u8, by simp only [Act.put, List.setIfInBounds_toArray, List.set_cons_zero, List.set_cons_succ], HS.out, (fun h => by first | rfl | exact P0.out (by simpa using h)), (fun h => by first | rfl | exact P1.out (by simpa using h)), (fun h => by first | rfl | exact P2.out (by simpa using h)), (fun h => by first | rfl | exact P14.out (by simpa using h)), (fun h => by first | rfl | exact P15.out (by simpa using h))⟩
      · simp only [List.getElem?_toArray, List.getElem?_cons_zero, List.getElem?_cons_succ, Option.some.injEq] at ho
        subst ho
        obtain rfl := p2 (hafter ⟨2, .guard⟩ (by simp) rfl)
        have P0 := Lib.hid p0
        have P1 := Lib.hid p1
        have P2 := Lib.hid p2
        have P14 := Lib.hid p14
        have P15 := Lib.hid p15
        have HS := Lib.hid hS
        clear hS hLi hafter p0 p1 p2 p14 p15
        simp only [Act.put, List.setIfInBounds_toArray, List.set_cons_zero, List.set_cons_succ]
        go_wp2_with fail
        exact ⟨u9, u10, .bool true, u12, u13, u14, u15, u16, u17, u18, u19, u20, u21, undef, u23, u8, by simp only [Act.put, List.setIfInBounds_toArray, List.set_cons_zero, List.set_cons_succ], HS.out, (fun h => by first | rfl | exact P0.out (by simpa using h)), (fun h => by first | rfl | exact P1.out (by simpa using h)), (fun h => by first | rfl | exact P2.out (by simpa using h)), (fun h => by first | rfl | exact P14.out (by simpa using h)), (fun h => by first | rfl | exact P15.out (by simpa using h))⟩
      · simp only [List.getElem?_toArray, List.getElem?_cons_zero, List.getElem?_cons_succ, Option.some.injEq] at ho
        subst ho
        obtain rfl := p2 (hafter ⟨2, .data⟩ (by simp) rfl)
        have P0 := Lib.hid p0
        have P1 := Lib.hid p1
        have P2 := Lib.hid p2
        have P14 := Lib.hid p14
        have P15 := Lib.hid p15
        have HS := Lib.hid hS
        clear hS hLi hafter p0 p1 p2 p14 p15
        simp only [Act.put, List.setIfInBounds_toArray, List.set_cons_zero, List.set_cons_succ]
        go_wp2_with fail
        exact ⟨u9, u10, .bool true, u12, u13, u14, u15, u16, u17, u18, u19, u20, u21, u22, .bool true, u8, by simp only [Act.put, List.setIfInBounds_toArray, List.set_cons_zero, List.set_cons_succ], HS.out, (fun h => by first | rfl | exact P0.out (by simpa using h)), (fun h => by first | rfl | exact P1.out (by simpa using h)), (fun h => by first | rfl | exact P2.out (by simpa using h)), (fun _ => rfl), (fun h => by first | rfl | exact P15.out (by simpa using h))⟩
      · simp only [List.getElem?_toArray, List.getElem?_cons_zero, List.getElem?_cons_succ, Option.some.injEq] at ho
        subst ho
        obtain rfl := p14 (hafter ⟨14, .data⟩ (by simp) rfl)
        have P0 := Lib.hid p0
        have P1 := Lib.hid p1
        have P2 := Lib.hid p2
        have P14 := Lib.hid p14
        have P15 := Lib.hid p15
        have HS := Lib.hid hS
        clear hS hLi hafter p0 p1 p2 p14 p15
        simp only [Act.put, List.setIfInBounds_toArray, List.set_cons_zero, List.set_cons_succ]
        go_wp2_with fail
        exact ⟨u9, u10, u11, u12, u13, u14, u15, u16, u17, u18, u19, u20, u21, u22, .bool true, .bool true, by simp only [Act.put, List.setIfInBounds_toArray, List.set_cons_zero, List.set_cons_succ], HS.out, (fun h => by first | rfl | exact P0.out (by simpa using h)), (fun h => by first | rfl | exact P1.out (by simpa using h)), (fun h => by first | rfl | exact P2.out (by simpa using h)), (fun h => by first | rfl | exact P14.out (by simpa using h)), (fun _ => rfl)⟩
    · intro Ls a0 wq hall hJ
      obtain ⟨u9, u10, u11, u12, u13, u14, u15, u16, u17, u18, u19, u20, u21, u22, u23, u8, rfl, hS, p0, p1, p2, p14, p15⟩ := hJ
      replace p0 := p0 (hall 0 (by decide))
      replace p1 := p1 (hall 1 (by decide))
      replace p2 := p2 (hall 2 (by decide))
      replace p14 := p14 (hall 14 (by decide))
      replace p15 := p15 (hall 15 (by decide))
      subst p15
      have HS := Lib.hid hS
      clear hS p0 p1 p2 p14
      simp only [Act.put, List.setIfInBounds_toArray, List.set_cons_zero, List.set_cons_succ]
      go_wp2_with fail
      go_ret
      exact ⟨rfl, HBW.out.trans (HS.out.1.mono (by omega))⟩
  · have HLG := Lib.hid (show (decide (20 < na) || decide (20 < nd)) = false by simpa using hl)
    obtain ⟨q, hq⟩ : ∃ q, mkRat (zI s mn) md = q := ⟨_, rfl⟩
    have h : Rt N w s a na ca d nd cd q 20 := ⟨by omega, by omega, by omega, mn, md, ha, hd, hq⟩
    have H := Lib.hid (h.alloc (.cells #[.bool s, .slice a na ca, .slice d nd cd] 29))
    clear h hq ha hd hl
    obtain ⟨E, hE⟩ : ∃ E, elig count served q slack = E := ⟨_, rfl⟩
    have HE := Lib.hid hE
    clear hE
    go_enter Try.func4, Try.ntmps4
    go_wp2_with fail
    go_region_held3 (fun w' => w'.cell? ⟨w.heap.size, 0, none⟩ = some (.bool s) ∧ w'.cell? ⟨w.heap.size, 1, none⟩ = some (.slice a na ca) ∧ w'.cell? ⟨w.heap.size, 2, none⟩ = some (.slice d nd cd))
      (first | (go_keep; done) | ((try dsimp only); (repeat' apply And.intro) <;> (first | (go_keep; done) | (exact cell_keep_alloc_drew (by first | omega | (simp; omega)) (by first | assumption | go_simp)) | (exact cell_keep_alloc (by first | omega | (simp; omega)) (by first | assumption | go_simp)) | (rw [cell_set2 _ _ _ _ _ _ _ _ (by omega)]; assumption) | (rw [cell_set3 _ _ _ _ _ _ _ _ _ _ (by omega)]; assumption))))
      (first
        | (go_at_call 14; refine (large_any _ _ _ _ _ _ _ _).mono ?_; rw [HLG.out]; rintro e wa ⟨rfl, hb⟩; have kwa0 : wa.cell? ⟨w.heap.size, 0, none⟩ = some (.bool s) := (hb.cell (p := ⟨w.heap.size, 0, none⟩) (by first | (simp; done) | (simp; omega))).trans (by first | exact k0 | go_simp); have kwa1 : wa.cell? ⟨w.heap.size, 1, none⟩ = some (.slice a na ca) := (hb.cell (p := ⟨w.heap.size, 1, none⟩) (by first | (simp; done) | (simp; omega))).trans (by first | exact k1 | go_simp); have kwa2 : wa.cell? ⟨w.heap.size, 2, none⟩ = some (.slice d nd cd) := (hb.cell (p := ⟨w.heap.size, 2, none⟩) (by first | (simp; done) | (simp; omega))).trans (by first | exact k2 | go_simp); have hzwa0 : w.heap.size < wa.heap.size := (by have := hb.size; (try simp at this); omega); obtain ⟨hcwa, hfwa⟩ := bcell hb; have HBwa := Lib.hid hb; clear hb )
        | (go_at_call 17; refine (elig_any (N := N) _ _ _ _ _ _ _ _ _ _ 20 q _ (by omega) (by exact H.out.below (bel_of_drew HBwa.out)) (by omega)).mono ?_; rw [HE.out]; rintro e wb ⟨rfl, hb⟩; have kwb0 : wb.cell? ⟨w.heap.size, 0, none⟩ = some (.bool s) := (hb.cell (p := ⟨w.heap.size, 0, none⟩) (by omega)).trans kwa0; have kwb1 : wb.cell? ⟨w.heap.size, 1, none⟩ = some (.slice a na ca) := (hb.cell (p := ⟨w.heap.size, 1, none⟩) (by omega)).trans kwa1; have kwb2 : wb.cell? ⟨w.heap.size, 2, none⟩ = some (.slice d nd cd) := (hb.cell (p := ⟨w.heap.size, 2, none⟩) (by omega)).trans kwa2; have hzwb0 : w.heap.size < wb.heap.size := (by have := hb.size; (try simp at this); omega); obtain ⟨hcwb, hfwb⟩ := bcell hb; have HBwb := Lib.hid hb; clear hb )
        | (go_at_call 18; refine (xelig_any (N := N) _ _ _ _ _ _ _ _ _ _ 20 q _ (by omega) (by exact (H.out.below (bel_of_drew HBwa.out)).below HBwb.out) (by omega)).mono ?_; rw [HE.out]; rintro e wc ⟨rfl, hb⟩; have kwc0 : wc.cell? ⟨w.heap.size, 0, none⟩ = some (.bool s) := (hb.cell (p := ⟨w.heap.size, 0, none⟩) (by omega)).trans kwb0; have kwc1 : wc.cell? ⟨w.heap.size, 1, none⟩ = some (.slice a na ca) := (hb.cell (p := ⟨w.heap.size, 1, none⟩) (by omega)).trans kwb1; have kwc2 : wc.cell? ⟨w.heap.size, 2, none⟩ = some (.slice d nd cd) := (hb.cell (p := ⟨w.heap.size, 2, none⟩) (by omega)).trans kwb2; have hzwc0 : w.heap.size < wc.heap.size := (by have := hb.size; (try simp at this); omega); obtain ⟨hcwc, hfwc⟩ := bcell hb; have HBwc := Lib.hid hb; clear hb ))
    go_wp2_with fail
    go_ret
    exact ⟨by simp, ((((bel1 w _).trans ((bel_of_drew HBwa.out).mono (by first | omega | (simp; done) | (simp; omega)))).trans (HBwb.out.mono (by first | omega | (simp; done) | (simp; omega)))).trans (HBwc.out.mono (by first | omega | (simp; done) | (simp; omega))))⟩

set_option maxRecDepth 100000 in
theorem exposureEligible_lifted (os : Os) (started : os.Started) (H : Type) (enc : TypeId × Value → H) :
    ReturnsInHanded {} Try.checked os 4 .any (Rows.exposureEligibleSpec.pre6 enc Try.prog Try.f4 Rows.exposureEligibleRow.domain false) (Rows.exposureEligibleSpec.post enc Try.prog Try.f4 false true false false) := by
  refine returnsInHanded_of_change (C := Try.checked) Try.own started (by kernel_rfl) Try.func4
    (ChangeSpec.witness6 (enc := enc) (C := Try.checked) false ⟨#[], #[.int .i64 0, .int .i64 0, .agg #[.bool false, .slice none 0 0, .slice none 0 0], .int .i64 0], []⟩ 8 (by kernel_rfl) (by kernel_rfl) (by kernel_rfl) (by kernel_rfl)) ?_
  intro W base args ds gs before hval0 hW hcnd _
  have hval : ∀ (j : Nat) t v, Try.f4.params[j]? = some t → args[j]? = some v → Value.okWide Try.prog W .any base t v := hval0
  have hW' := hW
  obtain ⟨p, q, hA0, hV, rfl, hfz, hnd⟩ := hW
  have hA : DataW.TrodAll enc Try.prog W 0 (fun _ => true) true Try.f4.params.toList args.toList ds p := hA0
  rw [Try.params4] at hA hval
  obtain ⟨v0, vs0, x0, ds0, p0, q0, hargs, rfl, rfl, h0, r0⟩ := trodAll_cons hA
  obtain ⟨v1, vs1, x1, ds1, p1, q1, rfl, rfl, rfl, h1, r1⟩ := trodAll_cons r0
  obtain ⟨v2, vs2, x2, ds2, p2, q2, rfl, rfl, rfl, h2, r2⟩ := trodAll_cons r1
  obtain ⟨v3, vs3, x3, ds3, p3, q3, rfl, rfl, rfl, h3, r3⟩ := trodAll_cons r2
  obtain ⟨rfl, rfl, rfl⟩ := trodAll_nil r3
  obtain rfl : args = #[v0, v1, v2, v3] := by cases args; simp_all
  obtain ⟨rfl, rfl⟩ := trodVars_none hV
  obtain ⟨a0, rfl, rfl, rfl, w0⟩ := open_int Try.underlying3 (hval 0 3 v0 rfl rfl) h0
  obtain ⟨a1, rfl, rfl, rfl, w1⟩ := open_int Try.underlying3 (hval 1 3 v1 rfl rfl) h1
  have k2 := h2
  have lt2 : ∀ x ∈ p2, x.block < W.heap.size := by obtain ⟨m, hm⟩ := k2; exact DataW.trod_lt m _ _ _ hm
  obtain ⟨s2, a2, n2, c2, m2, d2, nd2, cd2, md2, rfl, hn2, hd2⟩ := open_rat (hval 2 29 v2 rfl rfl) h2
  obtain ⟨a3, rfl, rfl, rfl, w3⟩ := open_int Try.underlying3 (hval 3 3 v3 rfl rfl) h3
  clear hA0 hval0
  refine (eligible_walk (N := W.heap.size) a0 a1 s2 a2 d2 n2 c2 nd2 cd2 a3 W m2 md2 (Nat.le_refl _) hn2 hd2).mono fun e W' ⟨he, bel⟩ => ?_
  subst he
  exact ⟨_, rfl, _, _, _, [], _, [], hW', trodAll_mk1 (shut_bool Try.underlying4 _), (trodAll_cons_mk (shut_int Try.underlying3 w0) (trodAll_cons_mk (shut_int Try.underlying3 w1) (trodAll_cons_mk (Below.trod Try.laidOut (by kernel_rfl) (of_decide_eq_true (by kernel_rfl)) k2 bel lt2) (trodAll_cons_mk (shut_int Try.underlying3 w3) trodAll_mk0)))), rfl, bel.frame _, fun h => by cases h⟩

theorem exposureEligible_holds : Rows.ExposureEligibleSaid :=
  OpenClaim.holds_of_wide 4 Try.f4 rfl rfl rfl rfl rfl rfl rfl ⟨rfl, rfl, rfl, rfl, rfl⟩ rfl rfl rfl rfl rfl (by kernel_rfl) Try.func4 (by kernel_rfl)
    (of_decide_eq_true (by kernel_rfl)) (by unfold Func.isWrapper; first | (rw [if_pos (by decide +kernel)]; kernel_rfl) | (rw [if_neg (by decide +kernel)]; exact ⟨rfl, rfl⟩))
    (fun os started H enc _ => exposureEligible_lifted os started H enc)
#print axioms exposureEligible_holds

end Go.Proofs.Ytnidfpilmmhniaa
