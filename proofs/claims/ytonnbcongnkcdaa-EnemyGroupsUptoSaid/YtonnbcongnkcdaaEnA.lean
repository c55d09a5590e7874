/- Contracts of cmp.Or and of the comparison of two pairs; sorting a slice of pairs; ordered. No condition. -/
import Derived.Test.YtonnbcongnkcdaaEnP
import Derived.Test.YtonnbcongnkcdaaSlP
import Derived.Test.YtonnbcongnkcdaaShelfB
import Derived.Test.YtonnbcongnkcdaaShelfS
import Derived.Test.YtonnbcongnkcdaaAl
namespace Go.Proofs.Ytonnbcongnkcdaa
open Go.RowKit

/-- since W nothing but draws and new blocks -/
def Gw (W w : World) : Prop := ∃ q os, w = Go.Sort.grow (W.drewN q) os
theorem Gw.refl (W : World) : Gw W W := ⟨0, #[], by simp; rfl⟩
theorem Gw.drawn (W : World) : Gw W W.drew := ⟨1, #[], by simp; rfl⟩
theorem Gw.alloc {W w : World} (h : Gw W w) (o : Obj) : Gw W (w.alloc o) := by
  obtain ⟨q, os, rfl⟩ := h
  exact ⟨q, os ++ #[o], by rw [Go.Sort.alloc_eq_grow, Go.Sort.grow_grow]⟩
theorem gw_drewN (W : World) (q r : Nat) (os : Array Obj) : (Go.Sort.grow (W.drewN q) os).drewN r = Go.Sort.grow (W.drewN (q + r)) os := by
  induction r with
  | zero => rfl
  | succ r ih => first | (simp only [World.drewN, Nat.add_succ] at *; rw [ih]; rfl) | (unfold World.drewN Go.Sort.grow; simp [Nat.add_assoc])
theorem Gw.trans {a b c : World} (h : Gw a b) (k : Gw b c) : Gw a c := by
  obtain ⟨q, os, rfl⟩ := h
  obtain ⟨r, os2, rfl⟩ := k
  exact ⟨q + r, os ++ os2, by rw [← Go.Sort.grow_grow, gw_drewN]⟩
theorem Gw.bel {W w : World} (h : Gw W w) : Below W.heap.size W w := by
  obtain ⟨q, os, rfl⟩ := h
  exact ⟨rfl, rfl, rfl, by simp, fun k hk => by rw [Go.Sort.heap_grow_old _ _ (by simpa using hk)]; simp⟩
/-- a slice of two numbers -/
def S2 (c d : Int) (u : Value) (w : World) : Prop := ∃ b, u = .slice (some ⟨b, 0, none⟩) 2 2 ∧ w.cell? ⟨b, 0, none⟩ = some (.int .i64 c) ∧ w.cell? ⟨b, 1, none⟩ = some (.int .i64 d)

set_option maxHeartbeats 2000000 in
theorem or_two (x y c : Int) (u : Value) (w : World) (h : S2 x y u w) (hc : (if x = 0 then y else x) = c) :
    Calls Try.prog 32 #[u] w fun e w' => e = .returned (.int .i64 c) ∧ w' = w := by
  obtain ⟨b, rfl, g0, g1⟩ := h
  have HC := Lib.hid hc
  go_enter Try.func32, Try.ntmps32
  go_wp2_with fail
  go_loopw [5, 8] (fun _ i wr => ∃ k : Nat, k ≤ 2 ∧ i = .int .i64 k ∧ Hid ((0 < k → x = 0) ∧ (1 < k → y = 0)) ∧ w = wr) (fun _ i _ => 2 - (intOf i).toNat)
  case atStart => exact ⟨0, by omega, rfl, Lib.hid ⟨fun h => by omega, fun h => by omega⟩, rfl⟩
  case round =>
    obtain ⟨k, hk, rfl, hin, rfl⟩ := hrel
    obtain rfl | rfl | rfl : k = 0 ∨ k = 1 ∨ k = 2 := by omega
    · by_cases h0 : x = 0
      · subst h0
        go_wp2_with fail
        go_roundw
        case rel => exact ⟨1, by omega, by first | rfl | go_num, Lib.hid ⟨fun _ => by first | rfl | trivial, fun h => by omega⟩, by first | rfl | trivial⟩
        case measure => simp [intOf]
      · have hx : (x != 0) = true := by simpa using h0
        have hx2 : (x == 0) = false := by simpa using h0
        obtain rfl : x = c := by rw [← HC.out, if_neg h0]
        go_wp2_with fail
        go_ret
        exact ⟨rfl, rfl⟩
    · have hx0 : x = 0 := hin.out.1 (by omega)
      have HX0 := Lib.hid hx0
      clear hx0
      by_cases h1 : y = 0
      · subst h1
        go_wp2_with fail
        go_roundw
        case rel => exact ⟨2, by omega, by first | rfl | go_num, Lib.hid ⟨fun _ => HX0.out, fun _ => by first | rfl | trivial⟩, by first | rfl | trivial⟩
        case measure => simp [intOf]
      · have hy : (y != 0) = true := by simpa using h1
        have hy2 : (y == 0) = false := by simpa using h1
        obtain rfl : y = c := by rw [← HC.out, if_pos HX0.out]
        go_wp2_with fail
        go_ret
        exact ⟨rfl, rfl⟩
    · obtain rfl : (0 : Int) = c := by rw [← HC.out, if_pos (hin.out.1 (by omega)), hin.out.2 (by omega)]
      go_wp2_with fail
      go_ret
      exact ⟨rfl, rfl⟩
def CpJ (gP gQ : Nat) (x1 x2 y1 y2 c1 c2 c : Int) (W : World) (z0 : Act) (L : Nat → Bool) (z1 : Act) (w : World) : Prop :=
  ∃ u5 u6 u7 u8 u9 u10 u11 u12 u13 u14 u15 u16,
    (z1 = ((((((((((((z0.put (some 5) u5).put (some 6) u6).put (some 7) u7).put (some 8) u8).put (some 9) u9).put (some 10) u10).put (some 11) u11).put (some 12) u12).put (some 13) u13).put (some 14) u14).put (some 15) u15).put (some 16) u16) ∧ L 12 = false ∧ Gw W w ∧ (L 0 = true → u5 = .pointer (some ⟨gP, 0, none⟩)) ∧ (L 1 = true → u6 = .int .i64 x1) ∧ (L 2 = true → u7 = .pointer (some ⟨gQ, 0, none⟩)) ∧ (L 3 = true → u8 = .int .i64 y1) ∧ (L 4 = true → u9 = .int .i64 c1) ∧ (L 5 = true → u10 = .pointer (some ⟨gP, 1, none⟩)) ∧ (L 6 = true → u11 = .int .i64 x2) ∧ (L 7 = true → u12 = .pointer (some ⟨gQ, 1, none⟩)) ∧ (L 8 = true → u13 = .int .i64 y2) ∧ (L 9 = true → u14 = .int .i64 c2) ∧ (L 10 = true → S2 c1 c2 u15 w) ∧ (L 11 = true → u16 = .int .i64 c)) ∨
     (∃ v, z1 = ((((((((((((z0.put (some 5) u5).put (some 6) u6).put (some 7) u7).put (some 8) u8).put (some 9) u9).put (some 10) u10).put (some 11) u11).put (some 12) u12).put (some 13) u13).put (some 14) u14).put (some 15) u15).put (some 16) u16).put (some 4) v ∧ L 12 = true ∧ (∀ j, j < 12 → L j = true) ∧ v = .int .i64 c ∧ Gw W w)

def cfP (p q : Int × Int) : Int := if Lib.compareInt p.1 q.1 = 0 then Lib.compareInt p.2 q.2 else Lib.compareInt p.1 q.1
theorem cfP_lt (x y : Int × Int) : ltOf cfP x y = lxB x y := by
  unfold ltOf cfP Lib.compareInt lxB
  by_cases h1 : x.1 < y.1
  · simp [h1]
  · by_cases h2 : y.1 < x.1
    · have h3 : ¬ x.1 = y.1 := by omega
      simp [h1, h2, h3]
    · have h3 : x.1 = y.1 := by omega
      by_cases h4 : x.2 < y.2
      · simp [h3, h4]
      · by_cases h5 : y.2 < x.2 <;> simp [h3, h4, h5]
theorem cfP_swo : Go.Sort.SWO (ltOf cfP) where
  irrefl x := by rw [cfP_lt]; simp [lxB]
  trans x y z h1 h2 := by rw [cfP_lt, lxB_iff] at *; exact h1.trans h2
  ntrans x y z h1 h2 := by
    rw [cfP_lt] at *
    have e1 : ¬ lxL x y := fun h => by rw [lxB_iff.2 h] at h1; cases h1
    have e2 : ¬ lxL y z := fun h => by rw [lxB_iff.2 h] at h2; cases h2
    have e3 : ¬ lxL x z := by unfold lxL at *; omega
    cases e : lxB x z
    · rfl
    · exact absurd (lxB_iff.1 e) e3

set_option maxRecDepth 20000 in
set_option maxHeartbeats 4000000 in
theorem cmpP_any (x y : Int × Int) (W : World) : Calls Try.prog 31 #[.agg #[.int .i64 x.1, .int .i64 x.2], .agg #[.int .i64 y.1, .int .i64 y.2]] W fun e w' => e = .returned (.int .i64 (cfP x y)) ∧ Gw W w' := by
  obtain ⟨x1, x2⟩ := x
  obtain ⟨y1, y2⟩ := y
  obtain ⟨c1, hc1⟩ : ∃ c, Lib.compareInt x1 y1 = c := ⟨_, rfl⟩
  obtain ⟨c2, hc2⟩ : ∃ c, Lib.compareInt x2 y2 = c := ⟨_, rfl⟩
  obtain ⟨c, hcc⟩ : ∃ c, (if c1 = 0 then c2 else c1) = c := ⟨_, rfl⟩
  have HC1 := Lib.hid hc1
  have HC2 := Lib.hid hc2
  have HCC := Lib.hid hcc
  rw [show cfP (x1, x2) (y1, y2) = c by unfold cfP; simp only; rw [hc1, hc2]; exact hcc]
  clear hc1 hc2 hcc
  go_enter Try.func31, Try.ntmps31
  go_wp2_with fail
  refine region_name fun W0 hW => ?_
  have HG0 := Lib.hid (show Gw W W0 by rw [← hW]; exact ((Gw.refl W).alloc _).alloc _)
  have hs0 : W0.heap.size = W.heap.size + 2 := by rw [← hW]; simp
  have hl_P : W.heap.size < W0.heap.size := by omega
  have hl_Q : W.heap.size + 1 < W0.heap.size := by omega
  have k_P_0 : W0.cell? ⟨W.heap.size, 0, none⟩ = some (.int .i64 x1) := by rw [← hW]; (first | (go_simp; done) | (simp; done) | (simp [go_sem]; done))
  have k_P_1 : W0.cell? ⟨W.heap.size, 1, none⟩ = some (.int .i64 x2) := by rw [← hW]; (first | (go_simp; done) | (simp; done) | (simp [go_sem]; done))
  have k_Q_0 : W0.cell? ⟨W.heap.size + 1, 0, none⟩ = some (.int .i64 y1) := by rw [← hW]; (first | (go_simp; done) | (simp; done) | (simp [go_sem]; done))
  have k_Q_1 : W0.cell? ⟨W.heap.size + 1, 1, none⟩ = some (.int .i64 y2) := by rw [← hW]; (first | (go_simp; done) | (simp; done) | (simp [go_sem]; done))
  clear hW
  refine region_inv2 (by kernel_rfl) (CpJ W.heap.size (W.heap.size + 1) x1 x2 y1 y2 c1 c2 c (W0)) ?_ ?_ ?_ ?_
  · exact ⟨undef, undef, undef, undef, undef, undef, undef, undef, undef, undef, undef, undef, .inl ⟨by simp only [Act.put, List.setIfInBounds_toArray, List.set_cons_zero, List.set_cons_succ], rfl, Gw.drawn _, (fun h => by cases h), (fun h => by cases h), (fun h => by cases h), (fun h => by cases h), (fun h => by cases h), (fun h => by cases h), (fun h => by cases h), (fun h => by cases h), (fun h => by cases h), (fun h => by cases h), (fun h => by cases h), (fun h => by cases h)⟩⟩
  · exact acyc_spec (by kernel_rfl)
  · intro Ls a0 wq i o ho hLi hafter hJ
    obtain ⟨u5, u6, u7, u8, u9, u10, u11, u12, u13, u14, u15, u16, hJ | ⟨v, rfl, h10, hall, _⟩⟩ := hJ
    · obtain ⟨rfl, hLl, hS, p0, p1, p2, p3, p4, p5, p6, p7, p8, p9, p10, p11⟩ := hJ
      have hi : i < 13 := (Array.getElem?_eq_some_iff.1 ho).1
      obtain rfl | rfl | rfl | rfl | rfl | rfl | rfl | rfl | rfl | rfl | rfl | rfl | rfl : i = 0 ∨ i = 1 ∨ i = 2 ∨ i = 3 ∨ i = 4 ∨ i = 5 ∨ i = 6 ∨ i = 7 ∨ i = 8 ∨ i = 9 ∨ i = 10 ∨ i = 11 ∨ i = 12 := by omega
      · simp only [List.getElem?_toArray, List.getElem?_cons_zero, Option.some.injEq] at ho
        subst ho
        have P0 := Lib.hid p0
        have P1 := Lib.hid p1
        have P2 := Lib.hid p2
        have P3 := Lib.hid p3
        have P4 := Lib.hid p4
        have P5 := Lib.hid p5
        have P6 := Lib.hid p6
        have P7 := Lib.hid p7
        have P8 := Lib.hid p8
        have P9 := Lib.hid p9
        have P10 := Lib.hid p10
        have P11 := Lib.hid p11
        have HS := Lib.hid hS
        clear hS hLi hafter p0 p1 p2 p3 p4 p5 p6 p7 p8 p9 p10 p11
        simp only [Act.put, List.setIfInBounds_toArray, List.set_cons_zero, List.set_cons_succ]
        go_wp2_with fail
        exact ⟨.pointer (some ⟨W.heap.size, 0, none⟩), u6, u7, u8, u9, u10, u11, u12, u13, u14, u15, u16, .inl ⟨by simp only [Act.put, List.setIfInBounds_toArray, List.set_cons_zero, List.set_cons_succ], by simpa using hLl, HS.out, (fun _ => rfl), (fun h => by first | rfl | exact P1.out (by simpa using h)), (fun h => by first | rfl | exact P2.out (by simpa using h)), (fun h => by first | rfl | exact P3.out (by simpa using h)), (fun h => by first | rfl | exact P4.out (by simpa using h)), (fun h => by first | rfl | exact P5.out (by simpa using h)), (fun h => by first | rfl | exact P6.out (by simpa using h)), (fun h => by first | rfl | exact P7.out (by simpa using h)), (fun h => by first | rfl | exact P8.out (by simpa using h)), (fun h => by first | rfl | exact P9.out (by simpa using h)), (fun h => P10.out (by simpa using h)), (fun h => by first | rfl | exact P11.out (by simpa using h))⟩⟩
      · simp only [List.getElem?_toArray, List.getElem?_cons_zero, List.getElem?_cons_succ, Option.some.injEq] at ho
        subst ho
        obtain rfl := p0 (hafter ⟨0, .data⟩ (by simp) rfl)
        have c0 := (hS.bel.cell (p := ⟨W.heap.size, 0, none⟩) hl_P).trans k_P_0
        have P0 := Lib.hid p0
        have P1 := Lib.hid p1
        have P2 := Lib.hid p2
        have P3 := Lib.hid p3
        have P4 := Lib.hid p4
        have P5 := Lib.hid p5
        have P6 := Lib.hid p6
        have P7 := Lib.hid p7
        have P8 := Lib.hid p8
        have P9 := Lib.hid p9
        have P10 := Lib.hid p10
        have P11 := Lib.hid p11
        have HS := Lib.hid hS
        clear hS hLi hafter p0 p1 p2 p3 p4 p5 p6 p7 p8 p9 p10 p11
        simp only [Act.put, List.setIfInBounds_toArray, List.set_cons_zero, List.set_cons_succ]
        go_wp2_with fail
        exact ⟨.pointer (some ⟨W.heap.size, 0, none⟩), .int .i64 x1, u7, u8, u9, u10, u11, u12, u13, u14, u15, u16, .inl ⟨by simp only [Act.put, List.setIfInBounds_toArray, List.set_cons_zero, List.set_cons_succ], by simpa using hLl, HS.out, (fun h => by first | rfl | exact P0.out (by simpa using h)), (fun _ => rfl), (fun h => by first | rfl | exact P2.out (by simpa using h)), (fun h => by first | rfl | exact P3.out (by simpa using h)), (fun h => by first | rfl | exact P4.out (by simpa using h)), (fun h => by first | rfl | exact P5.out (by simpa using h)), (fun h => by first | rfl | exact P6.out (by simpa using h)), (fun h => by first | rfl | exact P7.out (by simpa using h)), (fun h => by first | rfl | exact P8.out (by simpa using h)), (fun h => by first | rfl | exact P9.out (by simpa using h)), (fun h => P10.out (by simpa using h)), (fun h => by first | rfl | exact P11.out (by simpa using h))⟩⟩
      · simp only [List.getElem?_toArray, List.getElem?_cons_zero, List.getElem?_cons_succ, Option.some.injEq] at ho
        subst ho
        have P0 := Lib.hid p0
        have P1 := Lib.hid p1
        have P2 := Lib.hid p2
        have P3 := Lib.hid p3
        have P4 := Lib.hid p4
        have P5 := Lib.hid p5
        have P6 := Lib.hid p6
        have P7 := Lib.hid p7
        have P8 := Lib.hid p8
        have P9 := Lib.hid p9
        have P10 := Lib.hid p10
        have P11 := Lib.hid p11
        have HS := Lib.hid hS
        clear hS hLi hafter p0 p1 p2 p3 p4 p5 p6 p7 p8 p9 p10 p11
        simp only [Act.put, List.setIfInBounds_toArray, List.set_cons_zero, List.set_cons_succ]
        go_wp2_with fail
        exact ⟨u5, u6, .pointer (some ⟨W.heap.size + 1, 0, none⟩), u8, u9, u10, u11, u12, u13, u14, u15, u16, .inl ⟨by simp only [Act.put, List.setIfInBounds_toArray, List.set_cons_zero, List.set_cons_succ], by simpa using hLl, HS.out, (fun h => by first | rfl | exact P0.out (by simpa using h)), (fun h => by first | rfl | exact P1.out (by simpa using h)), (fun _ => rfl), (fun h => by first | rfl | exact P3.out (by simpa using h)), (fun h => by first | rfl | exact P4.out (by simpa using h)), (fun h => by first | rfl | exact P5.out (by simpa using h)), (fun h => by first | rfl | exact P6.out (by simpa using h)), (fun h => by first | rfl | exact P7.out (by simpa using h)), (fun h => by first | rfl | exact P8.out (by simpa using h)), (fun h => by first | rfl | exact P9.out (by simpa using h)), (fun h => P10.out (by simpa using h)), (fun h => by first | rfl | exact P11.out (by simpa using h))⟩⟩
      · simp only [List.getElem?_toArray, List.getElem?_cons_zero, List.getElem?_cons_succ, Option.some.injEq] at ho
        subst ho
        obtain rfl := p2 (hafter ⟨2, .data⟩ (by simp) rfl)
        have c0 := (hS.bel.cell (p := ⟨W.heap.size + 1, 0, none⟩) hl_Q).trans k_Q_0
        have P0 := Lib.hid p0
        have P1 := Lib.hid p1
        have P2 := Lib.hid p2
        have P3 := Lib.hid p3
        have P4 := Lib.hid p4
        have P5 := Lib.hid p5
        have P6 := Lib.hid p6
        have P7 := Lib.hid p7
        have P8 := Lib.hid p8
        have P9 := Lib.hid p9
        have P10 := Lib.hid p10
        have P11 := Lib.hid p11
        have HS := Lib.hid hS
        clear hS hLi hafter p0 p1 p2 p3 p4 p5 p6 p7 p8 p9 p10 p11
        simp only [Act.put, List.setIfInBounds_toArray, List.set_cons_zero, List.set_cons_succ]
        go_wp2_with fail
        exact ⟨u5, u6, .pointer (some ⟨W.heap.size + 1, 0, none⟩), .int .i64 y1, u9, u10, u11, u12, u13, u14, u15, u16, .inl ⟨by simp only [Act.put, List.setIfInBounds_toArray, List.set_cons_zero, List.set_cons_succ], by simpa using hLl, HS.out, (fun h => by first | rfl | exact P0.out (by simpa using h)), (fun h => by first | rfl | exact P1.out (by simpa using h)), (fun h => by first | rfl | exact P2.out (by simpa using h)), (fun _ => rfl), (fun h => by first | rfl | exact P4.out (by simpa using h)), (fun h => by first | rfl | exact P5.out (by simpa using h)), (fun h => by first | rfl | exact P6.out (by simpa using h)), (fun h => by first | rfl | exact P7.out (by simpa using h)), (fun h => by first | rfl | exact P8.out (by simpa using h)), (fun h => by first | rfl | exact P9.out (by simpa using h)), (fun h => P10.out (by simpa using h)), (fun h => by first | rfl | exact P11.out (by simpa using h))⟩⟩
      · simp only [List.getElem?_toArray, List.getElem?_cons_zero, List.getElem?_cons_succ, Option.some.injEq] at ho
        subst ho
        obtain rfl := p1 (hafter ⟨1, .data⟩ (by simp) rfl)
        obtain rfl := p3 (hafter ⟨3, .data⟩ (by simp) rfl)
        have P0 := Lib.hid p0
        have P1 := Lib.hid p1
        have P2 := Lib.hid p2
        have P3 := Lib.hid p3
        have P4 := Lib.hid p4
        have P5 := Lib.hid p5
        have P6 := Lib.hid p6
        have P7 := Lib.hid p7
        have P8 := Lib.hid p8
        have P9 := Lib.hid p9
        have P10 := Lib.hid p10
        have P11 := Lib.hid p11
        have HS := Lib.hid hS
        clear hS hLi hafter p0 p1 p2 p3 p4 p5 p6 p7 p8 p9 p10 p11
        simp only [Act.put, List.setIfInBounds_toArray, List.set_cons_zero, List.set_cons_succ]
        go_wp2_with fail
        refine (Try.cmp_Compare_int _ _ _).mono ?_
        rintro e wn ⟨rfl, rfl⟩
        rw [HC1.out]
        go_wp2_with fail
        exact ⟨u5, .int .i64 x1, u7, .int .i64 y1, .int .i64 c1, u10, u11, u12, u13, u14, u15, u16, .inl ⟨by simp only [Act.put, List.setIfInBounds_toArray, List.set_cons_zero, List.set_cons_succ], by simpa using hLl, HS.out, (fun h => by first | rfl | exact P0.out (by simpa using h)), (fun h => by first | rfl | exact P1.out (by simpa using h)), (fun h => by first | rfl | exact P2.out (by simpa using h)), (fun h => by first | rfl | exact P3.out (by simpa using h)), (fun _ => rfl), (fun h => by first | rfl | exact P5.out (by simpa using h)), (fun h => by first | rfl | exact P6.out (by simpa using h)), (fun h => by first | rfl | exact P7.out (by simpa using h)), (fun h => by first | rfl | exact P8.out (by simpa using h)), (fun h => by first | rfl | exact P9.out (by simpa using h)), (fun h => P10.out (by simpa using h)), (fun h => by first | rfl | exact P11.out (by simpa using h))⟩⟩
      · simp only [List.getElem?_toArray, List.getElem?_cons_zero, List.getElem?_cons_succ, Option.some.injEq] at ho
        subst ho
        have P0 := Lib.hid p0
        have P1 := Lib.hid p1
        have P2 := Lib.hid p2
        have P3 := Lib.hid p3
        have P4 := Lib.hid p4
        have P5 := Lib.hid p5
        have P6 := Lib.hid p6
        have P7 := Lib.hid p7
        have P8 := Lib.hid p8
        have P9 := Lib.hid p9
        have P10 := Lib.hid p10
        have P11 := Lib.hid p11
        have HS := Lib.hid hS
        clear hS hLi hafter p0 p1 p2 p3 p4 p5 p6 p7 p8 p9 p10 p11
        simp only [Act.put, List.setIfInBounds_toArray, List.set_cons_zero, List.set_cons_succ]
        go_wp2_with fail
        exact ⟨u5, u6, u7, u8, u9, .pointer (some ⟨W.heap.size, 1, none⟩), u11, u12, u13, u14, u15, u16, .inl ⟨by simp only [Act.put, List.setIfInBounds_toArray, List.set_cons_zero, List.set_cons_succ], by simpa using hLl, HS.out, (fun h => by first | rfl | exact P0.out (by simpa using h)), (fun h => by first | rfl | exact P1.out (by simpa using h)), (fun h => by first | rfl | exact P2.out (by simpa using h)), (fun h => by first | rfl | exact P3.out (by simpa using h)), (fun h => by first | rfl | exact P4.out (by simpa using h)), (fun _ => rfl), (fun h => by first | rfl | exact P6.out (by simpa using h)), (fun h => by first | rfl | exact P7.out (by simpa using h)), (fun h => by first | rfl | exact P8.out (by simpa using h)), (fun h => by first | rfl | exact P9.out (by simpa using h)), (fun h => P10.out (by simpa using h)), (fun h => by first | rfl | exact P11.out (by simpa using h))⟩⟩
      · simp only [List.getElem?_toArray, List.getElem?_cons_zero, List.getElem?_cons_succ, Option.some.injEq] at ho
        subst ho
        obtain rfl := p5 (hafter ⟨5, .data⟩ (by simp) rfl)
        have c0 := (hS.bel.cell (p := ⟨W.heap.size, 1, none⟩) hl_P).trans k_P_1
        have P0 := Lib.hid p0
        have P1 := Lib.hid p1
        have P2 := Lib.hid p2
        have P3 := Lib.hid p3
        have P4 := Lib.hid p4
        have P5 := Lib.hid p5
        have P6 := Lib.hid p6
        have P7 := Lib.hid p7
        have P8 := Lib.hid p8
        have P9 := Lib.hid p9
        have P10 := Lib.hid p10
        have P11 := Lib.hid p11
        have HS := Lib.hid hS
        clear hS hLi hafter p0 p1 p2 p3 p4 p5 p6 p7 p8 p9 p10 p11
        simp only [Act.put, List.setIfInBounds_toArray, List.set_cons_zero, List.set_cons_succ]
        go_wp2_with fail
        exact ⟨u5, u6, u7, u8, u9, .pointer (some ⟨W.heap.size, 1, none⟩), .int .i64 x2, u12, u13, u14, u15, u16, .inl ⟨by simp only [Act.put, List.setIfInBounds_toArray, List.set_cons_zero, List.set_cons_succ], by simpa using hLl, HS.out, (fun h => by first | rfl | exact P0.out (by simpa using h)), (fun h => by first | rfl | exact P1.out (by simpa using h)), (fun h => by first | rfl | exact P2.out (by simpa using h)), (fun h => by first | rfl | exact P3.out (by simpa using h)), (fun h => by first | rfl | exact P4.out (by simpa using h)), (fun h => by first | rfl | exact P5.out (by simpa using h)), (fun _ => rfl), (fun h => by first | rfl | exact P7.out (by simpa using h)), (fun h => by first | rfl | exact P8.out (by simpa using h)), (fun h => by first | rfl | exact P9.out (by simpa using h)), (fun h => P10.out (by simpa using h)), (fun h => by first | rfl | exact P11.out (by simpa using h))⟩⟩
      · simp only [List.getElem?_toArray, List.getElem?_cons_zero, List.getElem?_cons_succ, Option.some.injEq] at ho
        subst ho
        have P0 := Lib.hid p0
        have P1 := Lib.hid p1
        have P2 := Lib.hid p2
        have P3 := Lib.hid p3
        have P4 := Lib.hid p4
        have P5 := Lib.hid p5
        have P6 := Lib.hid p6
        have P7 := Lib.hid p7
        have P8 := Lib.hid p8
        have P9 := Lib.hid p9
        have P10 := Lib.hid p10
        have P11 := Lib.hid p11
        have HS := Lib.hid hS
        clear hS hLi hafter p0 p1 p2 p3 p4 p5 p6 p7 p8 p9 p10 p11
        simp only [Act.put, List.setIfInBounds_toArray, List.set_cons_zero, List.set_cons_succ]
        go_wp2_with fail
        exact ⟨u5, u6, u7, u8, u9, u10, u11, .pointer (some ⟨W.heap.size + 1, 1, none⟩), u13, u14, u15, u16, .inl ⟨by simp only [Act.put, List.setIfInBounds_toArray, List.set_cons_zero, List.set_cons_succ], by simpa using hLl, HS.out, (fun h => by first | rfl | exact P0.out (by simpa using h)), (fun h => by first | rfl | exact P1.out (by simpa using h)), (fun h => by first | rfl | exact P2.out (by simpa using h)), (fun h => by first | rfl | exact P3.out (by simpa using h)), (fun h => by first | rfl | exact P4.out (by simpa using h)), (fun h => by first | rfl | exact P5.out (by simpa using h)), (fun h => by first | rfl | exact P6.out (by simpa using h)), (fun _ => rfl), (fun h => by first | rfl | exact P8.out (by simpa using h)), (fun h => by first | rfl | exact P9.out (by simpa using h)), (fun h => P10.out (by simpa using h)), (fun h => by first | rfl | exact P11.out (by simpa using h))⟩⟩
      · simp only [List.getElem?_toArray, List.getElem?_cons_zero, List.getElem?_cons_succ, Option.some.injEq] at ho
        subst ho
        obtain rfl := p7 (hafter ⟨7, .data⟩ (by simp) rfl)
        have c0 := (hS.bel.cell (p := ⟨W.heap.size + 1, 1, none⟩) hl_Q).trans k_Q_1
        have P0 := Lib.hid p0
        have P1 := Lib.hid p1
        have P2 := Lib.hid p2
        have P3 := Lib.hid p3
        have P4 := Lib.hid p4
        have P5 := Lib.hid p5
        have P6 := Lib.hid p6
        have P7 := Lib.hid p7
        have P8 := Lib.hid p8
        have P9 := Lib.hid p9
        have P10 := Lib.hid p10
        have P11 := Lib.hid p11
        have HS := Lib.hid hS
        clear hS hLi hafter p0 p1 p2 p3 p4 p5 p6 p7 p8 p9 p10 p11
        simp only [Act.put, List.setIfInBounds_toArray, List.set_cons_zero, List.set_cons_succ]
        go_wp2_with fail
        exact ⟨u5, u6, u7, u8, u9, u10, u11, .pointer (some ⟨W.heap.size + 1, 1, none⟩), .int .i64 y2, u14, u15, u16, .inl ⟨by simp only [Act.put, List.setIfInBounds_toArray, List.set_cons_zero, List.set_cons_succ], by simpa using hLl, HS.out, (fun h => by first | rfl | exact P0.out (by simpa using h)), (fun h => by first | rfl | exact P1.out (by simpa using h)), (fun h => by first | rfl | exact P2.out (by simpa using h)), (fun h => by first | rfl | exact P3.out (by simpa using h)), (fun h => by first | rfl | exact P4.out (by simpa using h)), (fun h => by first | rfl | exact P5.out (by simpa using h)), (fun h => by first | rfl | exact P6.out (by simpa using h)), (fun h => by first | rfl | exact P7.out (by simpa using h)), (fun _ => rfl), (fun h => by first | rfl | exact P9.out (by simpa using h)), (fun h => P10.out (by simpa using h)), (fun h => by first | rfl | exact P11.out (by simpa using h))⟩⟩
      · simp only [List.getElem?_toArray, List.getElem?_cons_zero, List.getElem?_cons_succ, Option.some.injEq] at ho
        subst ho
        obtain rfl := p6 (hafter ⟨6, .data⟩ (by simp) rfl)
        obtain rfl := p8 (hafter ⟨8, .data⟩ (by simp) rfl)
        have P0 := Lib.hid p0
        have P1 := Lib.hid p1
        have P2 := Lib.hid p2
        have P3 := Lib.hid p3
        have P4 := Lib.hid p4
        have P5 := Lib.hid p5
        have P6 := Lib.hid p6
        have P7 := Lib.hid p7
        have P8 := Lib.hid p8
        have P9 := Lib.hid p9
        have P10 := Lib.hid p10
        have P11 := Lib.hid p11
        have HS := Lib.hid hS
        clear hS hLi hafter p0 p1 p2 p3 p4 p5 p6 p7 p8 p9 p10 p11
        simp only [Act.put, List.setIfInBounds_toArray, List.set_cons_zero, List.set_cons_succ]
        go_wp2_with fail
        refine (Try.cmp_Compare_int _ _ _).mono ?_
        rintro e wn ⟨rfl, rfl⟩
        rw [HC2.out]
        go_wp2_with fail
        exact ⟨u5, u6, u7, u8, u9, u10, .int .i64 x2, u12, .int .i64 y2, .int .i64 c2, u15, u16, .inl ⟨by simp only [Act.put, List.setIfInBounds_toArray, List.set_cons_zero, List.set_cons_succ], by simpa using hLl, HS.out, (fun h => by first | rfl | exact P0.out (by simpa using h)), (fun h => by first | rfl | exact P1.out (by simpa using h)), (fun h => by first | rfl | exact P2.out (by simpa using h)), (fun h => by first | rfl | exact P3.out (by simpa using h)), (fun h => by first | rfl | exact P4.out (by simpa using h)), (fun h => by first | rfl | exact P5.out (by simpa using h)), (fun h => by first | rfl | exact P6.out (by simpa using h)), (fun h => by first | rfl | exact P7.out (by simpa using h)), (fun h => by first | rfl | exact P8.out (by simpa using h)), (fun _ => rfl), (fun h => P10.out (by simpa using h)), (fun h => by first | rfl | exact P11.out (by simpa using h))⟩⟩
      · simp only [List.getElem?_toArray, List.getElem?_cons_zero, List.getElem?_cons_succ, Option.some.injEq] at ho
        subst ho
        obtain rfl := p4 (hafter ⟨4, .data⟩ (by simp) rfl)
        obtain rfl := p9 (hafter ⟨9, .data⟩ (by simp) rfl)
        have P0 := Lib.hid p0
        have P1 := Lib.hid p1
        have P2 := Lib.hid p2
        have P3 := Lib.hid p3
        have P4 := Lib.hid p4
        have P5 := Lib.hid p5
        have P6 := Lib.hid p6
        have P7 := Lib.hid p7
        have P8 := Lib.hid p8
        have P9 := Lib.hid p9
        have P10 := Lib.hid p10
        have P11 := Lib.hid p11
        have HS := Lib.hid hS
        clear hS hLi hafter p0 p1 p2 p3 p4 p5 p6 p7 p8 p9 p10 p11
        simp only [Act.put, List.setIfInBounds_toArray, List.set_cons_zero, List.set_cons_succ]
        go_wp2_with fail
        exact ⟨u5, u6, u7, u8, .int .i64 c1, u10, u11, u12, u13, .int .i64 c2, .slice (some ⟨wq.heap.size, 0, none⟩) 2 2, u16, .inl ⟨by simp only [Act.put, List.setIfInBounds_toArray, List.set_cons_zero, List.set_cons_succ], by simpa using hLl, (HS.out.alloc _), (fun h => by first | rfl | exact P0.out (by simpa using h)), (fun h => by first | rfl | exact P1.out (by simpa using h)), (fun h => by first | rfl | exact P2.out (by simpa using h)), (fun h => by first | rfl | exact P3.out (by simpa using h)), (fun h => by first | rfl | exact P4.out (by simpa using h)), (fun h => by first | rfl | exact P5.out (by simpa using h)), (fun h => by first | rfl | exact P6.out (by simpa using h)), (fun h => by first | rfl | exact P7.out (by simpa using h)), (fun h => by first | rfl | exact P8.out (by simpa using h)), (fun h => by first | rfl | exact P9.out (by simpa using h)), (fun _ => ⟨wq.heap.size, rfl, by simp, by simp⟩), (fun h => by first | rfl | exact P11.out (by simpa using h))⟩⟩
      · simp only [List.getElem?_toArray, List.getElem?_cons_zero, List.getElem?_cons_succ, Option.some.injEq] at ho
        subst ho
        have HQ10 := Lib.hid (p10 (hafter ⟨10, .data⟩ (by simp) rfl))
        have P0 := Lib.hid p0
        have P1 := Lib.hid p1
        have P2 := Lib.hid p2
        have P3 := Lib.hid p3
        have P4 := Lib.hid p4
        have P5 := Lib.hid p5
        have P6 := Lib.hid p6
        have P7 := Lib.hid p7
        have P8 := Lib.hid p8
        have P9 := Lib.hid p9
        have P10 := Lib.hid p10
        have P11 := Lib.hid p11
        have HS := Lib.hid hS
        clear hS hLi hafter p0 p1 p2 p3 p4 p5 p6 p7 p8 p9 p10 p11
        simp only [Act.put, List.setIfInBounds_toArray, List.set_cons_zero, List.set_cons_succ]
        go_wp2_with fail
        refine (or_two c1 c2 c _ _ HQ10.out HCC.out).mono ?_
        rintro e wn ⟨rfl, rfl⟩
        go_wp2_with fail
        exact ⟨u5, u6, u7, u8, u9, u10, u11, u12, u13, u14, _, .int .i64 c, .inl ⟨by simp only [Act.put, List.setIfInBounds_toArray, List.set_cons_zero, List.set_cons_succ], by simpa using hLl, HS.out, (fun h => by first | rfl | exact P0.out (by simpa using h)), (fun h => by first | rfl | exact P1.out (by simpa using h)), (fun h => by first | rfl | exact P2.out (by simpa using h)), (fun h => by first | rfl | exact P3.out (by simpa using h)), (fun h => by first | rfl | exact P4.out (by simpa using h)), (fun h => by first | rfl | exact P5.out (by simpa using h)), (fun h => by first | rfl | exact P6.out (by simpa using h)), (fun h => by first | rfl | exact P7.out (by simpa using h)), (fun h => by first | rfl | exact P8.out (by simpa using h)), (fun h => by first | rfl | exact P9.out (by simpa using h)), (fun h => P10.out (by simpa using h)), (fun _ => rfl)⟩⟩
      · simp only [List.getElem?_toArray, List.getElem?_cons_zero, List.getElem?_cons_succ, Option.some.injEq] at ho
        subst ho
        have hall : ∀ j, j < 12 → Ls j = true := by
          intro j hj
          obtain rfl | rfl | rfl | rfl | rfl | rfl | rfl | rfl | rfl | rfl | rfl | rfl : j = 0 ∨ j = 1 ∨ j = 2 ∨ j = 3 ∨ j = 4 ∨ j = 5 ∨ j = 6 ∨ j = 7 ∨ j = 8 ∨ j = 9 ∨ j = 10 ∨ j = 11 := by omega
          all_goals first | (refine hafter ⟨_, .phase⟩ ?_ rfl; simp; done) | (refine hafter ⟨_, .data⟩ ?_ rfl; simp; done)
        have HALL := Lib.hid hall
        clear hall
        obtain rfl := p11 (hafter ⟨11, .data⟩ (by simp) rfl)
        have P0 := Lib.hid p0
        have P1 := Lib.hid p1
        have P2 := Lib.hid p2
        have P3 := Lib.hid p3
        have P4 := Lib.hid p4
        have P5 := Lib.hid p5
        have P6 := Lib.hid p6
        have P7 := Lib.hid p7
        have P8 := Lib.hid p8
        have P9 := Lib.hid p9
        have P10 := Lib.hid p10
        have P11 := Lib.hid p11
        have HS := Lib.hid hS
        clear hS hLi hafter p0 p1 p2 p3 p4 p5 p6 p7 p8 p9 p10 p11
        simp only [Act.put, List.setIfInBounds_toArray, List.set_cons_zero, List.set_cons_succ]
        go_wp2_with fail
        exact ⟨u5, u6, u7, u8, u9, u10, u11, u12, u13, u14, u15, .int .i64 c, .inr ⟨(.int .i64 c), by simp only [Act.put, List.setIfInBounds_toArray, List.set_cons_zero, List.set_cons_succ], by simp, fun j hj => by simp [HALL.out j hj], ⟨rfl, HS.out⟩⟩⟩
    · exfalso
      have hi : i < 13 := (Array.getElem?_eq_some_iff.1 ho).1
      rcases Nat.lt_or_ge i 12 with h | h
      · rw [hall i h] at hLi; cases hLi
      · obtain rfl : i = 12 := by omega
        rw [h10] at hLi; cases hLi
  · intro Ls a0 wq hall hJ
    obtain ⟨u5, u6, u7, u8, u9, u10, u11, u12, u13, u14, u15, u16, ⟨rfl, h10, _⟩ | ⟨v, rfl, _, _, hcut⟩⟩ := hJ
    · rw [hall 12 (by decide)] at h10; cases h10
    · obtain ⟨rfl, hg⟩ := hcut
      have HG := Lib.hid (HG0.out.trans hg)
      clear hg hall
      simp only [Act.put, List.setIfInBounds_toArray, List.set_cons_zero, List.set_cons_succ]
      go_wp2_with fail
      go_ret
      exact ⟨rfl, HG.out⟩

theorem sortPr_own {B : Nat} {E : TypeId} (v : Value) (zs : List (Int × Int)) (w : World) (h : Op2 B E w v zs) (hl : zs.length < 4611686018427387904) :
    Calls Try.prog 30 #[v, .func (.func 31) #[] #[]] w fun e w' => e = .returned (.tuple #[]) ∧ ∃ zs', Op2 B E w' v zs' ∧ zs'.Perm zs ∧ (zs'.Pairwise fun x y => ¬ lxL y x) ∧ w.grownBy w' v.ownBlock := by
  refine (sortP_own (P := Try.prog) Try.sortStruct Try.isAgg47 Try.sizeOf47 cfP cfP_swo 31 (enters_of Try.func31 (by kernel_rfl) rfl) cmpP_any v zs w h hl).mono fun e w' he => ?_
  obtain ⟨rfl, zs', h1, h2, h3, h4⟩ := he
  exact ⟨rfl, zs', h1, h2, h3.imp fun h => by rw [cfP_lt] at h; exact fun k => (by rw [lxB_iff.2 k] at h; cases h), h4⟩

end Go.Proofs.Ytonnbcongnkcdaa
