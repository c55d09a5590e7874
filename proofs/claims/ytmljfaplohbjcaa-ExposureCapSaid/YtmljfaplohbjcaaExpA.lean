/- Contracts of exposure.limited, whole and Eligible, and of law37.large. -/
import Derived.Test.YtmljfaplohbjcaaJoR1
namespace Go.Proofs.Ytmljfaplohbjcaa
open Go.RowKit

/-- n, from 0 to 1000000 -/
def lim (n : Int) : Int := min (max n 0) 1000000
theorem lim_bd (n : Int) : 0 ≤ lim n ∧ lim n ≤ 1000000 := by unfold lim; omega
theorem of_one (n : Int) (p : Rat) (hp : (n : Rat) = p) : mkRat (zI (decide (n < 0) != decide ((1 : Int) < 0)) n.natAbs) (1 : Int).natAbs = p := by
  have h : zI (decide (n < 0) != decide ((1 : Int) < 0)) n.natAbs = n := by
    have : decide ((1 : Int) < 0) = false := rfl
    rw [this, Bool.bne_false, zI_norm]
  rw [h, ← hp]
  show mkRat n 1 = n
  first | exact Rat.mkRat_one _ | (rw [Rat.mkRat_eq_div]; grind)
theorem int_num (n : Int) (p : Rat) (hp : (n : Rat) = p) : p.num = n ∧ p.den = 1 := by subst hp; exact ⟨rfl, rfl⟩

set_option maxHeartbeats 1000000 in
theorem limited_any (n : Int) (w : World) : Calls Try.prog 18 #[.int .i64 n] w fun e w' => e = .returned (.int .i64 (lim n)) ∧ w' = w := by
  go_enter Try.func18, Try.ntmps18
  go_wp2_with fail
  go_ret
  exact ⟨rfl, rfl⟩

set_option maxHeartbeats 1000000 in
theorem ewhole_any {N : Nat} (n : Int) (w : World) (hN : N ≤ w.heap.size) (n1 : -9223372036854775808 ≤ n) (n2 : n ≤ 9223372036854775807) (p : Rat) (hp : (n : Rat) = p) :
    Calls Try.prog 31 #[.int .i64 n] w (RatPost N w p) := by
  have HP := Lib.hid (of_one n p hp)
  clear hp
  go_enter Try.func31, Try.ntmps31
  go_wp2_with fail
  refine (rof_any (N := N) n 1 _ (by simp; omega) n1 n2 (by omega) (by omega) p HP.out).mono ?_
  rintro e wa ⟨rx, cx, rx2, cx2, rfl, hn, hn', hb⟩
  obtain ⟨hcwa, hfwa⟩ := bcell hb
  have hzwa0 : w.heap.size < wa.heap.size := by have := hb.size; (try simp at this); omega
  have HBwa := Lib.hid hb
  have HNwa := Lib.hid hn
  have HN'wa := Lib.hid hn'
  clear hb hn hn'
  have HX := Lib.hid ((Bx.new' w #[.bool false, .slice none 0 0, .slice none 0 0] 38 (w.heap.size) (by simp)).below HBwa.out)
  have HF := Lib.hid (fun v0 v1 v2 => fin3 hN (by omega) HX.out HNwa.out HN'wa.out ((bel1 w _).trans (HBwa.out.mono (by first | omega | (simp; done) | (simp; omega)))) v0 v1 v2)
  go_wp2_with fail
  exact bodyPost_ret (v := .agg #[.bool (decide ((p).num < 0)), .slice rx (nlen (p).num.natAbs) cx, .slice rx2 (nlen (p).den) cx2]) (by simp [results, Try.results31, go_sem, hcwa, hzwa0]) rfl ⟨_, _, _, _, rfl, (HF.out _ _ _).1.alloc _, (HF.out _ _ _).2.1.alloc _, (HF.out _ _ _).2.2.trans ((bel1 _ _).mono (by simp; omega))⟩
  

/-- what exposure.Eligible says -/
def elig (count served : Int) (q : Rat) (slack : Int) : Bool := decide (((lim count + 1 : Int) : Rat) ≤ q * ((lim served + 1 + lim slack : Int) : Rat))
theorem rsz_int (n : Int) (h : n.natAbs < 4294967296) (p : Rat) (hp : (n : Rat) = p) : rsz p ≤ 1 := by
  obtain ⟨h1, h2⟩ := int_num n p hp
  unfold rsz
  rw [h1, h2]
  have := nlen_small (m := n.natAbs) (by simpa [B] using h)
  have := nlen_small (m := 1) (by decide)
  omega
theorem cmpQ_le (p q : Rat) : decide (cmpQ p q ≤ 0) = decide (p ≤ q) := by
  unfold cmpQ
  by_cases h1 : p < q
  · rw [if_pos h1]; have : p ≤ q := Rat.le_of_lt h1; simp [this]
  · rw [if_neg h1]
    by_cases h2 : q < p
    · rw [if_pos h2]; have : ¬ p ≤ q := Rat.not_le.2 h2; simp [this]
    · rw [if_neg h2]; have : p ≤ q := Rat.not_lt.1 h2; simp [this]

def EligJ (N : Nat) (served slack : Int) (s : Bool) (a d : Option Addr) (na ca nd cd : Nat) (p1 p2 : Rat) (W : World) (z0 : Act) (L : Nat → Bool) (z1 : Act) (w : World) : Prop :=
  ∃ u10 u11 u12 u13 u14 u15 u16 u17 u18 u9, z1 = ((((((((((z0.put (some 10) u10).put (some 11) u11).put (some 12) u12).put (some 13) u13).put (some 14) u14).put (some 15) u15).put (some 16) u16).put (some 17) u17).put (some 18) u18).put (some 9) u9) ∧
    ((L 10 = false ∧ Since W w ∧ (L 0 = true → u10 = .agg #[.bool s, .slice a na ca, .slice d nd cd]) ∧ (L 1 = true → u11 = .int .i64 (served)) ∧ (L 2 = true → u12 = .int .i64 (lim served)) ∧ (L 3 = true → u13 = .int .i64 (lim served + 1)) ∧ (L 4 = true → u14 = .int .i64 (slack)) ∧ (L 5 = true → u15 = .int .i64 (lim slack)) ∧ (L 6 = true → u16 = .int .i64 (lim served + 1 + lim slack)) ∧ (L 7 = true → IsRat N p1 u17 w) ∧ (L 8 = true → IsRat N p2 u18 w) ∧ (L 9 = true → IsBox W.heap.size 38 3 u9 w)) ∨
     (L 10 = true ∧ (∀ j, j < 10 → L j = true) ∧ CutRat N W p2 u9 w))

set_option maxHeartbeats 4000000 in
theorem elig_any {N : Nat} (count served slack : Int) (s : Bool) (a d : Option Addr) (na ca nd cd L : Nat) (q : Rat) (w : World) (hN : N ≤ w.heap.size) (h : Rt N w s a na ca d nd cd q L) (hL : L ≤ 1073741824) :
    Calls Try.prog 14 #[.int .i64 count, .int .i64 served, .agg #[.bool s, .slice a na ca, .slice d nd cd], .int .i64 slack] w fun e w' => e = .returned (.bool (elig count served q slack)) ∧ Below w.heap.size w w' := by
  obtain ⟨W, hW, hWs, k0, k1, k2⟩ : ∃ W, w.alloc (.cells #[.bool s, .slice a na ca, .slice d nd cd] 38) = W ∧ W.heap.size = w.heap.size + 1 ∧ W.cell? ⟨w.heap.size, 0, none⟩ = some (.bool s) ∧ W.cell? ⟨w.heap.size, 1, none⟩ = some (.slice a na ca) ∧ W.cell? ⟨w.heap.size, 2, none⟩ = some (.slice d nd cd) := ⟨_, rfl, by simp, by go_simp, by go_simp, by go_simp⟩
  have H := Lib.hid (show Rt N W s a na ca d nd cd q L by rw [← hW]; exact (h.alloc (.cells #[.bool s, .slice a na ca, .slice d nd cd] 38)))
  clear h
  obtain ⟨lc0, lc1⟩ := lim_bd count
  obtain ⟨ls0, ls1⟩ := lim_bd served
  obtain ⟨lk0, lk1⟩ := lim_bd slack
  obtain ⟨p1, hp1⟩ : ∃ p, ((lim served + 1 + lim slack : Int) : Rat) = p := ⟨_, rfl⟩
  obtain ⟨p2, hp2⟩ : ∃ p, q * p1 = p := ⟨_, rfl⟩
  obtain ⟨p3, hp3⟩ : ∃ p, ((lim count + 1 : Int) : Rat) = p := ⟨_, rfl⟩
  have HE := Lib.hid (show decide (cmpQ p3 p2 ≤ 0) = elig count served q slack by rw [cmpQ_le, ← hp3, ← hp2, ← hp1]; rfl)
  have HSZ := Lib.hid (rsz_int (lim served + 1 + lim slack) (by omega) p1 hp1)
  have HSZ3 := Lib.hid (rsz_int (lim count + 1) (by omega) p3 hp3)
  have HSZ2 := Lib.hid (show rsz p2 ≤ 68719476736 by have h1 := rsz_mul q p1; have h2 := H.out.rsz_le; have h3 := HSZ.out; rw [← hp2]; omega)
  have HP1 := Lib.hid hp1
  have HP2 := Lib.hid hp2
  have HP3 := Lib.hid hp3
  have HNW := Lib.hid (show N ≤ W.heap.size by rw [← hW]; simp; omega)
  clear hp1 hp2 hp3
  go_enter Try.func14, Try.ntmps14
  go_upto_region 1 with fail
  try rw [hW]
  have HBW := Lib.hid (show Below w.heap.size w W by rw [← hW]; exact bel1 _ _)
  clear hW
  go_cut [9] (fun s9 wx => CutRat N W p2 s9 wx)
  case first =>
    refine region_inv2 (by kernel_rfl) (EligJ N served slack s a d na ca nd cd p1 p2 (W)) ?_ ?_ ?_ ?_
    · exact ⟨undef, undef, undef, undef, undef, undef, undef, undef, undef, undef, by simp only [Act.put, List.setIfInBounds_toArray, List.set_cons_zero, List.set_cons_succ], .inl ⟨rfl, Since.drawn _, (fun h => by cases h), (fun h => by cases h), (fun h => by cases h), (fun h => by cases h), (fun h => by cases h), (fun h => by cases h), (fun h => by cases h), (fun h => by cases h), (fun h => by cases h), (fun h => by cases h)⟩⟩
    · exact acyc_spec (by kernel_rfl)
    · intro Ls a0 wq i o ho hLi hafter hJ
      obtain ⟨u10, u11, u12, u13, u14, u15, u16, u17, u18, u9, rfl, hJ | ⟨h10, hall, _⟩⟩ := hJ
      · obtain ⟨hLl, hS, p0, p1, p2, p3, p4, p5, p6, p7, p8, p9⟩ := hJ
        have hi : i < 11 := (Array.getElem?_eq_some_iff.1 ho).1
        obtain rfl | rfl | rfl | rfl | rfl | rfl | rfl | rfl | rfl | rfl | rfl : i = 0 ∨ i = 1 ∨ i = 2 ∨ i = 3 ∨ i = 4 ∨ i = 5 ∨ i = 6 ∨ i = 7 ∨ i = 8 ∨ i = 9 ∨ i = 10 := by omega
        · simp only [List.getElem?_toArray, List.getElem?_cons_zero, Option.some.injEq] at ho
          subst ho
          have c0 := (hS.1.cell (p := ⟨w.heap.size, 0, none⟩) (by show w.heap.size < W.heap.size; omega)).trans k0
          have c1 := (hS.1.cell (p := ⟨w.heap.size, 1, none⟩) (by show w.heap.size < W.heap.size; omega)).trans k1
          have c2 := (hS.1.cell (p := ⟨w.heap.size, 2, none⟩) (by show w.heap.size < W.heap.size; omega)).trans k2
          have P0 := Lib.hid p0
          have P1 := Lib.hid p1
          have P2 := Lib.hid p2
          have P3 := Lib.hid p3
          have P4 := Lib.hid p4
          have P5 := Lib.hid p5
          have P6 := Lib.hid p6
          have P7 := Lib.hid p7
          have P8 := Lib.hid p8
          have P9 := Lib.hid p9
          have HS := Lib.hid hS
          clear hS hLi hafter p0 p1 p2 p3 p4 p5 p6 p7 p8 p9
          simp only [Act.put, List.setIfInBounds_toArray, List.set_cons_zero, List.set_cons_succ]
          go_wp2_with fail
          exact ⟨.agg #[.bool s, .slice a na ca, .slice d nd cd], u11, u12, u13, u14, u15, u16, u17, u18, u9, by simp only [Act.put, List.setIfInBounds_toArray, List.set_cons_zero, List.set_cons_succ], .inl ⟨by simpa using hLl, HS.out, (fun _ => rfl), (fun h => by first | rfl | exact P1.out (by simpa using h)), (fun h => by first | rfl | exact P2.out (by simpa using h)), (fun h => by first | rfl | exact P3.out (by simpa using h)), (fun h => by first | rfl | exact P4.out (by simpa using h)), (fun h => by first | rfl | exact P5.out (by simpa using h)), (fun h => by first | rfl | exact P6.out (by simpa using h)), (fun h => P7.out (by simpa using h)), (fun h => P8.out (by simpa using h)), (fun h => P9.out (by simpa using h))⟩⟩
        · simp only [List.getElem?_toArray, List.getElem?_cons_zero, List.getElem?_cons_succ, Option.some.injEq] at ho
          subst ho
          have P0 := Lib.hid p0
          have P1 := Lib.hid p1
          have P2 := Lib.hid p2
          have P3 := Lib.hid p3
          have P4 := Lib.hid p4
          have P5 := Lib.hid p5
          have P6 := Lib.hid p6
          have P7 := Lib.hid p7
          have P8 := Lib.hid p8
          have P9 := Lib.hid p9
          have HS := Lib.hid hS
          clear hS hLi hafter p0 p1 p2 p3 p4 p5 p6 p7 p8 p9
          simp only [Act.put, List.setIfInBounds_toArray, List.set_cons_zero, List.set_cons_succ]
          go_wp2_with fail
          exact ⟨u10, .int .i64 (served), u12, u13, u14, u15, u16, u17, u18, u9, by simp only [Act.put, List.setIfInBounds_toArray, List.set_cons_zero, List.set_cons_succ], .inl ⟨by simpa using hLl, HS.out, (fun h => by first | rfl | exact P0.out (by simpa using h)), (fun _ => rfl), (fun h => by first | rfl | exact P2.out (by simpa using h)), (fun h => by first | rfl | exact P3.out (by simpa using h)), (fun h => by first | rfl | exact P4.out (by simpa using h)), (fun h => by first | rfl | exact P5.out (by simpa using h)), (fun h => by first | rfl | exact P6.out (by simpa using h)), (fun h => P7.out (by simpa using h)), (fun h => P8.out (by simpa using h)), (fun h => P9.out (by simpa using h))⟩⟩
        · simp only [List.getElem?_toArray, List.getElem?_cons_zero, List.getElem?_cons_succ, Option.some.injEq] at ho
          subst ho
          obtain rfl := p1 (hafter ⟨1, .data⟩ (by simp) rfl)
          have P0 := Lib.hid p0
          have P1 := Lib.hid p1
          have P2 := Lib.hid p2
          have P3 := Lib.hid p3
          have P4 := Lib.hid p4
          have P5 := Lib.hid p5
          have P6 := Lib.hid p6
          have P7 := Lib.hid p7
          have P8 := Lib.hid p8
          have P9 := Lib.hid p9
          have HS := Lib.hid hS
          clear hS hLi hafter p0 p1 p2 p3 p4 p5 p6 p7 p8 p9
          simp only [Act.put, List.setIfInBounds_toArray, List.set_cons_zero, List.set_cons_succ]
          go_wp2_with fail
          refine (limited_any _ _).mono ?_
          rintro e wc ⟨rfl, rfl⟩
          go_wp2_with fail
          exact ⟨u10, .int .i64 (served), .int .i64 (lim served), u13, u14, u15, u16, u17, u18, u9, by simp only [Act.put, List.setIfInBounds_toArray, List.set_cons_zero, List.set_cons_succ], .inl ⟨by simpa using hLl, HS.out, (fun h => by first | rfl | exact P0.out (by simpa using h)), (fun h => by first | rfl | exact P1.out (by simpa using h)), (fun _ => rfl), (fun h => by first | rfl | exact P3.out (by simpa using h)), (fun h => by first | rfl | exact P4.out (by simpa using h)), (fun h => by first | rfl | exact P5.out (by simpa using h)), (fun h => by first | rfl | exact P6.out (by simpa using h)), (fun h => P7.out (by simpa using h)), (fun h => P8.out (by simpa using h)), (fun h => P9.out (by simpa using h))⟩⟩
        · simp only [List.getElem?_toArray, List.getElem?_cons_zero, List.getElem?_cons_succ, Option.some.injEq] at ho
          subst ho
          obtain rfl := p2 (hafter ⟨2, .data⟩ (by simp) rfl)
          have P0 := Lib.hid p0
          have P1 := Lib.hid p1
          have P2 := Lib.hid p2
          have P3 := Lib.hid p3
          have P4 := Lib.hid p4
          have P5 := Lib.hid p5
          have P6 := Lib.hid p6
          have P7 := Lib.hid p7
          have P8 := Lib.hid p8
          have P9 := Lib.hid p9
          have HS := Lib.hid hS
          clear hS hLi hafter p0 p1 p2 p3 p4 p5 p6 p7 p8 p9
          simp only [Act.put, List.setIfInBounds_toArray, List.set_cons_zero, List.set_cons_succ]
          go_wp2_with fail
          exact ⟨u10, u11, .int .i64 (lim served), .int .i64 (lim served + 1), u14, u15, u16, u17, u18, u9, by simp only [Act.put, List.setIfInBounds_toArray, List.set_cons_zero, List.set_cons_succ], .inl ⟨by simpa using hLl, HS.out, (fun h => by first | rfl | exact P0.out (by simpa using h)), (fun h => by first | rfl | exact P1.out (by simpa using h)), (fun h => by first | rfl | exact P2.out (by simpa using h)), (fun _ => rfl), (fun h => by first | rfl | exact P4.out (by simpa using h)), (fun h => by first | rfl | exact P5.out (by simpa using h)), (fun h => by first | rfl | exact P6.out (by simpa using h)), (fun h => P7.out (by simpa using h)), (fun h => P8.out (by simpa using h)), (fun h => P9.out (by simpa using h))⟩⟩
        · simp only [List.getElem?_toArray, List.getElem?_cons_zero, List.getElem?_cons_succ, Option.some.injEq] at ho
          subst ho
          have P0 := Lib.hid p0
          have P1 := Lib.hid p1
          have P2 := Lib.hid p2
          have P3 := Lib.hid p3
          have P4 := Lib.hid p4
          have P5 := Lib.hid p5
          have P6 := Lib.hid p6
          have P7 := Lib.hid p7
          have P8 := Lib.hid p8
          have P9 := Lib.hid p9
          have HS := Lib.hid hS
          clear hS hLi hafter p0 p1 p2 p3 p4 p5 p6 p7 p8 p9
          simp only [Act.put, List.setIfInBounds_toArray, List.set_cons_zero, List.set_cons_succ]
          go_wp2_with fail
          exact ⟨u10, u11, u12, u13, .int .i64 (slack), u15, u16, u17, u18, u9, by simp only [Act.put, List.setIfInBounds_toArray, List.set_cons_zero, List.set_cons_succ], .inl ⟨by simpa using hLl, HS.out, (fun h => by first | rfl | exact P0.out (by simpa using h)), (fun h => by first | rfl | exact P1.out (by simpa using h)), (fun h => by first | rfl | exact P2.out (by simpa using h)), (fun h => by first | rfl | exact P3.out (by simpa using h)), (fun _ => rfl), (fun h => by first | rfl | exact P5.out (by simpa using h)), (fun h => by first | rfl | exact P6.out (by simpa using h)), (fun h => P7.out (by simpa using h)), (fun h => P8.out (by simpa using h)), (fun h => P9.out (by simpa using h))⟩⟩
        · simp only [List.getElem?_toArray, List.getElem?_cons_zero, List.getElem?_cons_succ, Option.some.injEq] at ho
          subst ho
          obtain rfl := p4 (hafter ⟨4, .data⟩ (by simp) rfl)
          have P0 := Lib.hid p0
          have P1 := Lib.hid p1
          have P2 := Lib.hid p2
          have P3 := Lib.hid p3
          have P4 := Lib.hid p4
          have P5 := Lib.hid p5
          have P6 := Lib.hid p6
          have P7 := Lib.hid p7
          have P8 := Lib.hid p8
          have P9 := Lib.hid p9
          have HS := Lib.hid hS
          clear hS hLi hafter p0 p1 p2 p3 p4 p5 p6 p7 p8 p9
          simp only [Act.put, List.setIfInBounds_toArray, List.set_cons_zero, List.set_cons_succ]
          go_wp2_with fail
          refine (limited_any _ _).mono ?_
          rintro e wc ⟨rfl, rfl⟩
          go_wp2_with fail
          exact ⟨u10, u11, u12, u13, .int .i64 (slack), .int .i64 (lim slack), u16, u17, u18, u9, by simp only [Act.put, List.setIfInBounds_toArray, List.set_cons_zero, List.set_cons_succ], .inl ⟨by simpa using hLl, HS.out, (fun h => by first | rfl | exact P0.out (by simpa using h)), (fun h => by first | rfl | exact P1.out (by simpa using h)), (fun h => by first | rfl | exact P2.out (by simpa using h)), (fun h => by first | rfl | exact P3.out (by simpa using h)), (fun h => by first | rfl | exact P4.out (by simpa using h)), (fun _ => rfl), (fun h => by first | rfl | exact P6.out (by simpa using h)), (fun h => P7.out (by simpa using h)), (fun h => P8.out (by simpa using h)), (fun h => P9.out (by simpa using h))⟩⟩
        · simp only [List.getElem?_toArray, List.getElem?_cons_zero, List.getElem?_cons_succ, Option.some.injEq] at ho
          subst ho
          obtain rfl := p3 (hafter ⟨3, .data⟩ (by simp) rfl)
          obtain rfl := p5 (hafter ⟨5, .data⟩ (by simp) rfl)
          have P0 := Lib.hid p0
          have P1 := Lib.hid p1
          have P2 := Lib.hid p2
          have P3 := Lib.hid p3
          have P4 := Lib.hid p4
          have P5 := Lib.hid p5
          have P6 := Lib.hid p6
          have P7 := Lib.hid p7
          have P8 := Lib.hid p8
          have P9 := Lib.hid p9
          have HS := Lib.hid hS
          clear hS hLi hafter p0 p1 p2 p3 p4 p5 p6 p7 p8 p9
          simp only [Act.put, List.setIfInBounds_toArray, List.set_cons_zero, List.set_cons_succ]
          go_wp2_with fail
          exact ⟨u10, u11, u12, .int .i64 (lim served + 1), u14, .int .i64 (lim slack), .int .i64 (lim served + 1 + lim slack), u17, u18, u9, by simp only [Act.put, List.setIfInBounds_toArray, List.set_cons_zero, List.set_cons_succ], .inl ⟨by simpa using hLl, HS.out, (fun h => by first | rfl | exact P0.out (by simpa using h)), (fun h => by first | rfl | exact P1.out (by simpa using h)), (fun h => by first | rfl | exact P2.out (by simpa using h)), (fun h => by first | rfl | exact P3.out (by simpa using h)), (fun h => by first | rfl | exact P4.out (by simpa using h)), (fun h => by first | rfl | exact P5.out (by simpa using h)), (fun _ => rfl), (fun h => P7.out (by simpa using h)), (fun h => P8.out (by simpa using h)), (fun h => P9.out (by simpa using h))⟩⟩
        · simp only [List.getElem?_toArray, List.getElem?_cons_zero, List.getElem?_cons_succ, Option.some.injEq] at ho
          subst ho
          obtain rfl := p6 (hafter ⟨6, .data⟩ (by simp) rfl)
          have P0 := Lib.hid p0
          have P1 := Lib.hid p1
          have P2 := Lib.hid p2
          have P3 := Lib.hid p3
          have P4 := Lib.hid p4
          have P5 := Lib.hid p5
          have P6 := Lib.hid p6
          have P7 := Lib.hid p7
          have P8 := Lib.hid p8
          have P9 := Lib.hid p9
          have HS := Lib.hid hS
          clear hS hLi hafter p0 p1 p2 p3 p4 p5 p6 p7 p8 p9
          simp only [Act.put, List.setIfInBounds_toArray, List.set_cons_zero, List.set_cons_succ]
          go_wp2_with fail
          refine (ewhole_any (N := N) _ _ (Nat.le_trans HNW.out HS.out.2) (by omega) (by omega) p1 HP1.out).mono ?_
          rintro e wc ⟨r, c, r2, c2, rfl, hn, hn', hb⟩
          have HN := Lib.hid hn
          have HM := Lib.hid hn'
          have Hb := Lib.hid hb
          clear hn hn' hb
          go_wp2_with fail
          exact ⟨u10, u11, u12, u13, u14, u15, .int .i64 (lim served + 1 + lim slack), _, u18, u9, by simp only [Act.put, List.setIfInBounds_toArray, List.set_cons_zero, List.set_cons_succ], .inl ⟨by simpa using hLl, HS.out.below Hb.out, (fun h => by first | rfl | exact P0.out (by simpa using h)), (fun h => by first | rfl | exact P1.out (by simpa using h)), (fun h => by first | rfl | exact P2.out (by simpa using h)), (fun h => by first | rfl | exact P3.out (by simpa using h)), (fun h => by first | rfl | exact P4.out (by simpa using h)), (fun h => by first | rfl | exact P5.out (by simpa using h)), (fun h => by first | rfl | exact P6.out (by simpa using h)), (fun _ => ⟨r, c, r2, c2, rfl, HN.out, HM.out⟩), (fun h => (P8.out (by simpa using h)).below Hb.out), (fun h => (P9.out (by simpa using h)).below Hb.out)⟩⟩
        · simp only [List.getElem?_toArray, List.getElem?_cons_zero, List.getElem?_cons_succ, Option.some.injEq] at ho
          subst ho
          obtain rfl := p0 (hafter ⟨0, .data⟩ (by simp) rfl)
          obtain ⟨r7, c7, t7, d7, rfl, hn7, hm7⟩ := p7 (hafter ⟨7, .data⟩ (by simp) rfl)
          have HN7 := Lib.hid hn7
          have HM7 := Lib.hid hm7
          clear hn7 hm7
          have P0 := Lib.hid p0
          have P1 := Lib.hid p1
          have P2 := Lib.hid p2
          have P3 := Lib.hid p3
          have P4 := Lib.hid p4
          have P5 := Lib.hid p5
          have P6 := Lib.hid p6
          have P7 := Lib.hid p7
          have P8 := Lib.hid p8
          have P9 := Lib.hid p9
          have HS := Lib.hid hS
          clear hS hLi hafter p0 p1 p2 p3 p4 p5 p6 p7 p8 p9
          simp only [Act.put, List.setIfInBounds_toArray, List.set_cons_zero, List.set_cons_succ]
          go_wp2_with fail
          refine (rmul_any (N := N) _ _ _ _ _ _ _ _ _ _ _ _ _ _ L 1 q p1 _ (Nat.le_trans HNW.out HS.out.2) (H.out.below HS.out.1) (Rt.of_norm HN7.out HM7.out 1 HSZ.out) (by omega) (by omega) p2 HP2.out).mono ?_
          rintro e wc ⟨r, c, r2, c2, rfl, hn, hn', hb⟩
          have HN := Lib.hid hn
          have HM := Lib.hid hn'
          have Hb := Lib.hid hb
          clear hn hn' hb
          go_wp2_with fail
          exact ⟨.agg #[.bool s, .slice a na ca, .slice d nd cd], u11, u12, u13, u14, u15, u16, _, _, u9, by simp only [Act.put, List.setIfInBounds_toArray, List.set_cons_zero, List.set_cons_succ], .inl ⟨by simpa using hLl, HS.out.below Hb.out, (fun h => by first | rfl | exact P0.out (by simpa using h)), (fun h => by first | rfl | exact P1.out (by simpa using h)), (fun h => by first | rfl | exact P2.out (by simpa using h)), (fun h => by first | rfl | exact P3.out (by simpa using h)), (fun h => by first | rfl | exact P4.out (by simpa using h)), (fun h => by first | rfl | exact P5.out (by simpa using h)), (fun h => by first | rfl | exact P6.out (by simpa using h)), (fun h => (P7.out (by simpa using h)).below Hb.out), (fun _ => ⟨r, c, r2, c2, rfl, HN.out, HM.out⟩), (fun h => (P9.out (by simpa using h)).below Hb.out)⟩⟩
        · simp only [List.getElem?_toArray, List.getElem?_cons_zero, List.getElem?_cons_succ, Option.some.injEq] at ho
          subst ho
          have P0 := Lib.hid p0
          have P1 := Lib.hid p1
          have P2 := Lib.hid p2
          have P3 := Lib.hid p3
          have P4 := Lib.hid p4
          have P5 := Lib.hid p5
          have P6 := Lib.hid p6
          have P7 := Lib.hid p7
          have P8 := Lib.hid p8
          have P9 := Lib.hid p9
          have HS := Lib.hid hS
          clear hS hLi hafter p0 p1 p2 p3 p4 p5 p6 p7 p8 p9
          simp only [Act.put, List.setIfInBounds_toArray, List.set_cons_zero, List.set_cons_succ]
          go_wp2_with fail
          exact ⟨u10, u11, u12, u13, u14, u15, u16, u17, u18, _, by simp only [Act.put, List.setIfInBounds_toArray, List.set_cons_zero, List.set_cons_succ], .inl ⟨by simpa using hLl, HS.out.below (bel1 wq (.cells #[.bool false, .slice none 0 0, .slice none 0 0] 38)), (fun h => by first | rfl | exact P0.out (by simpa using h)), (fun h => by first | rfl | exact P1.out (by simpa using h)), (fun h => by first | rfl | exact P2.out (by simpa using h)), (fun h => by first | rfl | exact P3.out (by simpa using h)), (fun h => by first | rfl | exact P4.out (by simpa using h)), (fun h => by first | rfl | exact P5.out (by simpa using h)), (fun h => by first | rfl | exact P6.out (by simpa using h)), (fun h => (P7.out (by simpa using h)).below (bel1 wq (.cells #[.bool false, .slice none 0 0, .slice none 0 0] 38))), (fun h => (P8.out (by simpa using h)).below (bel1 wq (.cells #[.bool false, .slice none 0 0, .slice none 0 0] 38))), (fun _ => ⟨wq.heap.size, rfl, HS.out.2, Bk.new _ _ _⟩)⟩⟩
        · simp only [List.getElem?_toArray, List.getElem?_cons_zero, List.getElem?_cons_succ, Option.some.injEq] at ho
          subst ho
          have hall : ∀ j, j < 10 → Ls j = true := by
            intro j hj
            obtain rfl | rfl | rfl | rfl | rfl | rfl | rfl | rfl | rfl | rfl : j = 0 ∨ j = 1 ∨ j = 2 ∨ j = 3 ∨ j = 4 ∨ j = 5 ∨ j = 6 ∨ j = 7 ∨ j = 8 ∨ j = 9 := by omega
            all_goals exact hafter ⟨_, .phase⟩ (by simp) rfl
          have HALL := Lib.hid hall
          clear hall
          obtain ⟨r8, c8, t8, d8, rfl, hn8, hm8⟩ := p8 (hafter ⟨8, .data⟩ (by simp) rfl)
          have HN8 := Lib.hid hn8
          have HM8 := Lib.hid hm8
          clear hn8 hm8
          obtain ⟨g, rfl, hg, hbk⟩ := p9 (hafter ⟨9, .data⟩ (by simp) rfl)
          have f0 := hbk.frozen
          have HK := Lib.hid hbk
          obtain ⟨v0, hv0⟩ := hbk.cell (o := 0) (by omega)
          obtain ⟨v1, hv1⟩ := hbk.cell (o := 1) (by omega)
          obtain ⟨v2, hv2⟩ := hbk.cell (o := 2) (by omega)
          clear hbk
          have P0 := Lib.hid p0
          have P1 := Lib.hid p1
          have P2 := Lib.hid p2
          have P3 := Lib.hid p3
          have P4 := Lib.hid p4
          have P5 := Lib.hid p5
          have P6 := Lib.hid p6
          have P7 := Lib.hid p7
          have P8 := Lib.hid p8
          have P9 := Lib.hid p9
          have HS := Lib.hid hS
          clear hS hLi hafter p0 p1 p2 p3 p4 p5 p6 p7 p8 p9
          simp only [Act.put, List.setIfInBounds_toArray, List.set_cons_zero, List.set_cons_succ]
          go_wp2_with fail
          exact ⟨u10, u11, u12, u13, u14, u15, u16, u17, .agg #[.bool (decide (p2.num < 0)), .slice r8 (nlen p2.num.natAbs) c8, .slice t8 (nlen p2.den) d8], .pointer (some ⟨g, 0, none⟩), by simp only [Act.put, List.setIfInBounds_toArray, List.set_cons_zero, List.set_cons_succ], .inr ⟨by simp, fun j hj => by simp [HALL.out j hj], cutRat_of HNW.out hg HK.out HN8.out HM8.out HS.out⟩⟩
      · exfalso
        have hi : i < 11 := (Array.getElem?_eq_some_iff.1 ho).1
        rcases Nat.lt_or_ge i 10 with h | h
        · rw [hall i h] at hLi; cases hLi
        · obtain rfl : i = 10 := by omega
          rw [h10] at hLi; cases hLi
    · intro Ls a0 wq hall hJ
      obtain ⟨u10, u11, u12, u13, u14, u15, u16, u17, u18, u9, rfl, ⟨h10, _⟩ | ⟨_, _, hcut⟩⟩ := hJ
      · rw [hall 10 (by decide)] at h10; cases h10
      · have HC := Lib.hid hcut
        clear hcut
        simp only [Act.put, List.setIfInBounds_toArray, List.set_cons_zero, List.set_cons_succ]
        go_wp2_with fail
        go_meet
        exact HC.out
  case rest =>
    clear k0 k1 k2 H HNW
    obtain ⟨g, r, c, r2, c2, rfl, hg, hk, k0, k1, k2, hn, hn', hs⟩ := hcut
    have hgl := hk.lt
    have hs1 := hs.2
    have HNc := Lib.hid hn
    have HMc := Lib.hid hn'
    have HSc := Lib.hid hs
    clear hn hn' hs hk
    have hwr : IntKind.i64.wrap (lim count + 1) = lim count + 1 := by rw [IntKind.wrap_i64]; omega
    go_wp2_with fail
    go_region_held3 (fun w' => w'.cell? ⟨g, 0, none⟩ = some (.bool (decide (p2.num < 0))) ∧ w'.cell? ⟨g, 1, none⟩ = some (.slice r (nlen p2.num.natAbs) c) ∧ w'.cell? ⟨g, 2, none⟩ = some (.slice r2 (nlen p2.den) c2))
      (first | (go_keep; done) | ((try dsimp only); (repeat' apply And.intro) <;> (first | (go_keep; done) | (exact cell_keep_alloc_drew (by first | omega | (simp; omega)) (by first | assumption | go_simp)) | (exact cell_keep_alloc (by first | omega | (simp; omega)) (by first | assumption | go_simp)) | (rw [cell_set2 _ _ _ _ _ _ _ _ (by omega)]; assumption) | (rw [cell_set3 _ _ _ _ _ _ _ _ _ _ (by omega)]; assumption))))
      (first
        | (go_at_call 18; refine (limited_any _ _).mono ?_; rintro e wd ⟨rfl, rfl⟩)
        | (go_at_call 31; (try rw [hwr]); refine (ewhole_any (N := N) (lim count + 1) _ (by exact (show N ≤ wc.heap.size by omega)) (by omega) (by omega) p3 HP3.out).mono ?_; rintro e wd ⟨rx, cx, rx2, cx2, rfl, hn, hn', hb⟩; have kwd0 : wd.cell? ⟨g, 0, none⟩ = some (.bool (decide (p2.num < 0))) := (hb.cell (p := ⟨g, 0, none⟩) (by first | (simp; done) | (simp; omega))).trans (by first | exact k0 | go_simp); have kwd1 : wd.cell? ⟨g, 1, none⟩ = some (.slice r (nlen p2.num.natAbs) c) := (hb.cell (p := ⟨g, 1, none⟩) (by first | (simp; done) | (simp; omega))).trans (by first | exact k1 | go_simp); have kwd2 : wd.cell? ⟨g, 2, none⟩ = some (.slice r2 (nlen p2.den) c2) := (hb.cell (p := ⟨g, 2, none⟩) (by first | (simp; done) | (simp; omega))).trans (by first | exact k2 | go_simp); have hzwd0 : g < wd.heap.size := (by have := hb.size; (try simp at this); omega); obtain ⟨hcwd, hfwd⟩ := bcell hb; have HBwd := Lib.hid hb; have HNwd := Lib.hid hn; have HN'wd := Lib.hid hn'; clear hb hn hn')
        | (go_at_call 15; refine (rcmp_any (N := N) _ _ _ _ _ _ _ _ _ _ _ _ _ _ 1 (rsz p2) p3 p2 _ (by omega) (Rt.of_norm HNwd.out HN'wd.out 1 HSZ3.out) (by exact (Rt.of_norm (HNc.out.below (bel_of_drew HBwd.out)) (HMc.out.below (bel_of_drew HBwd.out)) _ (Nat.le_refl _))) (by omega) (by exact HSZ2.out)).mono ?_; rintro e we ⟨rfl, hb⟩; have kwe0 : we.cell? ⟨g, 0, none⟩ = some (.bool (decide (p2.num < 0))) := (hb.cell (p := ⟨g, 0, none⟩) (by omega)).trans kwd0; have kwe1 : we.cell? ⟨g, 1, none⟩ = some (.slice r (nlen p2.num.natAbs) c) := (hb.cell (p := ⟨g, 1, none⟩) (by omega)).trans kwd1; have kwe2 : we.cell? ⟨g, 2, none⟩ = some (.slice r2 (nlen p2.den) c2) := (hb.cell (p := ⟨g, 2, none⟩) (by omega)).trans kwd2; have hzwe0 : g < we.heap.size := (by have := hb.size; (try simp at this); omega); obtain ⟨hcwe, hfwe⟩ := bcell hb; have HBwe := Lib.hid hb; clear hb ))
    rw [HE.out]
    go_wp2_with fail
    go_ret
    exact ⟨rfl, ((HBW.out.trans (HSc.out.1.mono (by omega))).trans ((show Below wc.heap.size wc wd from bel_of_drew HBwd.out).mono (show w.heap.size ≤ wc.heap.size by omega))).trans (HBwe.out.mono (show w.heap.size ≤ wd.heap.size by omega))⟩

end Go.Proofs.Ytmljfaplohbjcaa
