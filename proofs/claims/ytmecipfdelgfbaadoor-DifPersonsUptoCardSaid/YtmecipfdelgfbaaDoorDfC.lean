/- Contracts of dif.Null and Test, for at most 20 strata whose counts are from 0 to 30. -/
import Derived.Test.YtmecipfdelgfbaaDoorDfB
import Derived.Test.YtmecipfdelgfbaaDoorJoF
import Derived.Test.YtmecipfdelgfbaaDoorRg3
import Derived.Test.YtmecipfdelgfbaaDoorDfQ
namespace Go.Proofs.YtmecipfdelgfbaaDoor
open Go.RowKit

theorem Rl.unit {N : Nat} {w : World} {p : Rat} {q : Nat → Rat} {r r2 : Option Addr} {c c2 : Nat} (hq : q 0 = p) (h1 : Nt N w r (nlen p.num.natAbs) c p.num.natAbs) (h2 : Nt N w r2 (nlen p.den) c2 p.den) : Rl N (w.alloc (.cells #[.bool (decide (p.num < 0)), .slice r (nlen p.num.natAbs) c, .slice r2 (nlen p.den) c2] 28)) w.heap.size 1 1 q := by
  subst hq
  refine ⟨Bk.new w _ _, fun i hi => ?_⟩
  obtain rfl : i = 0 := by omega
  exact ⟨r, c, r2, c2, by simp, by simp, by simp, h1.alloc _, h2.alloc _⟩
theorem wdS_bd {t : Nat → Nat → Nat} {n : Nat} (hc : cntS t n) : ∀ k, k ≤ n → wdS (ltS t) k ≤ 60 * k
  | 0, _ => Nat.le_refl _
  | k + 1, hk => by
    have h1 := wdS_bd hc k (by omega)
    have h2 := hc k (by omega) 0 (by omega)
    have h3 := hc k (by omega) 1 (by omega)
    simp only [wdS]
    unfold ltS ktS mtS at *
    omega
theorem supS_mono {t : Nat → Nat → Nat} {k n : Nat} (h : k ≤ n) : supS t k ≤ supS t n := by
  induction n with
  | zero => obtain rfl : k = 0 := by omega
            exact Nat.le_refl _
  | succ n ih =>
    by_cases e : k = n + 1
    · subst e; exact Nat.le_refl _
    · have := ih (by omega); unfold supS at *; simp only [wdS]; omega
theorem nulS_step (t : Nat → Nat → Nat) (k : Nat) : nulS t (k + 1) = cnv (nulS t k) (supS t k) (htS t k) (ltS t k) := rfl
theorem rgtS_bd {t : Nat → Nat → Nat} {n : Nat} (hc : cntS t n) : ∀ k, k ≤ n → rgtS t k ≤ 30 * k
  | 0, _ => Nat.le_refl _
  | k + 1, hk => by
    have h1 := rgtS_bd hc k (by omega)
    have h2 := hc k (by omega) 0 (by omega)
    unfold rgtS at *
    simp only [kkS]
    omega
/-- a list of numbers and no error -/
def IsDs (N l : Nat) (q : Nat → Rat) (u : Value) (w : World) : Prop := ∃ b, u = .tuple #[.slice (some ⟨b, 0, none⟩) l l, .int .i64 0] ∧ N ≤ b ∧ Rl N w b l l q
theorem IsDs.below {N l : Nat} {q : Nat → Rat} {u : Value} {w w' : World} (h : IsDs N l q u w) (hb : Below w.heap.size w w') : IsDs N l q u w' := by
  obtain ⟨b, e, hz, h⟩ := h
  exact ⟨b, e, hz, h.below hb⟩
def IsSd (N l : Nat) (q : Nat → Rat) (u : Value) (w : World) : Prop := ∃ b, u = .slice (some ⟨b, 0, none⟩) l l ∧ N ≤ b ∧ Rl N w b l l q
theorem IsSd.below {N l : Nat} {q : Nat → Rat} {u : Value} {w w' : World} (h : IsSd N l q u w) (hb : Below w.heap.size w w') : IsSd N l q u w' := by
  obtain ⟨b, e, hz, h⟩ := h
  exact ⟨b, e, hz, h.below hb⟩
def NulJd (N gT x0 x1 x2 x3 m M1 R l : Nat) (q : Nat → Rat) (W : World) (z0 : Act) (L : Nat → Bool) (z1 : Act) (w : World) : Prop :=
  ∃ u50 u51 u52 u53 u54 u55 u56 u57 u58 u59 u60 u61 u62 u49 u63 u64 u11 u12, z1 = ((((((((((((((((((z0.put (some 50) u50).put (some 51) u51).put (some 52) u52).put (some 53) u53).put (some 54) u54).put (some 55) u55).put (some 56) u56).put (some 57) u57).put (some 58) u58).put (some 59) u59).put (some 60) u60).put (some 61) u61).put (some 62) u62).put (some 49) u49).put (some 63) u63).put (some 64) u64).put (some 11) u11).put (some 12) u12) ∧ Since W w ∧ (L 0 = true → u50 = .agg #[.int .i64 ((x0 : Nat) : Int), .int .i64 ((x1 : Nat) : Int), .int .i64 ((x2 : Nat) : Int), .int .i64 ((x3 : Nat) : Int)]) ∧ (L 1 = true → u51 = .int .i64 ((m : Nat) : Int)) ∧ (L 2 = true → u52 = .pointer (some ⟨gT, 0, none⟩)) ∧ (L 3 = true → u53 = .int .i64 ((x0 : Nat) : Int)) ∧ (L 4 = true → u54 = .pointer (some ⟨gT, 2, none⟩)) ∧ (L 5 = true → u55 = .int .i64 ((x2 : Nat) : Int)) ∧ (L 6 = true → u56 = .int .i64 ((M1 : Nat) : Int)) ∧ (L 7 = true → u57 = .pointer (some ⟨gT, 0, none⟩)) ∧ (L 8 = true → u58 = .int .i64 ((x0 : Nat) : Int)) ∧ (L 9 = true → u59 = .pointer (some ⟨gT, 1, none⟩)) ∧ (L 10 = true → u60 = .int .i64 ((x1 : Nat) : Int)) ∧ (L 11 = true → u61 = .int .i64 ((R : Nat) : Int)) ∧ (L 12 = true → IsDs N l q u62 w) ∧ (L 13 = true → IsDs N l q u49 w) ∧ (L 14 = true → IsSd N l q u63 w) ∧ (L 15 = true → u64 = .int .i64 0) ∧ (L 16 = true → IsSd N l q u11 w) ∧ (L 17 = true → u12 = .int .i64 0)


set_option maxRecDepth 20000 in
set_option maxHeartbeats 8000000 in
theorem null_ok {N : Nat} (a : Option Addr) (n cap : Nat) (t : Nat → Nat → Nat) (w : World) (hN : N ≤ w.heap.size) (h : Tz w a n cap t) (hn : n ≤ 20) (hc : cntS t n) (S : Nat) (hS : supS t n = S) (hs : S ≤ 121) :
    Calls Tryd.prog 16 #[.slice a n cap] w (DistPost N w S (nulS t n)) := by
  have HA := Lib.hid h
  have HA0 := Lib.hid h
  have HCN := Lib.hid hc
  have HS := Lib.hid hS
  have bc := h.1
  have bm := h.2.1
  unfold maxLen at bm
  clear h hc hS
  obtain ⟨p0, hp0⟩ : ∃ p : Rat, ((1 : Int) : Rat) / ((1 : Int) : Rat) = p := ⟨_, rfl⟩
  have HP0 := Lib.hid hp0
  have HE0 := Lib.hid (show (1 : Rat) = p0 by rw [← hp0]; decide +kernel)
  clear hp0
  have hN0 := hN
  have HB := Lib.hid (Below.refl w.heap.size w)
  go_enter Tryd.func16, Tryd.ntmps16
  go_wp2_with fail
  refine calls_name fun W0 hW => ?_
  have hs_W0 : w.heap.size ≤ W0.heap.size := by rw [← hW]; (first | omega | (simp; done) | (simp; omega))
  have HL_W0 := Lib.hid (show Below w.heap.size w W0 by rw [← hW]; exact BlA)
  replace HB := Lib.hid (show Below w.heap.size w W0 by rw [← hW]; exact BlA)
  replace hN : N ≤ W0.heap.size := by rw [← hW]; (first | omega | (simp; done) | (simp; omega))
  have hs0 : w.heap.size ≤ W0.heap.size := by rw [← hW]; (first | omega | (simp; done) | (simp; omega))
  replace HA := Lib.hid (HA.out.below HL_W0.out)
  clear HL_W0
  clear hW
  refine (fcheck_ok _ n _ t _ HA.out hn HCN.out).mono ?_
  rintro e wa ⟨rfl, hb⟩
  have hs_wa : W0.heap.size ≤ wa.heap.size := hb.size
  replace HB := Lib.hid (HB.out.trans (hb.mono hs0))
  replace hN : N ≤ wa.heap.size := Nat.le_trans hN hb.size
  replace hs0 : w.heap.size ≤ wa.heap.size := Nat.le_trans hs0 hb.size
  replace HA := Lib.hid (HA.out.below hb)
  clear hb
  go_wp2_with fail
  go_loopw [5, 20] (fun m i wr => ∃ k : Nat, k ≤ n ∧ i = .int .i64 k ∧ m = .int .i64 ((wdS (ltS t) k : Nat) : Int) ∧ Below w.heap.size w wr) (fun _ i _ => n - (intOf i).toNat)
  case atStart => exact ⟨0, Nat.zero_le _, rfl, rfl, HB.out⟩
  case round =>
    clear HB hs0 hN HA
    obtain ⟨k, hk, rfl, rfl, hbel⟩ := hrel
    have HB := Lib.hid hbel
    have hs0 : w.heap.size ≤ wr.heap.size := hbel.size
    have hN : N ≤ wr.heap.size := by omega
    have HWB := wdS_bd HCN.out k hk
    obtain ⟨W, hW⟩ : ∃ x, wdS (ltS t) k = x := ⟨_, rfl⟩
    rw [hW] at HWB
    rw [hW]
    have HW := Lib.hid hW
    clear hW
    by_cases hkn : k < n
    · obtain ⟨b, off, rfl, hcc⟩ := (HA0.out.below hbel).2.2 (by omega)
      obtain ⟨g0, g1, g2, g3⟩ := hcc k hkn
      clear hcc
      have hx0 := HCN.out k hkn 0 (by omega)
      obtain ⟨x0, ex0⟩ : ∃ x, t k 0 = x := ⟨_, rfl⟩
      rw [ex0] at hx0 g0
      have EX0 := Lib.hid ex0
      clear ex0
      have hx1 := HCN.out k hkn 1 (by omega)
      obtain ⟨x1, ex1⟩ : ∃ x, t k 1 = x := ⟨_, rfl⟩
      rw [ex1] at hx1 g1
      have EX1 := Lib.hid ex1
      clear ex1
      have hx2 := HCN.out k hkn 2 (by omega)
      obtain ⟨x2, ex2⟩ : ∃ x, t k 2 = x := ⟨_, rfl⟩
      rw [ex2] at hx2 g2
      have EX2 := Lib.hid ex2
      clear ex2
      have hx3 := HCN.out k hkn 3 (by omega)
      obtain ⟨x3, ex3⟩ : ∃ x, t k 3 = x := ⟨_, rfl⟩
      rw [ex3] at hx3 g3
      have EX3 := Lib.hid ex3
      clear ex3
      have hix0 : (0 : Int) ≤ (k : Int) := by omega
      have hix1 : (k : Int) < (n : Int) := by omega
      clear hbel
      obtain ⟨M1, hM1⟩ : ∃ l, x0 + x2 = l := ⟨_, rfl⟩
      obtain ⟨R, hR⟩ : ∃ l, x0 + x1 = l := ⟨_, rfl⟩
      obtain ⟨l, hl⟩ : ∃ l, min M1 R = l := ⟨_, rfl⟩
      have e1 : (x0 : Int) + (x2 : Int) = (M1 : Int) := by omega
      have e2 : (x0 : Int) + (x1 : Int) = (R : Int) := by omega
      have hl60 : l ≤ 60 := by omega
      have em : min (M1 : Int) (R : Int) = (l : Int) := by omega
      have HWN := Lib.hid (show wdS (ltS t) (k + 1) = W + l by simp only [wdS]; rw [HW.out]; unfold ltS ktS mtS; rw [EX0.out, EX1.out, EX2.out, hM1, hR, hl]; omega)
      have e3 : M1 ≤ 60 := by omega
      have e4 : R ≤ 60 := by omega
      clear hM1 hR hl
      go_wp2_with fail
      go_roundw
      case rel =>
        refine ⟨k + 1, by omega, by go_num, ?_, ?_⟩
        · rw [HWN.out]; go_num
        · exact BlA
      case measure => simp [intOf]; omega
    · obtain rfl : k = n := by omega
      have HS2 := Lib.hid (show W + 1 = S by rw [← HW.out]; exact HS.out)
      have hW1 : W + 1 ≤ 121 := by rw [HS2.out]; exact hs
      have HAr := Lib.hid (HA0.out.below hbel)
      clear hbel
      go_wp2_with fail
      refine calls_name fun W2 hW => ?_
      have hs_W2 : wr.heap.size ≤ W2.heap.size := by rw [← hW]; (first | omega | (simp; done) | (simp; omega))
      replace HB := Lib.hid (show Below w.heap.size w W2 by rw [← hW]; exact BlA)
      replace hN : N ≤ W2.heap.size := by rw [← hW]; (first | omega | (simp; done) | (simp; omega))
      replace hs0 : w.heap.size ≤ W2.heap.size := by rw [← hW]; (first | omega | (simp; done) | (simp; omega))
      clear hW
      refine (fof_any (N := N) 1 1 _ hN (by omega) (by omega) (by omega) (by omega) p0 HP0.out).mono ?_
      rintro e wb ⟨rs, cs, rs2, cs2, rfl, hn, hn', hb⟩
      have hs_wb : W2.heap.size ≤ wb.heap.size := hb.size
      replace HB := Lib.hid (HB.out.trans (hb.mono hs0))
      replace hN : N ≤ wb.heap.size := Nat.le_trans hN hb.size
      replace hs0 : w.heap.size ≤ wb.heap.size := Nat.le_trans hs0 hb.size
      clear hb
      have HI1 := Lib.hid hn
      clear hn
      have HI2 := Lib.hid hn'
      clear hn'
      go_wp2_with fail
      go_loopw [8, 45] (fun sm i wz => ∃ (j b : Nat), j ≤ k ∧ i = .int .i64 j ∧ sm = .slice (some ⟨b, 0, none⟩) (supS t j) (supS t j) ∧ w.heap.size ≤ b ∧ Rl N wz b (supS t j) (supS t j) (nulS t j) ∧ Below w.heap.size w wz) (fun _ i _ => k - (intOf i).toNat)
      case atStart => exact ⟨0, wb.heap.size, Nat.zero_le _, rfl, rfl, by omega, Rl.unit HE0.out HI1.out HI2.out, by exact BlA⟩
      case round =>
        clear HI1 HI2 HB hs0 hN HAr
        obtain ⟨j, b', hj, rfl, rfl, hb0, hrl, hbel⟩ := hrel
        have HRL := Lib.hid hrl
        have HB := Lib.hid hbel
        have hs0 : w.heap.size ≤ wr.heap.size := hbel.size
        have hN : N ≤ wr.heap.size := by omega
        have hsm := supS_mono (t := t) hj
        have hsk : supS t k ≤ 121 := by rw [HS.out]; exact hs
        clear hrl
        by_cases hkn : j < k
        · obtain ⟨b, off, rfl, hcc⟩ := (HA0.out.below hbel).2.2 (by omega)
          obtain ⟨g0, g1, g2, g3⟩ := hcc j hkn
          clear hcc
          have hx0 := HCN.out j hkn 0 (by omega)
          obtain ⟨x0, ex0⟩ : ∃ x, t j 0 = x := ⟨_, rfl⟩
          rw [ex0] at hx0 g0
          have EX0 := Lib.hid ex0
          clear ex0
          have hx1 := HCN.out j hkn 1 (by omega)
          obtain ⟨x1, ex1⟩ : ∃ x, t j 1 = x := ⟨_, rfl⟩
          rw [ex1] at hx1 g1
          have EX1 := Lib.hid ex1
          clear ex1
          have hx2 := HCN.out j hkn 2 (by omega)
          obtain ⟨x2, ex2⟩ : ∃ x, t j 2 = x := ⟨_, rfl⟩
          rw [ex2] at hx2 g2
          have EX2 := Lib.hid ex2
          clear ex2
          have hx3 := HCN.out j hkn 3 (by omega)
          obtain ⟨x3, ex3⟩ : ∃ x, t j 3 = x := ⟨_, rfl⟩
          rw [ex3] at hx3 g3
          have EX3 := Lib.hid ex3
          clear ex3
          have hix0 : (0 : Int) ≤ (j : Int) := by omega
          have hix1 : (j : Int) < (k : Int) := by omega
          clear hbel
          obtain ⟨m, hm⟩ : ∃ m, x0 + x1 + x2 + x3 = m := ⟨_, rfl⟩
          obtain ⟨M1, hM1⟩ : ∃ m, x0 + x2 = m := ⟨_, rfl⟩
          obtain ⟨R, hR⟩ : ∃ m, x0 + x1 = m := ⟨_, rfl⟩
          obtain ⟨l, hl⟩ : ∃ l, min M1 R + 1 = l := ⟨_, rfl⟩
          have HM := Lib.hid hm
          have HNT := Lib.hid (show ntS t j = m by unfold ntS; rw [EX0.out, EX1.out, EX2.out, EX3.out]; exact hm)
          have HKT := Lib.hid (show ktS t j = M1 by unfold ktS; rw [EX0.out, EX2.out]; exact hM1)
          have HMT := Lib.hid (show mtS t j = R by unfold mtS; rw [EX0.out, EX1.out]; exact hR)
          have HLT := Lib.hid (show ltS t j = l by unfold ltS; rw [HKT.out, HMT.out]; exact hl)
          have HLL := Lib.hid hl
          obtain ⟨q, hq⟩ : ∃ q, htS t j = q := ⟨_, rfl⟩
          have HQ := Lib.hid hq
          obtain ⟨S1, hS1⟩ : ∃ x, supS t j = x := ⟨_, rfl⟩
          obtain ⟨S2, hS2⟩ : ∃ x, supS t (j + 1) = x := ⟨_, rfl⟩
          have hst : S1 + l = S2 + 1 := by rw [← hS1, ← hS2, ← HLT.out]; unfold supS; simp only [wdS]; have := ltS_pos t j; omega
          have HS1 := Lib.hid hS1
          have HS2' := Lib.hid hS2
          have hsm2 : S2 ≤ 121 := by rw [← hS2]; exact Nat.le_trans (supS_mono (t := t) (show j + 1 ≤ k by omega)) hsk
          rw [hS1] at HRL hsm
          rw [hS1]
          have HCJ := Lib.hid (show cntS t j from fun i hi => HCN.out i (by omega))
          have HQV := Lib.hid (show valid q l = true by rw [← HQ.out, ← HLT.out]; exact htS_valid HCN.out j (by omega))
          have HNV := Lib.hid (show valid (nulS t j) S1 = true by rw [← HS1.out]; exact nulS_valid HCJ.out (by rw [HS1.out]; omega))
          have HNL := Lib.hid (show ∀ i, i < S1 → rsz (nulS t j i) ≤ 76 by rw [← HS1.out]; exact nulS_len HCJ.out (by omega) (by rw [HS1.out]; omega))
          have HQH := Lib.hid (show ∀ i, i < l → frq (hyp m M1 R i) (chs m R) = q i by intro i _; rw [← HQ.out]; show _ = hyQ (ntS t j) (ktS t j) (mtS t j) i; rw [HNT.out, HKT.out, HMT.out]; rfl)
          have HQL := Lib.hid (show ∀ i, i < l → rsz (q i) ≤ 76 by intro i hi; rw [← HQ.out]; show rsz (hyQ (ntS t j) (ktS t j) (mtS t j) i) ≤ 76; rw [HNT.out, HKT.out, HMT.out]; exact Nat.le_trans (hyQ_len m M1 R i (by omega) (by omega)) (by omega))
          have HCV := Lib.hid (show ∀ i, i < S2 → cnv (nulS t j) S1 q l i = nulS t (j + 1) i by intro i _; rw [nulS_step, HS1.out, HQ.out, HLT.out])
          have e2 : (x0 : Int) + (x2 : Int) = (M1 : Int) := by omega
          have e3 : (x0 : Int) + (x1 : Int) = (R : Int) := by omega
          have t1 : m ≤ 120 := by omega
          have t2 : M1 ≤ m := by omega
          have t3 : R ≤ m := by omega
          have t4 : M1 ≤ 60 := by omega
          have t5 : R ≤ 60 := by omega
          have t6 : l ≤ 61 := by omega
          clear hm hM1 hR hl hq hS1 hS2
          go_wp2_with fail
          refine region_name fun W3 hW => ?_
          have hs_W3 : wr.heap.size ≤ W3.heap.size := by rw [← hW]; (first | omega | (simp; done) | (simp; omega))
          have HL_W3 := Lib.hid (show Below wr.heap.size wr W3 by rw [← hW]; exact BlA)
          have k_T_0 : W3.cell? ⟨wr.heap.size, 0, none⟩ = some (.int .i64 ((x0 : Nat) : Int)) := by rw [← hW]; (first | (go_simp; done) | (simp; done) | (simp [go_sem]; done) | (simp [go_sem]; done))
          have k_T_1 : W3.cell? ⟨wr.heap.size, 1, none⟩ = some (.int .i64 ((x1 : Nat) : Int)) := by rw [← hW]; (first | (go_simp; done) | (simp; done) | (simp [go_sem]; done) | (simp [go_sem]; done))
          have k_T_2 : W3.cell? ⟨wr.heap.size, 2, none⟩ = some (.int .i64 ((x2 : Nat) : Int)) := by rw [← hW]; (first | (go_simp; done) | (simp; done) | (simp [go_sem]; done) | (simp [go_sem]; done))
          have k_T_3 : W3.cell? ⟨wr.heap.size, 3, none⟩ = some (.int .i64 ((x3 : Nat) : Int)) := by rw [← hW]; (first | (go_simp; done) | (simp; done) | (simp [go_sem]; done) | (simp [go_sem]; done))
          have f_T : ∀ o, W3.frozen? ⟨wr.heap.size, o, none⟩ = false := by intro o; rw [← hW]; (first | (go_simp; done) | (simp; done) | (simp [go_sem]; done) | (simp [go_sem]; done))
          have HX_T := Lib.hid (show Bn W3 (wr.heap.size) by rw [← hW]; exact KpA)
          replace HB := Lib.hid (show Below w.heap.size w W3 by rw [← hW]; exact BlA)
          replace hN : N ≤ W3.heap.size := by rw [← hW]; (first | omega | (simp; done) | (simp; omega))
          replace hs0 : w.heap.size ≤ W3.heap.size := by rw [← hW]; (first | omega | (simp; done) | (simp; omega))
          have hl_T : wr.heap.size < W3.heap.size := by rw [← hW]; (first | omega | (simp; done) | (simp; omega))
          replace HRL := Lib.hid (HRL.out.below HL_W3.out)
          clear HL_W3
          clear hW
          have lt_HRL := HRL.out.lt
          refine region_inv3 (by kernel_rfl) (NulJd N wr.heap.size x0 x1 x2 x3 m M1 R l q (W3)) ?_ ?_ ?_ ?_
          · exact ⟨u50, u51, u52, u53, u54, u55, u56, u57, u58, u59, u60, u61, u62, u49, u63, u64, u11, u12, by simp only [Act.put, List.setIfInBounds_toArray, List.set_cons_zero, List.set_cons_succ], Since.drawn _, (fun h => by cases h), (fun h => by cases h), (fun h => by cases h), (fun h => by cases h), (fun h => by cases h), (fun h => by cases h), (fun h => by cases h), (fun h => by cases h), (fun h => by cases h), (fun h => by cases h), (fun h => by cases h), (fun h => by cases h), (fun h => by cases h), (fun h => by cases h), (fun h => by cases h), (fun h => by cases h), (fun h => by cases h), (fun h => by cases h)⟩
          · exact acyc3_spec (by kernel_rfl)
          · intro Ls a0 wq i o ho hLi hafter hJ
            obtain ⟨u50, u51, u52, u53, u54, u55, u56, u57, u58, u59, u60, u61, u62, u49, u63, u64, u11, u12, rfl, hS, p0, p1, p2, p3, p4, p5, p6, p7, p8, p9, p10, p11, p12, p13, p14, p15, p16, p17⟩ := hJ
            have hi : i < 18 := (Array.getElem?_eq_some_iff.1 ho).1
            obtain rfl | rfl | rfl | rfl | rfl | rfl | rfl | rfl | rfl | rfl | rfl | rfl | rfl | rfl | rfl | rfl | rfl | rfl : i = 0 ∨ i = 1 ∨ i = 2 ∨ i = 3 ∨ i = 4 ∨ i = 5 ∨ i = 6 ∨ i = 7 ∨ i = 8 ∨ i = 9 ∨ i = 10 ∨ i = 11 ∨ i = 12 ∨ i = 13 ∨ i = 14 ∨ i = 15 ∨ i = 16 ∨ i = 17 := by omega
            · simp only [List.getElem?_toArray, List.getElem?_cons_zero, Option.some.injEq] at ho
              subst ho
              have c0 := (hS.1.cell (p := ⟨wr.heap.size, 0, none⟩) hl_T).trans k_T_0
              have c1 := (hS.1.cell (p := ⟨wr.heap.size, 1, none⟩) hl_T).trans k_T_1
              have c2 := (hS.1.cell (p := ⟨wr.heap.size, 2, none⟩) hl_T).trans k_T_2
              have c3 := (hS.1.cell (p := ⟨wr.heap.size, 3, none⟩) hl_T).trans k_T_3
              have P0 := Lib.hid p0
              have P1 := Lib.hid p1
              have P2 := Lib.hid p2
              have P3 := Lib.hid p3
              have P4 := Lib.hid p4
              have P5 := Lib.hid p5
              have P6 := Lib.hid p6
              have P7 := Lib.hid p7
              have P8 := Lib.hid p8
              have P9 := Lib.hid p9
              have P10 := Lib.hid p10
              have P11 := Lib.hid p11
              have P12 := Lib.hid p12
              have P13 := Lib.hid p13
              have P14 := Lib.hid p14
              have P15 := Lib.hid p15
              have P16 := Lib.hid p16
              have P17 := Lib.hid p17
              have HS := Lib.hid hS
              clear hS hLi hafter p0 p1 p2 p3 p4 p5 p6 p7 p8 p9 p10 p11 p12 p13 p14 p15 p16 p17
              simp only [Act.put, List.setIfInBounds_toArray, List.set_cons_zero, List.set_cons_succ]
              go_wp2_with fail
              exact ⟨.agg #[.int .i64 ((x0 : Nat) : Int), .int .i64 ((x1 : Nat) : Int), .int .i64 ((x2 : Nat) : Int), .int .i64 ((x3 : Nat) : Int)], u51, u52, u53, u54, u55, u56, u57, u58, u59, u60, u61, u62, u49, u63, u64, u11, u12, by simp only [Act.put, List.setIfInBounds_toArray, List.set_cons_zero, List.set_cons_succ], HS.out, (fun _ => rfl), (fun h => by first | rfl | exact P1.out (by simpa using h)), (fun h => by first | rfl | exact P2.out (by simpa using h)), (fun h => by first | rfl | exact P3.out (by simpa using h)), (fun h => by first | rfl | exact P4.out (by simpa using h)), (fun h => by first | rfl | exact P5.out (by simpa using h)), (fun h => by first | rfl | exact P6.out (by simpa using h)), (fun h => by first | rfl | exact P7.out (by simpa using h)), (fun h => by first | rfl | exact P8.out (by simpa using h)), (fun h => by first | rfl | exact P9.out (by simpa using h)), (fun h => by first | rfl | exact P10.out (by simpa using h)), (fun h => by first | rfl | exact P11.out (by simpa using h)), (fun h => P12.out (by simpa using h)), (fun h => P13.out (by simpa using h)), (fun h => P14.out (by simpa using h)), (fun h => by first | rfl | exact P15.out (by simpa using h)), (fun h => P16.out (by simpa using h)), (fun h => by first | rfl | exact P17.out (by simpa using h))⟩
            · simp only [List.getElem?_toArray, List.getElem?_cons_zero, List.getElem?_cons_succ, Option.some.injEq] at ho
              subst ho
              obtain rfl := p0 (hafter ⟨0, .data⟩ (by simp) rfl)
              have P0 := Lib.hid p0
              have P1 := Lib.hid p1
              have P2 := Lib.hid p2
              have P3 := Lib.hid p3
              have P4 := Lib.hid p4
              have P5 := Lib.hid p5
              have P6 := Lib.hid p6
              have P7 := Lib.hid p7
              have P8 := Lib.hid p8
              have P9 := Lib.hid p9
              have P10 := Lib.hid p10
              have P11 := Lib.hid p11
              have P12 := Lib.hid p12
              have P13 := Lib.hid p13
              have P14 := Lib.hid p14
              have P15 := Lib.hid p15
              have P16 := Lib.hid p16
              have P17 := Lib.hid p17
              have HS := Lib.hid hS
              clear hS hLi hafter p0 p1 p2 p3 p4 p5 p6 p7 p8 p9 p10 p11 p12 p13 p14 p15 p16 p17
              simp only [Act.put, List.setIfInBounds_toArray, List.set_cons_zero, List.set_cons_succ]
              go_wp2_with fail
              refine (fpersons_any x0 x1 x2 x3 m _ hx0 hx1 hx2 hx3 HM.out).mono ?_
              rintro e wn ⟨rfl, hb⟩
              have Hb := Lib.hid hb
              clear hb
              go_wp2_with fail
              exact ⟨.agg #[.int .i64 ((x0 : Nat) : Int), .int .i64 ((x1 : Nat) : Int), .int .i64 ((x2 : Nat) : Int), .int .i64 ((x3 : Nat) : Int)], .int .i64 ((m : Nat) : Int), u52, u53, u54, u55, u56, u57, u58, u59, u60, u61, u62, u49, u63, u64, u11, u12, by simp only [Act.put, List.setIfInBounds_toArray, List.set_cons_zero, List.set_cons_succ], HS.out.below Hb.out, (fun h => by first | rfl | exact P0.out (by simpa using h)), (fun _ => rfl), (fun h => by first | rfl | exact P2.out (by simpa using h)), (fun h => by first | rfl | exact P3.out (by simpa using h)), (fun h => by first | rfl | exact P4.out (by simpa using h)), (fun h => by first | rfl | exact P5.out (by simpa using h)), (fun h => by first | rfl | exact P6.out (by simpa using h)), (fun h => by first | rfl | exact P7.out (by simpa using h)), (fun h => by first | rfl | exact P8.out (by simpa using h)), (fun h => by first | rfl | exact P9.out (by simpa using h)), (fun h => by first | rfl | exact P10.out (by simpa using h)), (fun h => by first | rfl | exact P11.out (by simpa using h)), (fun h => (P12.out (by simpa using h)).below Hb.out), (fun h => (P13.out (by simpa using h)).below Hb.out), (fun h => (P14.out (by simpa using h)).below Hb.out), (fun h => by first | rfl | exact P15.out (by simpa using h)), (fun h => (P16.out (by simpa using h)).below Hb.out), (fun h => by first | rfl | exact P17.out (by simpa using h))⟩
            · simp only [List.getElem?_toArray, List.getElem?_cons_zero, List.getElem?_cons_succ, Option.some.injEq] at ho
              subst ho
              have P0 := Lib.hid p0
              have P1 := Lib.hid p1
              have P2 := Lib.hid p2
              have P3 := Lib.hid p3
              have P4 := Lib.hid p4
              have P5 := Lib.hid p5
              have P6 := Lib.hid p6
              have P7 := Lib.hid p7
              have P8 := Lib.hid p8
              have P9 := Lib.hid p9
              have P10 := Lib.hid p10
              have P11 := Lib.hid p11
              have P12 := Lib.hid p12
              have P13 := Lib.hid p13
              have P14 := Lib.hid p14
              have P15 := Lib.hid p15
              have P16 := Lib.hid p16
              have P17 := Lib.hid p17
              have HS := Lib.hid hS
              clear hS hLi hafter p0 p1 p2 p3 p4 p5 p6 p7 p8 p9 p10 p11 p12 p13 p14 p15 p16 p17
              simp only [Act.put, List.setIfInBounds_toArray, List.set_cons_zero, List.set_cons_succ]
              go_wp2_with fail
              exact ⟨u50, u51, .pointer (some ⟨wr.heap.size, 0, none⟩), u53, u54, u55, u56, u57, u58, u59, u60, u61, u62, u49, u63, u64, u11, u12, by simp only [Act.put, List.setIfInBounds_toArray, List.set_cons_zero, List.set_cons_succ], HS.out, (fun h => by first | rfl | exact P0.out (by simpa using h)), (fun h => by first | rfl | exact P1.out (by simpa using h)), (fun _ => rfl), (fun h => by first | rfl | exact P3.out (by simpa using h)), (fun h => by first | rfl | exact P4.out (by simpa using h)), (fun h => by first | rfl | exact P5.out (by simpa using h)), (fun h => by first | rfl | exact P6.out (by simpa using h)), (fun h => by first | rfl | exact P7.out (by simpa using h)), (fun h => by first | rfl | exact P8.out (by simpa using h)), (fun h => by first | rfl | exact P9.out (by simpa using h)), (fun h => by first | rfl | exact P10.out (by simpa using h)), (fun h => by first | rfl | exact P11.out (by simpa using h)), (fun h => P12.out (by simpa using h)), (fun h => P13.out (by simpa using h)), (fun h => P14.out (by simpa using h)), (fun h => by first | rfl | exact P15.out (by simpa using h)), (fun h => P16.out (by simpa using h)), (fun h => by first | rfl | exact P17.out (by simpa using h))⟩
            · simp only [List.getElem?_toArray, List.getElem?_cons_zero, List.getElem?_cons_succ, Option.some.injEq] at ho
              subst ho
              obtain rfl := p2 (hafter ⟨2, .data⟩ (by simp) rfl)
              have c0 := (hS.1.cell (p := ⟨wr.heap.size, 0, none⟩) hl_T).trans k_T_0
              have P0 := Lib.hid p0
              have P1 := Lib.hid p1
              have P2 := Lib.hid p2
              have P3 := Lib.hid p3
              have P4 := Lib.hid p4
              have P5 := Lib.hid p5
              have P6 := Lib.hid p6
              have P7 := Lib.hid p7
              have P8 := Lib.hid p8
              have P9 := Lib.hid p9
              have P10 := Lib.hid p10
              have P11 := Lib.hid p11
              have P12 := Lib.hid p12
              have P13 := Lib.hid p13
              have P14 := Lib.hid p14
              have P15 := Lib.hid p15
              have P16 := Lib.hid p16
              have P17 := Lib.hid p17
              have HS := Lib.hid hS
              clear hS hLi hafter p0 p1 p2 p3 p4 p5 p6 p7 p8 p9 p10 p11 p12 p13 p14 p15 p16 p17
              simp only [Act.put, List.setIfInBounds_toArray, List.set_cons_zero, List.set_cons_succ]
              go_wp2_with fail
              exact ⟨u50, u51, .pointer (some ⟨wr.heap.size, 0, none⟩), .int .i64 ((x0 : Nat) : Int), u54, u55, u56, u57, u58, u59, u60, u61, u62, u49, u63, u64, u11, u12, by simp only [Act.put, List.setIfInBounds_toArray, List.set_cons_zero, List.set_cons_succ], HS.out, (fun h => by first | rfl | exact P0.out (by simpa using h)), (fun h => by first | rfl | exact P1.out (by simpa using h)), (fun h => by first | rfl | exact P2.out (by simpa using h)), (fun _ => rfl), (fun h => by first | rfl | exact P4.out (by simpa using h)), (fun h => by first | rfl | exact P5.out (by simpa using h)), (fun h => by first | rfl | exact P6.out (by simpa using h)), (fun h => by first | rfl | exact P7.out (by simpa using h)), (fun h => by first | rfl | exact P8.out (by simpa using h)), (fun h => by first | rfl | exact P9.out (by simpa using h)), (fun h => by first | rfl | exact P10.out (by simpa using h)), (fun h => by first | rfl | exact P11.out (by simpa using h)), (fun h => P12.out (by simpa using h)), (fun h => P13.out (by simpa using h)), (fun h => P14.out (by simpa using h)), (fun h => by first | rfl | exact P15.out (by simpa using h)), (fun h => P16.out (by simpa using h)), (fun h => by first | rfl | exact P17.out (by simpa using h))⟩
            · simp only [List.getElem?_toArray, List.getElem?_cons_zero, List.getElem?_cons_succ, Option.some.injEq] at ho
              subst ho
              have P0 := Lib.hid p0
              have P1 := Lib.hid p1
              have P2 := Lib.hid p2
              have P3 := Lib.hid p3
              have P4 := Lib.hid p4
              have P5 := Lib.hid p5
              have P6 := Lib.hid p6
              have P7 := Lib.hid p7
              have P8 := Lib.hid p8
              have P9 := Lib.hid p9
              have P10 := Lib.hid p10
              have P11 := Lib.hid p11
              have P12 := Lib.hid p12
              have P13 := Lib.hid p13
              have P14 := Lib.hid p14
              have P15 := Lib.hid p15
              have P16 := Lib.hid p16
              have P17 := Lib.hid p17
              have HS := Lib.hid hS
              clear hS hLi hafter p0 p1 p2 p3 p4 p5 p6 p7 p8 p9 p10 p11 p12 p13 p14 p15 p16 p17
              simp only [Act.put, List.setIfInBounds_toArray, List.set_cons_zero, List.set_cons_succ]
              go_wp2_with fail
              exact ⟨u50, u51, u52, u53, .pointer (some ⟨wr.heap.size, 2, none⟩), u55, u56, u57, u58, u59, u60, u61, u62, u49, u63, u64, u11, u12, by simp only [Act.put, List.setIfInBounds_toArray, List.set_cons_zero, List.set_cons_succ], HS.out, (fun h => by first | rfl | exact P0.out (by simpa using h)), (fun h => by first | rfl | exact P1.out (by simpa using h)), (fun h => by first | rfl | exact P2.out (by simpa using h)), (fun h => by first | rfl | exact P3.out (by simpa using h)), (fun _ => rfl), (fun h => by first | rfl | exact P5.out (by simpa using h)), (fun h => by first | rfl | exact P6.out (by simpa using h)), (fun h => by first | rfl | exact P7.out (by simpa using h)), (fun h => by first | rfl | exact P8.out (by simpa using h)), (fun h => by first | rfl | exact P9.out (by simpa using h)), (fun h => by first | rfl | exact P10.out (by simpa using h)), (fun h => by first | rfl | exact P11.out (by simpa using h)), (fun h => P12.out (by simpa using h)), (fun h => P13.out (by simpa using h)), (fun h => P14.out (by simpa using h)), (fun h => by first | rfl | exact P15.out (by simpa using h)), (fun h => P16.out (by simpa using h)), (fun h => by first | rfl | exact P17.out (by simpa using h))⟩
            · simp only [List.getElem?_toArray, List.getElem?_cons_zero, List.getElem?_cons_succ, Option.some.injEq] at ho
              subst ho
              obtain rfl := p4 (hafter ⟨4, .data⟩ (by simp) rfl)
              have c2 := (hS.1.cell (p := ⟨wr.heap.size, 2, none⟩) hl_T).trans k_T_2
              have P0 := Lib.hid p0
              have P1 := Lib.hid p1
              have P2 := Lib.hid p2
              have P3 := Lib.hid p3
              have P4 := Lib.hid p4
              have P5 := Lib.hid p5
              have P6 := Lib.hid p6
              have P7 := Lib.hid p7
              have P8 := Lib.hid p8
              have P9 := Lib.hid p9
              have P10 := Lib.hid p10
              have P11 := Lib.hid p11
              have P12 := Lib.hid p12
              have P13 := Lib.hid p13
              have P14 := Lib.hid p14
              have P15 := Lib.hid p15
              have P16 := Lib.hid p16
              have P17 := Lib.hid p17
              have HS := Lib.hid hS
              clear hS hLi hafter p0 p1 p2 p3 p4 p5 p6 p7 p8 p9 p10 p11 p12 p13 p14 p15 p16 p17
              simp only [Act.put, List.setIfInBounds_toArray, List.set_cons_zero, List.set_cons_succ]
              go_wp2_with fail
              exact ⟨u50, u51, u52, u53, .pointer (some ⟨wr.heap.size, 2, none⟩), .int .i64 ((x2 : Nat) : Int), u56, u57, u58, u59, u60, u61, u62, u49, u63, u64, u11, u12, by simp only [Act.put, List.setIfInBounds_toArray, List.set_cons_zero, List.set_cons_succ], HS.out, (fun h => by first | rfl | exact P0.out (by simpa using h)), (fun h => by first | rfl | exact P1.out (by simpa using h)), (fun h => by first | rfl | exact P2.out (by simpa using h)), (fun h => by first | rfl | exact P3.out (by simpa using h)), (fun h => by first | rfl | exact P4.out (by simpa using h)), (fun _ => rfl), (fun h => by first | rfl | exact P6.out (by simpa using h)), (fun h => by first | rfl | exact P7.out (by simpa using h)), (fun h => by first | rfl | exact P8.out (by simpa using h)), (fun h => by first | rfl | exact P9.out (by simpa using h)), (fun h => by first | rfl | exact P10.out (by simpa using h)), (fun h => by first | rfl | exact P11.out (by simpa using h)), (fun h => P12.out (by simpa using h)), (fun h => P13.out (by simpa using h)), (fun h => P14.out (by simpa using h)), (fun h => by first | rfl | exact P15.out (by simpa using h)), (fun h => P16.out (by simpa using h)), (fun h => by first | rfl | exact P17.out (by simpa using h))⟩
            · simp only [List.getElem?_toArray, List.getElem?_cons_zero, List.getElem?_cons_succ, Option.some.injEq] at ho
              subst ho
              obtain rfl := p3 (hafter ⟨3, .data⟩ (by simp) rfl)
              obtain rfl := p5 (hafter ⟨5, .data⟩ (by simp) rfl)
              have P0 := Lib.hid p0
              have P1 := Lib.hid p1
              have P2 := Lib.hid p2
              have P3 := Lib.hid p3
              have P4 := Lib.hid p4
              have P5 := Lib.hid p5
              have P6 := Lib.hid p6
              have P7 := Lib.hid p7
              have P8 := Lib.hid p8
              have P9 := Lib.hid p9
              have P10 := Lib.hid p10
              have P11 := Lib.hid p11
              have P12 := Lib.hid p12
              have P13 := Lib.hid p13
              have P14 := Lib.hid p14
              have P15 := Lib.hid p15
              have P16 := Lib.hid p16
              have P17 := Lib.hid p17
              have HS := Lib.hid hS
              clear hS hLi hafter p0 p1 p2 p3 p4 p5 p6 p7 p8 p9 p10 p11 p12 p13 p14 p15 p16 p17
              simp only [Act.put, List.setIfInBounds_toArray, List.set_cons_zero, List.set_cons_succ]
              go_wp2_with fail
              exact ⟨u50, u51, u52, .int .i64 ((x0 : Nat) : Int), u54, .int .i64 ((x2 : Nat) : Int), .int .i64 ((M1 : Nat) : Int), u57, u58, u59, u60, u61, u62, u49, u63, u64, u11, u12, by simp only [Act.put, List.setIfInBounds_toArray, List.set_cons_zero, List.set_cons_succ], HS.out, (fun h => by first | rfl | exact P0.out (by simpa using h)), (fun h => by first | rfl | exact P1.out (by simpa using h)), (fun h => by first | rfl | exact P2.out (by simpa using h)), (fun h => by first | rfl | exact P3.out (by simpa using h)), (fun h => by first | rfl | exact P4.out (by simpa using h)), (fun h => by first | rfl | exact P5.out (by simpa using h)), (fun _ => rfl), (fun h => by first | rfl | exact P7.out (by simpa using h)), (fun h => by first | rfl | exact P8.out (by simpa using h)), (fun h => by first | rfl | exact P9.out (by simpa using h)), (fun h => by first | rfl | exact P10.out (by simpa using h)), (fun h => by first | rfl | exact P11.out (by simpa using h)), (fun h => P12.out (by simpa using h)), (fun h => P13.out (by simpa using h)), (fun h => P14.out (by simpa using h)), (fun h => by first | rfl | exact P15.out (by simpa using h)), (fun h => P16.out (by simpa using h)), (fun h => by first | rfl | exact P17.out (by simpa using h))⟩
            · simp only [List.getElem?_toArray, List.getElem?_cons_zero, List.getElem?_cons_succ, Option.some.injEq] at ho
              subst ho
              have P0 := Lib.hid p0
              have P1 := Lib.hid p1
              have P2 := Lib.hid p2
              have P3 := Lib.hid p3
              have P4 := Lib.hid p4
              have P5 := Lib.hid p5
              have P6 := Lib.hid p6
              have P7 := Lib.hid p7
              have P8 := Lib.hid p8
              have P9 := Lib.hid p9
              have P10 := Lib.hid p10
              have P11 := Lib.hid p11
              have P12 := Lib.hid p12
              have P13 := Lib.hid p13
              have P14 := Lib.hid p14
              have P15 := Lib.hid p15
              have P16 := Lib.hid p16
              have P17 := Lib.hid p17
              have HS := Lib.hid hS
              clear hS hLi hafter p0 p1 p2 p3 p4 p5 p6 p7 p8 p9 p10 p11 p12 p13 p14 p15 p16 p17
              simp only [Act.put, List.setIfInBounds_toArray, List.set_cons_zero, List.set_cons_succ]
              go_wp2_with fail
              exact ⟨u50, u51, u52, u53, u54, u55, u56, .pointer (some ⟨wr.heap.size, 0, none⟩), u58, u59, u60, u61, u62, u49, u63, u64, u11, u12, by simp only [Act.put, List.setIfInBounds_toArray, List.set_cons_zero, List.set_cons_succ], HS.out, (fun h => by first | rfl | exact P0.out (by simpa using h)), (fun h => by first | rfl | exact P1.out (by simpa using h)), (fun h => by first | rfl | exact P2.out (by simpa using h)), (fun h => by first | rfl | exact P3.out (by simpa using h)), (fun h => by first | rfl | exact P4.out (by simpa using h)), (fun h => by first | rfl | exact P5.out (by simpa using h)), (fun h => by first | rfl | exact P6.out (by simpa using h)), (fun _ => rfl), (fun h => by first | rfl | exact P8.out (by simpa using h)), (fun h => by first | rfl | exact P9.out (by simpa using h)), (fun h => by first | rfl | exact P10.out (by simpa using h)), (fun h => by first | rfl | exact P11.out (by simpa using h)), (fun h => P12.out (by simpa using h)), (fun h => P13.out (by simpa using h)), (fun h => P14.out (by simpa using h)), (fun h => by first | rfl | exact P15.out (by simpa using h)), (fun h => P16.out (by simpa using h)), (fun h => by first | rfl | exact P17.out (by simpa using h))⟩
            · simp only [List.getElem?_toArray, List.getElem?_cons_zero, List.getElem?_cons_succ, Option.some.injEq] at ho
              subst ho
              obtain rfl := p7 (hafter ⟨7, .data⟩ (by simp) rfl)
              have c0 := (hS.1.cell (p := ⟨wr.heap.size, 0, none⟩) hl_T).trans k_T_0
              have P0 := Lib.hid p0
              have P1 := Lib.hid p1
              have P2 := Lib.hid p2
              have P3 := Lib.hid p3
              have P4 := Lib.hid p4
              have P5 := Lib.hid p5
              have P6 := Lib.hid p6
              have P7 := Lib.hid p7
              have P8 := Lib.hid p8
              have P9 := Lib.hid p9
              have P10 := Lib.hid p10
              have P11 := Lib.hid p11
              have P12 := Lib.hid p12
              have P13 := Lib.hid p13
              have P14 := Lib.hid p14
              have P15 := Lib.hid p15
              have P16 := Lib.hid p16
              have P17 := Lib.hid p17
              have HS := Lib.hid hS
              clear hS hLi hafter p0 p1 p2 p3 p4 p5 p6 p7 p8 p9 p10 p11 p12 p13 p14 p15 p16 p17
              simp only [Act.put, List.setIfInBounds_toArray, List.set_cons_zero, List.set_cons_succ]
              go_wp2_with fail
              exact ⟨u50, u51, u52, u53, u54, u55, u56, .pointer (some ⟨wr.heap.size, 0, none⟩), .int .i64 ((x0 : Nat) : Int), u59, u60, u61, u62, u49, u63, u64, u11, u12, by simp only [Act.put, List.setIfInBounds_toArray, List.set_cons_zero, List.set_cons_succ], HS.out, (fun h => by first | rfl | exact P0.out (by simpa using h)), (fun h => by first | rfl | exact P1.out (by simpa using h)), (fun h => by first | rfl | exact P2.out (by simpa using h)), (fun h => by first | rfl | exact P3.out (by simpa using h)), (fun h => by first | rfl | exact P4.out (by simpa using h)), (fun h => by first | rfl | exact P5.out (by simpa using h)), (fun h => by first | rfl | exact P6.out (by simpa using h)), (fun h => by first | rfl | exact P7.out (by simpa using h)), (fun _ => rfl), (fun h => by first | rfl | exact P9.out (by simpa using h)), (fun h => by first | rfl | exact P10.out (by simpa using h)), (fun h => by first | rfl | exact P11.out (by simpa using h)), (fun h => P12.out (by simpa using h)), (fun h => P13.out (by simpa using h)), (fun h => P14.out (by simpa using h)), (fun h => by first | rfl | exact P15.out (by simpa using h)), (fun h => P16.out (by simpa using h)), (fun h => by first | rfl | exact P17.out (by simpa using h))⟩
            · simp only [List.getElem?_toArray, List.getElem?_cons_zero, List.getElem?_cons_succ, Option.some.injEq] at ho
              subst ho
              have P0 := Lib.hid p0
              have P1 := Lib.hid p1
              have P2 := Lib.hid p2
              have P3 := Lib.hid p3
              have P4 := Lib.hid p4
              have P5 := Lib.hid p5
              have P6 := Lib.hid p6
              have P7 := Lib.hid p7
              have P8 := Lib.hid p8
              have P9 := Lib.hid p9
              have P10 := Lib.hid p10
              have P11 := Lib.hid p11
              have P12 := Lib.hid p12
              have P13 := Lib.hid p13
              have P14 := Lib.hid p14
              have P15 := Lib.hid p15
              have P16 := Lib.hid p16
              have P17 := Lib.hid p17
              have HS := Lib.hid hS
              clear hS hLi hafter p0 p1 p2 p3 p4 p5 p6 p7 p8 p9 p10 p11 p12 p13 p14 p15 p16 p17
              simp only [Act.put, List.setIfInBounds_toArray, List.set_cons_zero, List.set_cons_succ]
              go_wp2_with fail
              exact ⟨u50, u51, u52, u53, u54, u55, u56, u57, u58, .pointer (some ⟨wr.heap.size, 1, none⟩), u60, u61, u62, u49, u63, u64, u11, u12, by simp only [Act.put, List.setIfInBounds_toArray, List.set_cons_zero, List.set_cons_succ], HS.out, (fun h => by first | rfl | exact P0.out (by simpa using h)), (fun h => by first | rfl | exact P1.out (by simpa using h)), (fun h => by first | rfl | exact P2.out (by simpa using h)), (fun h => by first | rfl | exact P3.out (by simpa using h)), (fun h => by first | rfl | exact P4.out (by simpa using h)), (fun h => by first | rfl | exact P5.out (by simpa using h)), (fun h => by first | rfl | exact P6.out (by simpa using h)), (fun h => by first | rfl | exact P7.out (by simpa using h)), (fun h => by first | rfl | exact P8.out (by simpa using h)), (fun _ => rfl), (fun h => by first | rfl | exact P10.out (by simpa using h)), (fun h => by first | rfl | exact P11.out (by simpa using h)), (fun h => P12.out (by simpa using h)), (fun h => P13.out (by simpa using h)), (fun h => P14.out (by simpa using h)), (fun h => by first | rfl | exact P15.out (by simpa using h)), (fun h => P16.out (by simpa using h)), (fun h => by first | rfl | exact P17.out (by simpa using h))⟩
            · simp only [List.getElem?_toArray, List.getElem?_cons_zero, List.getElem?_cons_succ, Option.some.injEq] at ho
              subst ho
              obtain rfl := p9 (hafter ⟨9, .data⟩ (by simp) rfl)
              have c1 := (hS.1.cell (p := ⟨wr.heap.size, 1, none⟩) hl_T).trans k_T_1
              have P0 := Lib.hid p0
              have P1 := Lib.hid p1
              have P2 := Lib.hid p2
              have P3 := Lib.hid p3
              have P4 := Lib.hid p4
              have P5 := Lib.hid p5
              have P6 := Lib.hid p6
              have P7 := Lib.hid p7
              have P8 := Lib.hid p8
              have P9 := Lib.hid p9
              have P10 := Lib.hid p10
              have P11 := Lib.hid p11
              have P12 := Lib.hid p12
              have P13 := Lib.hid p13
              have P14 := Lib.hid p14
              have P15 := Lib.hid p15
              have P16 := Lib.hid p16
              have P17 := Lib.hid p17
              have HS := Lib.hid hS
              clear hS hLi hafter p0 p1 p2 p3 p4 p5 p6 p7 p8 p9 p10 p11 p12 p13 p14 p15 p16 p17
              simp only [Act.put, List.setIfInBounds_toArray, List.set_cons_zero, List.set_cons_succ]
              go_wp2_with fail
              exact ⟨u50, u51, u52, u53, u54, u55, u56, u57, u58, .pointer (some ⟨wr.heap.size, 1, none⟩), .int .i64 ((x1 : Nat) : Int), u61, u62, u49, u63, u64, u11, u12, by simp only [Act.put, List.setIfInBounds_toArray, List.set_cons_zero, List.set_cons_succ], HS.out, (fun h => by first | rfl | exact P0.out (by simpa using h)), (fun h => by first | rfl | exact P1.out (by simpa using h)), (fun h => by first | rfl | exact P2.out (by simpa using h)), (fun h => by first | rfl | exact P3.out (by simpa using h)), (fun h => by first | rfl | exact P4.out (by simpa using h)), (fun h => by first | rfl | exact P5.out (by simpa using h)), (fun h => by first | rfl | exact P6.out (by simpa using h)), (fun h => by first | rfl | exact P7.out (by simpa using h)), (fun h => by first | rfl | exact P8.out (by simpa using h)), (fun h => by first | rfl | exact P9.out (by simpa using h)), (fun _ => rfl), (fun h => by first | rfl | exact P11.out (by simpa using h)), (fun h => P12.out (by simpa using h)), (fun h => P13.out (by simpa using h)), (fun h => P14.out (by simpa using h)), (fun h => by first | rfl | exact P15.out (by simpa using h)), (fun h => P16.out (by simpa using h)), (fun h => by first | rfl | exact P17.out (by simpa using h))⟩
            · simp only [List.getElem?_toArray, List.getElem?_cons_zero, List.getElem?_cons_succ, Option.some.injEq] at ho
              subst ho
              obtain rfl := p8 (hafter ⟨8, .data⟩ (by simp) rfl)
              obtain rfl := p10 (hafter ⟨10, .data⟩ (by simp) rfl)
              have P0 := Lib.hid p0
              have P1 := Lib.hid p1
              have P2 := Lib.hid p2
              have P3 := Lib.hid p3
              have P4 := Lib.hid p4
              have P5 := Lib.hid p5
              have P6 := Lib.hid p6
              have P7 := Lib.hid p7
              have P8 := Lib.hid p8
              have P9 := Lib.hid p9
              have P10 := Lib.hid p10
              have P11 := Lib.hid p11
              have P12 := Lib.hid p12
              have P13 := Lib.hid p13
              have P14 := Lib.hid p14
              have P15 := Lib.hid p15
              have P16 := Lib.hid p16
              have P17 := Lib.hid p17
              have HS := Lib.hid hS
              clear hS hLi hafter p0 p1 p2 p3 p4 p5 p6 p7 p8 p9 p10 p11 p12 p13 p14 p15 p16 p17
              simp only [Act.put, List.setIfInBounds_toArray, List.set_cons_zero, List.set_cons_succ]
              go_wp2_with fail
              exact ⟨u50, u51, u52, u53, u54, u55, u56, u57, .int .i64 ((x0 : Nat) : Int), u59, .int .i64 ((x1 : Nat) : Int), .int .i64 ((R : Nat) : Int), u62, u49, u63, u64, u11, u12, by simp only [Act.put, List.setIfInBounds_toArray, List.set_cons_zero, List.set_cons_succ], HS.out, (fun h => by first | rfl | exact P0.out (by simpa using h)), (fun h => by first | rfl | exact P1.out (by simpa using h)), (fun h => by first | rfl | exact P2.out (by simpa using h)), (fun h => by first | rfl | exact P3.out (by simpa using h)), (fun h => by first | rfl | exact P4.out (by simpa using h)), (fun h => by first | rfl | exact P5.out (by simpa using h)), (fun h => by first | rfl | exact P6.out (by simpa using h)), (fun h => by first | rfl | exact P7.out (by simpa using h)), (fun h => by first | rfl | exact P8.out (by simpa using h)), (fun h => by first | rfl | exact P9.out (by simpa using h)), (fun h => by first | rfl | exact P10.out (by simpa using h)), (fun _ => rfl), (fun h => P12.out (by simpa using h)), (fun h => P13.out (by simpa using h)), (fun h => P14.out (by simpa using h)), (fun h => by first | rfl | exact P15.out (by simpa using h)), (fun h => P16.out (by simpa using h)), (fun h => by first | rfl | exact P17.out (by simpa using h))⟩
            · simp only [List.getElem?_toArray, List.getElem?_cons_zero, List.getElem?_cons_succ, Option.some.injEq] at ho
              subst ho
              obtain rfl := p1 (hafter ⟨1, .data⟩ (by simp) rfl)
              obtain rfl := p6 (hafter ⟨6, .data⟩ (by simp) rfl)
              obtain rfl := p11 (hafter ⟨11, .data⟩ (by simp) rfl)
              have P0 := Lib.hid p0
              have P1 := Lib.hid p1
              have P2 := Lib.hid p2
              have P3 := Lib.hid p3
              have P4 := Lib.hid p4
              have P5 := Lib.hid p5
              have P6 := Lib.hid p6
              have P7 := Lib.hid p7
              have P8 := Lib.hid p8
              have P9 := Lib.hid p9
              have P10 := Lib.hid p10
              have P11 := Lib.hid p11
              have P12 := Lib.hid p12
              have P13 := Lib.hid p13
              have P14 := Lib.hid p14
              have P15 := Lib.hid p15
              have P16 := Lib.hid p16
              have P17 := Lib.hid p17
              have HS := Lib.hid hS
              clear hS hLi hafter p0 p1 p2 p3 p4 p5 p6 p7 p8 p9 p10 p11 p12 p13 p14 p15 p16 p17
              simp only [Act.put, List.setIfInBounds_toArray, List.set_cons_zero, List.set_cons_succ]
              go_wp2_with fail
              refine (hyper_ok (N := N) m M1 R l _ (by have := HS.out.2; omega) t1 t2 t3 HLL.out q HQH.out).mono ?_
              rintro e wn ⟨bb, rfl, hb1, hb2, hl, hb⟩
              have HN := Lib.hid hl
              have Hb := Lib.hid hb
              have HZ := Lib.hid (show N ≤ bb by have := HS.out.2; omega)
              clear hl hb
              go_wp2_with fail
              exact ⟨u50, .int .i64 ((m : Nat) : Int), u52, u53, u54, u55, .int .i64 ((M1 : Nat) : Int), u57, u58, u59, u60, .int .i64 ((R : Nat) : Int), _, u49, u63, u64, u11, u12, by simp only [Act.put, List.setIfInBounds_toArray, List.set_cons_zero, List.set_cons_succ], HS.out.below Hb.out, (fun h => by first | rfl | exact P0.out (by simpa using h)), (fun h => by first | rfl | exact P1.out (by simpa using h)), (fun h => by first | rfl | exact P2.out (by simpa using h)), (fun h => by first | rfl | exact P3.out (by simpa using h)), (fun h => by first | rfl | exact P4.out (by simpa using h)), (fun h => by first | rfl | exact P5.out (by simpa using h)), (fun h => by first | rfl | exact P6.out (by simpa using h)), (fun h => by first | rfl | exact P7.out (by simpa using h)), (fun h => by first | rfl | exact P8.out (by simpa using h)), (fun h => by first | rfl | exact P9.out (by simpa using h)), (fun h => by first | rfl | exact P10.out (by simpa using h)), (fun h => by first | rfl | exact P11.out (by simpa using h)), (fun _ => ⟨bb, rfl, HZ.out, HN.out⟩), (fun h => (P13.out (by simpa using h)).below Hb.out), (fun h => (P14.out (by simpa using h)).below Hb.out), (fun h => by first | rfl | exact P15.out (by simpa using h)), (fun h => (P16.out (by simpa using h)).below Hb.out), (fun h => by first | rfl | exact P17.out (by simpa using h))⟩
            · simp only [List.getElem?_toArray, List.getElem?_cons_zero, List.getElem?_cons_succ, Option.some.injEq] at ho
              subst ho
              obtain ⟨b12, rfl, hz12, hr12⟩ := p12 (hafter ⟨12, .data⟩ (by simp) rfl)
              have HN12 := Lib.hid hr12
              clear hr12
              have P0 := Lib.hid p0
              have P1 := Lib.hid p1
              have P2 := Lib.hid p2
              have P3 := Lib.hid p3
              have P4 := Lib.hid p4
              have P5 := Lib.hid p5
              have P6 := Lib.hid p6
              have P7 := Lib.hid p7
              have P8 := Lib.hid p8
              have P9 := Lib.hid p9
              have P10 := Lib.hid p10
              have P11 := Lib.hid p11
              have P12 := Lib.hid p12
              have P13 := Lib.hid p13
              have P14 := Lib.hid p14
              have P15 := Lib.hid p15
              have P16 := Lib.hid p16
              have P17 := Lib.hid p17
              have HS := Lib.hid hS
              clear hS hLi hafter p0 p1 p2 p3 p4 p5 p6 p7 p8 p9 p10 p11 p12 p13 p14 p15 p16 p17
              simp only [Act.put, List.setIfInBounds_toArray, List.set_cons_zero, List.set_cons_succ]
              go_wp2_with fail
              exact ⟨u50, u51, u52, u53, u54, u55, u56, u57, u58, u59, u60, u61, _, _, u63, u64, u11, u12, by simp only [Act.put, List.setIfInBounds_toArray, List.set_cons_zero, List.set_cons_succ], HS.out, (fun h => by first | rfl | exact P0.out (by simpa using h)), (fun h => by first | rfl | exact P1.out (by simpa using h)), (fun h => by first | rfl | exact P2.out (by simpa using h)), (fun h => by first | rfl | exact P3.out (by simpa using h)), (fun h => by first | rfl | exact P4.out (by simpa using h)), (fun h => by first | rfl | exact P5.out (by simpa using h)), (fun h => by first | rfl | exact P6.out (by simpa using h)), (fun h => by first | rfl | exact P7.out (by simpa using h)), (fun h => by first | rfl | exact P8.out (by simpa using h)), (fun h => by first | rfl | exact P9.out (by simpa using h)), (fun h => by first | rfl | exact P10.out (by simpa using h)), (fun h => by first | rfl | exact P11.out (by simpa using h)), (fun h => P12.out (by simpa using h)), (fun _ => ⟨b12, rfl, hz12, HN12.out⟩), (fun h => P14.out (by simpa using h)), (fun h => by first | rfl | exact P15.out (by simpa using h)), (fun h => P16.out (by simpa using h)), (fun h => by first | rfl | exact P17.out (by simpa using h))⟩
            · simp only [List.getElem?_toArray, List.getElem?_cons_zero, List.getElem?_cons_succ, Option.some.injEq] at ho
              subst ho
              obtain ⟨b13, rfl, hz13, hr13⟩ := p13 (hafter ⟨13, .data⟩ (by simp) rfl)
              have HN13 := Lib.hid hr13
              clear hr13
              have P0 := Lib.hid p0
              have P1 := Lib.hid p1
              have P2 := Lib.hid p2
              have P3 := Lib.hid p3
              have P4 := Lib.hid p4
              have P5 := Lib.hid p5
              have P6 := Lib.hid p6
              have P7 := Lib.hid p7
              have P8 := Lib.hid p8
              have P9 := Lib.hid p9
              have P10 := Lib.hid p10
              have P11 := Lib.hid p11
              have P12 := Lib.hid p12
              have P13 := Lib.hid p13
              have P14 := Lib.hid p14
              have P15 := Lib.hid p15
              have P16 := Lib.hid p16
              have P17 := Lib.hid p17
              have HS := Lib.hid hS
              clear hS hLi hafter p0 p1 p2 p3 p4 p5 p6 p7 p8 p9 p10 p11 p12 p13 p14 p15 p16 p17
              simp only [Act.put, List.setIfInBounds_toArray, List.set_cons_zero, List.set_cons_succ]
              go_wp2_with fail
              exact ⟨u50, u51, u52, u53, u54, u55, u56, u57, u58, u59, u60, u61, u62, _, _, u64, u11, u12, by simp only [Act.put, List.setIfInBounds_toArray, List.set_cons_zero, List.set_cons_succ], HS.out, (fun h => by first | rfl | exact P0.out (by simpa using h)), (fun h => by first | rfl | exact P1.out (by simpa using h)), (fun h => by first | rfl | exact P2.out (by simpa using h)), (fun h => by first | rfl | exact P3.out (by simpa using h)), (fun h => by first | rfl | exact P4.out (by simpa using h)), (fun h => by first | rfl | exact P5.out (by simpa using h)), (fun h => by first | rfl | exact P6.out (by simpa using h)), (fun h => by first | rfl | exact P7.out (by simpa using h)), (fun h => by first | rfl | exact P8.out (by simpa using h)), (fun h => by first | rfl | exact P9.out (by simpa using h)), (fun h => by first | rfl | exact P10.out (by simpa using h)), (fun h => by first | rfl | exact P11.out (by simpa using h)), (fun h => P12.out (by simpa using h)), (fun h => P13.out (by simpa using h)), (fun _ => ⟨b13, rfl, hz13, HN13.out⟩), (fun h => by first | rfl | exact P15.out (by simpa using h)), (fun h => P16.out (by simpa using h)), (fun h => by first | rfl | exact P17.out (by simpa using h))⟩
            · simp only [List.getElem?_toArray, List.getElem?_cons_zero, List.getElem?_cons_succ, Option.some.injEq] at ho
              subst ho
              obtain ⟨b13, rfl, hz13, hr13⟩ := p13 (hafter ⟨13, .data⟩ (by simp) rfl)
              have HN13 := Lib.hid hr13
              clear hr13
              have P0 := Lib.hid p0
              have P1 := Lib.hid p1
              have P2 := Lib.hid p2
              have P3 := Lib.hid p3
              have P4 := Lib.hid p4
              have P5 := Lib.hid p5
              have P6 := Lib.hid p6
              have P7 := Lib.hid p7
              have P8 := Lib.hid p8
              have P9 := Lib.hid p9
              have P10 := Lib.hid p10
              have P11 := Lib.hid p11
              have P12 := Lib.hid p12
              have P13 := Lib.hid p13
              have P14 := Lib.hid p14
              have P15 := Lib.hid p15
              have P16 := Lib.hid p16
              have P17 := Lib.hid p17
              have HS := Lib.hid hS
              clear hS hLi hafter p0 p1 p2 p3 p4 p5 p6 p7 p8 p9 p10 p11 p12 p13 p14 p15 p16 p17
              simp only [Act.put, List.setIfInBounds_toArray, List.set_cons_zero, List.set_cons_succ]
              go_wp2_with fail
              exact ⟨u50, u51, u52, u53, u54, u55, u56, u57, u58, u59, u60, u61, u62, _, u63, .int .i64 0, u11, u12, by simp only [Act.put, List.setIfInBounds_toArray, List.set_cons_zero, List.set_cons_succ], HS.out, (fun h => by first | rfl | exact P0.out (by simpa using h)), (fun h => by first | rfl | exact P1.out (by simpa using h)), (fun h => by first | rfl | exact P2.out (by simpa using h)), (fun h => by first | rfl | exact P3.out (by simpa using h)), (fun h => by first | rfl | exact P4.out (by simpa using h)), (fun h => by first | rfl | exact P5.out (by simpa using h)), (fun h => by first | rfl | exact P6.out (by simpa using h)), (fun h => by first | rfl | exact P7.out (by simpa using h)), (fun h => by first | rfl | exact P8.out (by simpa using h)), (fun h => by first | rfl | exact P9.out (by simpa using h)), (fun h => by first | rfl | exact P10.out (by simpa using h)), (fun h => by first | rfl | exact P11.out (by simpa using h)), (fun h => P12.out (by simpa using h)), (fun h => P13.out (by simpa using h)), (fun h => P14.out (by simpa using h)), (fun _ => rfl), (fun h => P16.out (by simpa using h)), (fun h => by first | rfl | exact P17.out (by simpa using h))⟩
            · simp only [List.getElem?_toArray, List.getElem?_cons_zero, List.getElem?_cons_succ, Option.some.injEq] at ho
              subst ho
              obtain ⟨b14, rfl, hz14, hr14⟩ := p14 (hafter ⟨14, .data⟩ (by simp) rfl)
              have HN14 := Lib.hid hr14
              clear hr14
              have P0 := Lib.hid p0
              have P1 := Lib.hid p1
              have P2 := Lib.hid p2
              have P3 := Lib.hid p3
              have P4 := Lib.hid p4
              have P5 := Lib.hid p5
              have P6 := Lib.hid p6
              have P7 := Lib.hid p7
              have P8 := Lib.hid p8
              have P9 := Lib.hid p9
              have P10 := Lib.hid p10
              have P11 := Lib.hid p11
              have P12 := Lib.hid p12
              have P13 := Lib.hid p13
              have P14 := Lib.hid p14
              have P15 := Lib.hid p15
              have P16 := Lib.hid p16
              have P17 := Lib.hid p17
              have HS := Lib.hid hS
              clear hS hLi hafter p0 p1 p2 p3 p4 p5 p6 p7 p8 p9 p10 p11 p12 p13 p14 p15 p16 p17
              simp only [Act.put, List.setIfInBounds_toArray, List.set_cons_zero, List.set_cons_succ]
              go_wp2_with fail
              exact ⟨u50, u51, u52, u53, u54, u55, u56, u57, u58, u59, u60, u61, u62, u49, _, u64, _, u12, by simp only [Act.put, List.setIfInBounds_toArray, List.set_cons_zero, List.set_cons_succ], HS.out, (fun h => by first | rfl | exact P0.out (by simpa using h)), (fun h => by first | rfl | exact P1.out (by simpa using h)), (fun h => by first | rfl | exact P2.out (by simpa using h)), (fun h => by first | rfl | exact P3.out (by simpa using h)), (fun h => by first | rfl | exact P4.out (by simpa using h)), (fun h => by first | rfl | exact P5.out (by simpa using h)), (fun h => by first | rfl | exact P6.out (by simpa using h)), (fun h => by first | rfl | exact P7.out (by simpa using h)), (fun h => by first | rfl | exact P8.out (by simpa using h)), (fun h => by first | rfl | exact P9.out (by simpa using h)), (fun h => by first | rfl | exact P10.out (by simpa using h)), (fun h => by first | rfl | exact P11.out (by simpa using h)), (fun h => P12.out (by simpa using h)), (fun h => P13.out (by simpa using h)), (fun h => P14.out (by simpa using h)), (fun h => by first | rfl | exact P15.out (by simpa using h)), (fun _ => ⟨b14, rfl, hz14, HN14.out⟩), (fun h => by first | rfl | exact P17.out (by simpa using h))⟩
            · simp only [List.getElem?_toArray, List.getElem?_cons_zero, List.getElem?_cons_succ, Option.some.injEq] at ho
              subst ho
              obtain rfl := p15 (hafter ⟨15, .data⟩ (by simp) rfl)
              have P0 := Lib.hid p0
              have P1 := Lib.hid p1
              have P2 := Lib.hid p2
              have P3 := Lib.hid p3
              have P4 := Lib.hid p4
              have P5 := Lib.hid p5
              have P6 := Lib.hid p6
              have P7 := Lib.hid p7
              have P8 := Lib.hid p8
              have P9 := Lib.hid p9
              have P10 := Lib.hid p10
              have P11 := Lib.hid p11
              have P12 := Lib.hid p12
              have P13 := Lib.hid p13
              have P14 := Lib.hid p14
              have P15 := Lib.hid p15
              have P16 := Lib.hid p16
              have P17 := Lib.hid p17
              have HS := Lib.hid hS
              clear hS hLi hafter p0 p1 p2 p3 p4 p5 p6 p7 p8 p9 p10 p11 p12 p13 p14 p15 p16 p17
              simp only [Act.put, List.setIfInBounds_toArray, List.set_cons_zero, List.set_cons_succ]
              go_wp2_with fail
              exact ⟨u50, u51, u52, u53, u54, u55, u56, u57, u58, u59, u60, u61, u62, u49, u63, .int .i64 0, u11, .int .i64 0, by simp only [Act.put, List.setIfInBounds_toArray, List.set_cons_zero, List.set_cons_succ], HS.out, (fun h => by first | rfl | exact P0.out (by simpa using h)), (fun h => by first | rfl | exact P1.out (by simpa using h)), (fun h => by first | rfl | exact P2.out (by simpa using h)), (fun h => by first | rfl | exact P3.out (by simpa using h)), (fun h => by first | rfl | exact P4.out (by simpa using h)), (fun h => by first | rfl | exact P5.out (by simpa using h)), (fun h => by first | rfl | exact P6.out (by simpa using h)), (fun h => by first | rfl | exact P7.out (by simpa using h)), (fun h => by first | rfl | exact P8.out (by simpa using h)), (fun h => by first | rfl | exact P9.out (by simpa using h)), (fun h => by first | rfl | exact P10.out (by simpa using h)), (fun h => by first | rfl | exact P11.out (by simpa using h)), (fun h => P12.out (by simpa using h)), (fun h => P13.out (by simpa using h)), (fun h => P14.out (by simpa using h)), (fun h => by first | rfl | exact P15.out (by simpa using h)), (fun h => P16.out (by simpa using h)), (fun _ => rfl)⟩
          · intro Ls a0 wq hall hJ
            obtain ⟨u50, u51, u52, u53, u54, u55, u56, u57, u58, u59, u60, u61, u62, u49, u63, u64, u11, u12, rfl, hS, p0, p1, p2, p3, p4, p5, p6, p7, p8, p9, p10, p11, p12, p13, p14, p15, p16, p17⟩ := hJ
            replace p0 := p0 (hall 0 (by decide))
            replace p1 := p1 (hall 1 (by decide))
            replace p2 := p2 (hall 2 (by decide))
            replace p3 := p3 (hall 3 (by decide))
            replace p4 := p4 (hall 4 (by decide))
            replace p5 := p5 (hall 5 (by decide))
            replace p6 := p6 (hall 6 (by decide))
            replace p7 := p7 (hall 7 (by decide))
            replace p8 := p8 (hall 8 (by decide))
            replace p9 := p9 (hall 9 (by decide))
            replace p10 := p10 (hall 10 (by decide))
            replace p11 := p11 (hall 11 (by decide))
            replace p12 := p12 (hall 12 (by decide))
            replace p13 := p13 (hall 13 (by decide))
            replace p14 := p14 (hall 14 (by decide))
            replace p15 := p15 (hall 15 (by decide))
            replace p16 := p16 (hall 16 (by decide))
            replace p17 := p17 (hall 17 (by decide))
            have hb := hS.1
            have HSL := Lib.hid p16
            obtain rfl := p17
            clear hS p0 p1 p2 p3 p4 p5 p6 p7 p8 p9 p10 p11 p12 p13 p14 p15
            have hs_wq : W3.heap.size ≤ wq.heap.size := hb.size
            replace k_T_0 : wq.cell? ⟨wr.heap.size, 0, none⟩ = some (.int .i64 ((x0 : Nat) : Int)) := (hb.cell (p := ⟨wr.heap.size, 0, none⟩) hl_T).trans k_T_0
            replace k_T_1 : wq.cell? ⟨wr.heap.size, 1, none⟩ = some (.int .i64 ((x1 : Nat) : Int)) := (hb.cell (p := ⟨wr.heap.size, 1, none⟩) hl_T).trans k_T_1
            replace k_T_2 : wq.cell? ⟨wr.heap.size, 2, none⟩ = some (.int .i64 ((x2 : Nat) : Int)) := (hb.cell (p := ⟨wr.heap.size, 2, none⟩) hl_T).trans k_T_2
            replace k_T_3 : wq.cell? ⟨wr.heap.size, 3, none⟩ = some (.int .i64 ((x3 : Nat) : Int)) := (hb.cell (p := ⟨wr.heap.size, 3, none⟩) hl_T).trans k_T_3
            replace f_T : ∀ o, wq.frozen? ⟨wr.heap.size, o, none⟩ = false := fun o => (hb.frozen (p := ⟨wr.heap.size, o, none⟩) hl_T).trans (f_T o)
            replace HX_T := Lib.hid (HX_T.out.below hb)
            replace HB := Lib.hid (HB.out.trans (hb.mono hs0))
            replace hN : N ≤ wq.heap.size := Nat.le_trans hN hb.size
            replace hs0 : w.heap.size ≤ wq.heap.size := Nat.le_trans hs0 hb.size
            replace hl_T : wr.heap.size < wq.heap.size := Nat.lt_of_lt_of_le hl_T hb.size
            replace HRL := Lib.hid (HRL.out.below hb)
            clear hb
            obtain ⟨bb, rfl, hbl, hl⟩ := HSL.out
            have HD := Lib.hid hl
            clear hl HSL
            simp only [Act.put, List.setIfInBounds_toArray, List.set_cons_zero, List.set_cons_succ]
            go_wp2_with fail
            refine calls_name fun W4 hW => ?_
            have HL_W4 := Lib.hid (show Below wq.heap.size wq W4 by rw [← hW]; exact BlA)
            have hs_W4 : wq.heap.size ≤ W4.heap.size := by rw [← hW]; (first | omega | (simp; done) | (simp; omega))
            replace k_T_0 : W4.cell? ⟨wr.heap.size, 0, none⟩ = some (.int .i64 ((x0 : Nat) : Int)) := (HL_W4.out.cell (p := ⟨wr.heap.size, 0, none⟩) hl_T).trans k_T_0
            replace k_T_1 : W4.cell? ⟨wr.heap.size, 1, none⟩ = some (.int .i64 ((x1 : Nat) : Int)) := (HL_W4.out.cell (p := ⟨wr.heap.size, 1, none⟩) hl_T).trans k_T_1
            replace k_T_2 : W4.cell? ⟨wr.heap.size, 2, none⟩ = some (.int .i64 ((x2 : Nat) : Int)) := (HL_W4.out.cell (p := ⟨wr.heap.size, 2, none⟩) hl_T).trans k_T_2
            replace k_T_3 : W4.cell? ⟨wr.heap.size, 3, none⟩ = some (.int .i64 ((x3 : Nat) : Int)) := (HL_W4.out.cell (p := ⟨wr.heap.size, 3, none⟩) hl_T).trans k_T_3
            replace f_T : ∀ o, W4.frozen? ⟨wr.heap.size, o, none⟩ = false := fun o => (HL_W4.out.frozen (p := ⟨wr.heap.size, o, none⟩) hl_T).trans (f_T o)
            replace HX_T := Lib.hid (show Bn W4 (wr.heap.size) by rw [← hW]; exact KpA)
            replace HB := Lib.hid (show Below w.heap.size w W4 by rw [← hW]; exact BlA)
            replace hN : N ≤ W4.heap.size := by rw [← hW]; (first | omega | (simp; done) | (simp; omega))
            replace hs0 : w.heap.size ≤ W4.heap.size := by rw [← hW]; (first | omega | (simp; done) | (simp; omega))
            replace hl_T : wr.heap.size < W4.heap.size := by rw [← hW]; (first | omega | (simp; done) | (simp; omega))
            replace HRL := Lib.hid (HRL.out.below HL_W4.out)
            replace HD := Lib.hid (HD.out.below HL_W4.out)
            clear HL_W4
            clear hW
            have lt_HRL := HRL.out.lt
            have lt_HD := HD.out.lt
            refine (Convolve_ok (N := N) _ _ S1 S1 l l (nulS t j) q 76 _ hN (HRL.out.rs (by unfold maxLen; omega) 76 HNL.out) (HD.out.rs (by unfold maxLen; omega) 76 HQL.out) (by omega) HNV.out HQV.out S2 hst hsm2 (nulS t (j + 1)) HCV.out).mono ?_
            rintro e wf ⟨bc', rfl, hc1, hc2, hl, hb⟩
            have hs_wf : W4.heap.size ≤ wf.heap.size := hb.size
            replace k_T_0 : wf.cell? ⟨wr.heap.size, 0, none⟩ = some (.int .i64 ((x0 : Nat) : Int)) := (hb.cell (p := ⟨wr.heap.size, 0, none⟩) hl_T).trans k_T_0
            replace k_T_1 : wf.cell? ⟨wr.heap.size, 1, none⟩ = some (.int .i64 ((x1 : Nat) : Int)) := (hb.cell (p := ⟨wr.heap.size, 1, none⟩) hl_T).trans k_T_1
            replace k_T_2 : wf.cell? ⟨wr.heap.size, 2, none⟩ = some (.int .i64 ((x2 : Nat) : Int)) := (hb.cell (p := ⟨wr.heap.size, 2, none⟩) hl_T).trans k_T_2
            replace k_T_3 : wf.cell? ⟨wr.heap.size, 3, none⟩ = some (.int .i64 ((x3 : Nat) : Int)) := (hb.cell (p := ⟨wr.heap.size, 3, none⟩) hl_T).trans k_T_3
            replace f_T : ∀ o, wf.frozen? ⟨wr.heap.size, o, none⟩ = false := fun o => (hb.frozen (p := ⟨wr.heap.size, o, none⟩) hl_T).trans (f_T o)
            replace HX_T := Lib.hid (HX_T.out.below hb)
            replace HB := Lib.hid (HB.out.trans (hb.mono hs0))
            replace hN : N ≤ wf.heap.size := Nat.le_trans hN hb.size
            replace hs0 : w.heap.size ≤ wf.heap.size := Nat.le_trans hs0 hb.size
            replace hl_T : wr.heap.size < wf.heap.size := Nat.lt_of_lt_of_le hl_T hb.size
            replace HRL := Lib.hid (HRL.out.below hb)
            replace HD := Lib.hid (HD.out.below hb)
            clear hb
            have HRN := Lib.hid hl
            clear hl
            go_wp2_with fail
            go_roundw
            case rel =>
              exact ⟨j + 1, bc', by omega, by go_num, by rw [HS2'.out], by omega, by rw [HS2'.out]; exact HRN.out, HB.out⟩
            case measure => simp [intOf]; omega
        · obtain rfl : j = k := by omega
          rw [HS.out] at HRL ⊢
          clear hbel
          go_wp2_with fail
          refine bodyPost_ret (v := .tuple #[.slice (some ⟨b', 0, none⟩) S S, .int .i64 0]) (by simp [results, Tryd.results16, go_sem]) rfl ⟨b', rfl, hb0, HRL.out.lt, HRL.out, HB.out⟩

theorem block_nameC {P : Program} {Q : Exit → Act → World → Prop} {c : Code} {a : Act} {w : World} (h : ∀ W, w = W → c.wp P Q a W) : c.wp P Q a w := h w rfl
set_option maxRecDepth 20000 in
set_option maxHeartbeats 8000000 in
theorem test_ok {N : Nat} (a : Option Addr) (n cap : Nat) (t : Nat → Nat → Nat) (w : World) (hN : N ≤ w.heap.size) (h : Tz w a n cap t) (hn : n ≤ 20) (hc : cntS t n) (hs : supS t n ≤ 121) (p : Rat) (hp : tstS t n = p) :
    Calls Tryd.prog 10 #[.slice a n cap] w (RatOk N w p) := by
  have HA := Lib.hid h
  have HA0 := Lib.hid h
  have HCN := Lib.hid hc
  have HP := Lib.hid hp
  obtain ⟨S, hS⟩ : ∃ S, supS t n = S := ⟨_, rfl⟩
  have HS := Lib.hid hS
  rw [hS] at hs
  have HVV := Lib.hid (show valid (nulS t n) S = true by rw [← hS]; exact nulS_valid hc (by omega))
  have HLL := Lib.hid (show ∀ i, i < S → rsz (nulS t n i) ≤ 76 by rw [← hS]; exact nulS_len hc hn (by omega))
  have hrg := rgt_lt (t := t) (n := n)
  rw [hS] at hrg
  have HTT := Lib.hid (show bothQ (nulS t n) S (rgtS t n) = p by rw [← hS]; exact hp)
  have bc := h.1
  have bm := h.2.1
  unfold maxLen at bm
  clear h hc hp hS
  have hN0 := hN
  have HB := Lib.hid (Below.refl w.heap.size w)
  go_enter Tryd.func10, Tryd.ntmps10
  go_wp2_with fail
  refine calls_name fun W0 hW => ?_
  have hs_W0 : w.heap.size ≤ W0.heap.size := by rw [← hW]; (first | omega | (simp; done) | (simp; omega))
  have HL_W0 := Lib.hid (show Below w.heap.size w W0 by rw [← hW]; exact BlA)
  have k_R_0 : W0.cell? ⟨w.heap.size, 0, none⟩ = some (.bool false) := by rw [← hW]; (first | (go_simp; done) | (simp; done) | (simp [go_sem]; done) | (simp [go_sem]; done))
  have k_R_1 : W0.cell? ⟨w.heap.size, 1, none⟩ = some (.slice none 0 0) := by rw [← hW]; (first | (go_simp; done) | (simp; done) | (simp [go_sem]; done) | (simp [go_sem]; done))
  have k_R_2 : W0.cell? ⟨w.heap.size, 2, none⟩ = some (.slice none 0 0) := by rw [← hW]; (first | (go_simp; done) | (simp; done) | (simp [go_sem]; done) | (simp [go_sem]; done))
  have f_R : ∀ o, W0.frozen? ⟨w.heap.size, o, none⟩ = false := by intro o; rw [← hW]; (first | (go_simp; done) | (simp; done) | (simp [go_sem]; done) | (simp [go_sem]; done))
  have HX_R := Lib.hid (show Bn W0 (w.heap.size) by rw [← hW]; exact KpA)
  replace HB := Lib.hid (show Below w.heap.size w W0 by rw [← hW]; exact BlA)
  replace hN : N ≤ W0.heap.size := by rw [← hW]; (first | omega | (simp; done) | (simp; omega))
  have hs0 : w.heap.size ≤ W0.heap.size := by rw [← hW]; (first | omega | (simp; done) | (simp; omega))
  have hl_R : w.heap.size < W0.heap.size := by rw [← hW]; (first | omega | (simp; done) | (simp; omega))
  replace HA := Lib.hid (HA.out.below HL_W0.out)
  clear HL_W0
  clear hW
  refine (null_ok (N := N) _ n _ t _ hN HA.out hn HCN.out S HS.out hs).mono ?_
  rintro e wa ⟨bb, rfl, hb1, hb2, hl, hb⟩
  have hs_wa : W0.heap.size ≤ wa.heap.size := hb.size
  replace k_R_0 : wa.cell? ⟨w.heap.size, 0, none⟩ = some (.bool false) := (hb.cell (p := ⟨w.heap.size, 0, none⟩) hl_R).trans k_R_0
  replace k_R_1 : wa.cell? ⟨w.heap.size, 1, none⟩ = some (.slice none 0 0) := (hb.cell (p := ⟨w.heap.size, 1, none⟩) hl_R).trans k_R_1
  replace k_R_2 : wa.cell? ⟨w.heap.size, 2, none⟩ = some (.slice none 0 0) := (hb.cell (p := ⟨w.heap.size, 2, none⟩) hl_R).trans k_R_2
  replace f_R : ∀ o, wa.frozen? ⟨w.heap.size, o, none⟩ = false := fun o => (hb.frozen (p := ⟨w.heap.size, o, none⟩) hl_R).trans (f_R o)
  replace HX_R := Lib.hid (HX_R.out.below hb)
  replace HB := Lib.hid (HB.out.trans (hb.mono hs0))
  replace hN : N ≤ wa.heap.size := Nat.le_trans hN hb.size
  replace hs0 : w.heap.size ≤ wa.heap.size := Nat.le_trans hs0 hb.size
  replace hl_R : w.heap.size < wa.heap.size := Nat.lt_of_lt_of_le hl_R hb.size
  replace HA := Lib.hid (HA.out.below hb)
  clear hb
  have HD := Lib.hid hl
  clear hl
  go_wp2_with fail
  refine block_nameC fun W1 hW => ?_
  have HL_W1 := Lib.hid (show Below wa.heap.size wa W1 by rw [← hW]; exact BlA)
  have hs_W1 : wa.heap.size ≤ W1.heap.size := by rw [← hW]; (first | omega | (simp; done) | (simp; omega))
  replace k_R_0 : W1.cell? ⟨w.heap.size, 0, none⟩ = some (.bool false) := (HL_W1.out.cell (p := ⟨w.heap.size, 0, none⟩) hl_R).trans k_R_0
  replace k_R_1 : W1.cell? ⟨w.heap.size, 1, none⟩ = some (.slice none 0 0) := (HL_W1.out.cell (p := ⟨w.heap.size, 1, none⟩) hl_R).trans k_R_1
  replace k_R_2 : W1.cell? ⟨w.heap.size, 2, none⟩ = some (.slice none 0 0) := (HL_W1.out.cell (p := ⟨w.heap.size, 2, none⟩) hl_R).trans k_R_2
  replace f_R : ∀ o, W1.frozen? ⟨w.heap.size, o, none⟩ = false := fun o => (HL_W1.out.frozen (p := ⟨w.heap.size, o, none⟩) hl_R).trans (f_R o)
  replace HX_R := Lib.hid (show Bn W1 (w.heap.size) by rw [← hW]; exact KpA)
  replace HB := Lib.hid (show Below w.heap.size w W1 by rw [← hW]; exact BlA)
  replace hN : N ≤ W1.heap.size := by rw [← hW]; (first | omega | (simp; done) | (simp; omega))
  replace hs0 : w.heap.size ≤ W1.heap.size := by rw [← hW]; (first | omega | (simp; done) | (simp; omega))
  replace hl_R : w.heap.size < W1.heap.size := by rw [← hW]; (first | omega | (simp; done) | (simp; omega))
  replace HD := Lib.hid (HD.out.below HL_W1.out)
  replace HA := Lib.hid (HA.out.below HL_W1.out)
  clear HL_W1
  clear hW
  have lt_HD := HD.out.lt
  go_loopw [6, 21] (fun m i wr => ∃ k : Nat, k ≤ n ∧ i = .int .i64 k ∧ m = .int .i64 ((rgtS t k : Nat) : Int) ∧ Below W1.heap.size W1 wr) (fun _ i _ => n - (intOf i).toNat)
  case atStart => exact ⟨0, Nat.zero_le _, rfl, rfl, Below.refl _ _⟩
  case round =>
    obtain ⟨k, hk, rfl, rfl, hbel⟩ := hrel
    have HB1 := Lib.hid hbel
    have hsz1 : W1.heap.size ≤ wr.heap.size := hbel.size
    have HRB := rgtS_bd HCN.out k hk
    obtain ⟨W, hW⟩ : ∃ x, rgtS t k = x := ⟨_, rfl⟩
    rw [hW] at HRB
    rw [hW]
    have HW := Lib.hid hW
    clear hW
    by_cases hkn : k < n
    · obtain ⟨b, off, rfl, hcc⟩ := (HA.out.below hbel).2.2 (by omega)
      obtain ⟨g0, g1, g2, g3⟩ := hcc k hkn
      clear hcc
      have hx0 := HCN.out k hkn 0 (by omega)
      obtain ⟨x0, ex0⟩ : ∃ x, t k 0 = x := ⟨_, rfl⟩
      rw [ex0] at hx0 g0
      have EX0 := Lib.hid ex0
      clear ex0
      have hx1 := HCN.out k hkn 1 (by omega)
      obtain ⟨x1, ex1⟩ : ∃ x, t k 1 = x := ⟨_, rfl⟩
      rw [ex1] at hx1 g1
      have EX1 := Lib.hid ex1
      clear ex1
      have hx2 := HCN.out k hkn 2 (by omega)
      obtain ⟨x2, ex2⟩ : ∃ x, t k 2 = x := ⟨_, rfl⟩
      rw [ex2] at hx2 g2
      have EX2 := Lib.hid ex2
      clear ex2
      have hx3 := HCN.out k hkn 3 (by omega)
      obtain ⟨x3, ex3⟩ : ∃ x, t k 3 = x := ⟨_, rfl⟩
      rw [ex3] at hx3 g3
      have EX3 := Lib.hid ex3
      clear ex3
      have hix0 : (0 : Int) ≤ (k : Int) := by omega
      have hix1 : (k : Int) < (n : Int) := by omega
      clear hbel
      have HWN := Lib.hid (show rgtS t (k + 1) = W + x0 by unfold rgtS; simp only [kkS]; rw [EX0.out, ← HW.out]; rfl)
      go_wp2_with fail
      go_roundw
      case rel =>
        refine ⟨k + 1, by omega, by go_num, by rw [HWN.out]; go_num, ?_⟩
        · exact BlA
      case measure => simp [intOf]; omega
    · obtain rfl : k = n := by omega
      rw [HW.out] at hrg HTT
      clear HB1
      have hs_wr : W1.heap.size ≤ wr.heap.size := hbel.size
      replace k_R_0 : wr.cell? ⟨w.heap.size, 0, none⟩ = some (.bool false) := (hbel.cell (p := ⟨w.heap.size, 0, none⟩) hl_R).trans k_R_0
      replace k_R_1 : wr.cell? ⟨w.heap.size, 1, none⟩ = some (.slice none 0 0) := (hbel.cell (p := ⟨w.heap.size, 1, none⟩) hl_R).trans k_R_1
      replace k_R_2 : wr.cell? ⟨w.heap.size, 2, none⟩ = some (.slice none 0 0) := (hbel.cell (p := ⟨w.heap.size, 2, none⟩) hl_R).trans k_R_2
      replace f_R : ∀ o, wr.frozen? ⟨w.heap.size, o, none⟩ = false := fun o => (hbel.frozen (p := ⟨w.heap.size, o, none⟩) hl_R).trans (f_R o)
      replace HX_R := Lib.hid (HX_R.out.below hbel)
      replace HB := Lib.hid (HB.out.trans (hbel.mono hs0))
      replace hN : N ≤ wr.heap.size := Nat.le_trans hN hbel.size
      replace hs0 : w.heap.size ≤ wr.heap.size := Nat.le_trans hs0 hbel.size
      replace hl_R : w.heap.size < wr.heap.size := Nat.lt_of_lt_of_le hl_R hbel.size
      replace HD := Lib.hid (HD.out.below hbel)
      replace HA := Lib.hid (HA.out.below hbel)
      clear hbel
      go_wp2_with fail
      refine calls_name fun W2 hW => ?_
      have HL_W2 := Lib.hid (show Below wr.heap.size wr W2 by rw [← hW]; exact BlA)
      have hs_W2 : wr.heap.size ≤ W2.heap.size := by rw [← hW]; (first | omega | (simp; done) | (simp; omega))
      replace k_R_0 : W2.cell? ⟨w.heap.size, 0, none⟩ = some (.bool false) := (HL_W2.out.cell (p := ⟨w.heap.size, 0, none⟩) hl_R).trans k_R_0
      replace k_R_1 : W2.cell? ⟨w.heap.size, 1, none⟩ = some (.slice none 0 0) := (HL_W2.out.cell (p := ⟨w.heap.size, 1, none⟩) hl_R).trans k_R_1
      replace k_R_2 : W2.cell? ⟨w.heap.size, 2, none⟩ = some (.slice none 0 0) := (HL_W2.out.cell (p := ⟨w.heap.size, 2, none⟩) hl_R).trans k_R_2
      replace f_R : ∀ o, W2.frozen? ⟨w.heap.size, o, none⟩ = false := fun o => (HL_W2.out.frozen (p := ⟨w.heap.size, o, none⟩) hl_R).trans (f_R o)
      replace HX_R := Lib.hid (show Bn W2 (w.heap.size) by rw [← hW]; exact KpA)
      replace HB := Lib.hid (show Below w.heap.size w W2 by rw [← hW]; exact BlA)
      replace hN : N ≤ W2.heap.size := by rw [← hW]; (first | omega | (simp; done) | (simp; omega))
      replace hs0 : w.heap.size ≤ W2.heap.size := by rw [← hW]; (first | omega | (simp; done) | (simp; omega))
      replace hl_R : w.heap.size < W2.heap.size := by rw [← hW]; (first | omega | (simp; done) | (simp; omega))
      replace HD := Lib.hid (HD.out.below HL_W2.out)
      replace HA := Lib.hid (HA.out.below HL_W2.out)
      clear HL_W2
      clear hW
      have lt_HD := HD.out.lt
      refine (Both_in (N := N) _ S S (nulS t k) 76 _ hN (HD.out.rs (by unfold maxLen; omega) 76 HLL.out) (by omega) HVV.out W hrg p HTT.out).mono ?_
      rintro e wc ⟨ru, cu, ru2, cu2, rfl, hn, hn', hb⟩
      have hs_wc : W2.heap.size ≤ wc.heap.size := hb.size
      replace k_R_0 : wc.cell? ⟨w.heap.size, 0, none⟩ = some (.bool false) := (hb.cell (p := ⟨w.heap.size, 0, none⟩) hl_R).trans k_R_0
      replace k_R_1 : wc.cell? ⟨w.heap.size, 1, none⟩ = some (.slice none 0 0) := (hb.cell (p := ⟨w.heap.size, 1, none⟩) hl_R).trans k_R_1
      replace k_R_2 : wc.cell? ⟨w.heap.size, 2, none⟩ = some (.slice none 0 0) := (hb.cell (p := ⟨w.heap.size, 2, none⟩) hl_R).trans k_R_2
      replace f_R : ∀ o, wc.frozen? ⟨w.heap.size, o, none⟩ = false := fun o => (hb.frozen (p := ⟨w.heap.size, o, none⟩) hl_R).trans (f_R o)
      replace HX_R := Lib.hid (HX_R.out.below hb)
      replace HB := Lib.hid (HB.out.trans (hb.mono hs0))
      replace hN : N ≤ wc.heap.size := Nat.le_trans hN hb.size
      replace hs0 : w.heap.size ≤ wc.heap.size := Nat.le_trans hs0 hb.size
      replace hl_R : w.heap.size < wc.heap.size := Nat.lt_of_lt_of_le hl_R hb.size
      replace HD := Lib.hid (HD.out.below hb)
      replace HA := Lib.hid (HA.out.below hb)
      clear hb
      have HP1 := Lib.hid hn
      clear hn
      have HQ1 := Lib.hid hn'
      clear hn'
      go_wp2_with fail
      refine bodyPost_ret (v := .tuple #[.agg #[.bool (decide ((p).num < 0)), .slice ru (nlen (p).num.natAbs) cu, .slice ru2 (nlen (p).den) cu2], .int .i64 0]) (by simp [results, Tryd.results10, go_sem, k_R_0, k_R_1, k_R_2, hl_R]) rfl ⟨_, _, _, _, rfl, HP1.out.keep ?_, HQ1.out.keep ?_, ?_⟩
      all_goals exact KBA

end Go.Proofs.YtmecipfdelgfbaaDoor
