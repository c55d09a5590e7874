/- Own rows of rational numbers that append grows. Contract of law29.within; Bonferroni and Holm with any outcome. DriftLevels returns true: the walk. No condition but the numbers' size, and that the table of powers of ten lies in memory. -/
import Derived.Test.YtnillajhhimeiaaDoorJoI
import Derived.Test.YtnillajhhimeiaaDoorJoX
namespace Go.Proofs.YtnillajhhimeiaaDoor
open Go.RowKit

theorem cell_threeD (w : World) (x y z : Value) (t : TypeId) : ∀ j u, [x, y, z][j]? = some u → (w.alloc (.cells #[x, y, z] t)).cell? ((⟨w.heap.size, 0, none⟩ : Addr).add j) = some u := by
  intro j u hj
  match j, hj with
  | 0, hj => simp at hj; subst hj; simp [Addr.add]
  | 1, hj => simp at hj; subst hj; simp [Addr.add]
  | 2, hj => simp at hj; subst hj; simp [Addr.add]
theorem Er.keepD {N : Nat} {w w' : World} {q : Nat → Rat} {L i : Nat} {v0 v1 v2 : Value} (h : Er N w q L i v0 v1 v2) (hb : Kp N w w') : Er N w' q L i v0 v1 v2 := by
  obtain ⟨s, a, na, ca, d, nd, cd, e0, e1, e2, h⟩ := h
  exact ⟨s, a, na, ca, d, nd, cd, e0, e1, e2, h.keep hb⟩
theorem own_kpD {N B : Nat} {w w1 : World} {x : Value} {n : Nat} {xs : List Value} (hx : w.ownsRow B 30 3 x n xs) (hN : N ≤ B) (hg : w.grownBy w1 x.ownBlock) : Kp N w w1 := by
  refine ⟨hg.size, fun b hb ho => hg.block b hb fun e => ?_⟩
  have h1 := hx.lt b e.symm
  rcases hx.2 with ⟨rfl, _⟩ | ⟨g, cap, cur, rfl, hbg, hgg, _⟩
  · simp [Value.ownBlock] at e
  · simp [Value.ownBlock] at e
    subst e
    rcases ho with ho | ⟨c, z, ho⟩
    · omega
    · rw [hgg] at ho; simp at ho
/-- v is a row of its own of j rational numbers -/
def Oe (N B : Nat) (w : World) (v : Value) (j : Nat) (q : Nat → Rat) (L : Nat) : Prop := ∃ xs, w.ownsRow B 30 3 v j xs ∧ Cl j (Er N w q L) xs
theorem Oe.start (N B : Nat) (w : World) (q : Nat → Rat) (L : Nat) (hB : B ≤ w.heap.size) : Oe N B (w.alloc (.cells #[] 30)) (.slice (some ⟨w.heap.size, 0, none⟩) 0 0) 0 q L := ⟨[], World.ownsRow_made w #[] 0 hB (by decide) rfl, Cl.nil _⟩

set_option maxHeartbeats 2000000 in
theorem lwithin_any (a b : Option Addr) (n ca cb : Nat) (f g : Nat → Bool) (w : World) (h : Bs w a n ca f) (h' : Bs w b n cb g) (hfg : ∀ i, i < n → f i = true → g i = true) :
    Calls Tryd.prog 22 #[.slice a n ca, .slice b n cb] w fun e w' => e = .returned (.bool true) ∧ Below w.heap.size w w' := by
  have c1 := h.1
  have c2 := h.2.1
  have c3 := h'.1
  have c4 := h'.2.1
  unfold maxLen at c2 c4
  have HA := Lib.hid h
  have HB' := Lib.hid h'
  have HFG := Lib.hid hfg
  clear h h' hfg
  go_enter Tryd.func22, Tryd.ntmps22
  go_wp2_with fail
  go_loopw [5] (fun i wr => ∃ k : Nat, k ≤ n ∧ i = .int .i64 k ∧ Below w.heap.size w wr) (fun i _ => n - (intOf i).toNat)
  case atStart => exact ⟨0, Nat.zero_le _, rfl, Below.refl _ _⟩
  case round =>
    obtain ⟨k, hk, rfl, hbel⟩ := hrel
    have HB := Lib.hid hbel
    by_cases hkn : k < n
    · obtain ⟨b1, o1, rfl, hc1⟩ := (HA.out.below hbel).2.2 (by omega)
      obtain ⟨b2, o2, rfl, hc2⟩ := (HB'.out.below hbel).2.2 (by omega)
      have g1 := hc1 k hkn
      have g2 := hc2 k hkn
      obtain ⟨v, hv⟩ : ∃ v, f k = v := ⟨_, rfl⟩
      obtain ⟨u, hu⟩ : ∃ u, g k = u := ⟨_, rfl⟩
      have HVU : Hid (v = true → u = true) := Lib.hid (fun e => by rw [← hu]; exact HFG.out k hkn (hv.trans e))
      rw [hv] at g1
      rw [hu] at g2
      have hkz : (k : Int) < (n : Int) := by omega
      clear hc1 hc2 hbel hv hu
      cases v
      · go_wp2_with fail
        go_roundw
        case rel => exact ⟨k + 1, by omega, by go_num, HB.out⟩
        case measure => simp [intOf]; omega
      · obtain rfl : u = true := HVU.out rfl
        go_wp2_with fail
        go_roundw
        case rel => exact ⟨k + 1, by omega, by go_num, HB.out⟩
        case measure => simp [intOf]; omega
    · obtain rfl : k = n := by omega
      clear hbel
      go_wp2_with fail
      go_ret
      exact ⟨rfl, HB.out⟩

theorem bonf_or {N : Nat} (a : Option Addr) (n cap : Nat) (q : Nat → Rat) (s2 : Bool) (a2 d2 : Option Addr) (na2 ca2 nd2 cd2 L : Nat) (al : Rat) (w : World) (hN : N ≤ w.heap.size) (h : Rs N w a n cap q L) (h2 : Rt N w s2 a2 na2 ca2 d2 nd2 cd2 al L) (hL : L ≤ 2097152) (c : Int) (hc : chkC q n al = c) :
    Calls Tryd.prog 15 #[.slice a n cap, .agg #[.bool s2, .slice a2 na2 ca2, .slice d2 nd2 cd2]] w fun e w' => ∃ v, e = .returned (.tuple #[v, .int .i64 c]) ∧ Below w.heap.size w w' := by
  by_cases h0 : c = 0
  · subst h0
    refine (bonf_ok a n cap q s2 a2 d2 na2 ca2 nd2 cd2 L al w hN h h2 hL hc).mono ?_
    rintro e w' ⟨b, rfl, _, _, _, hb⟩
    exact ⟨_, rfl, hb⟩
  · refine (bonf_bad a n cap q s2 a2 d2 na2 ca2 nd2 cd2 L al w hN h h2 hL c hc h0).mono ?_
    rintro e w' ⟨rfl, hb⟩
    exact ⟨_, rfl, hb⟩
theorem holm_or {N : Nat} (a : Option Addr) (n cap : Nat) (q : Nat → Rat) (s2 : Bool) (a2 d2 : Option Addr) (na2 ca2 nd2 cd2 L : Nat) (al : Rat) (w : World) (hN : N ≤ w.heap.size) (h : Rs N w a n cap q L) (h2 : Rt N w s2 a2 na2 ca2 d2 nd2 cd2 al L) (hL : L ≤ 2097152) (c : Int) (hc : chkC q n al = c) :
    Calls Tryd.prog 16 #[.slice a n cap, .agg #[.bool s2, .slice a2 na2 ca2, .slice d2 nd2 cd2]] w fun e w' => ∃ v, e = .returned (.tuple #[v, .int .i64 c]) ∧ Below w.heap.size w w' := by
  by_cases h0 : c = 0
  · subst h0
    refine (holm_ok a n cap q s2 a2 d2 na2 ca2 nd2 cd2 L al w hN h h2 hL hc).mono ?_
    rintro e w' ⟨b, rfl, _, _, _, hb⟩
    exact ⟨_, rfl, hb⟩
  · refine (holm_bad a n cap q s2 a2 d2 na2 ca2 nd2 cd2 L al w hN h h2 hL c hc h0).mono ?_
    rintro e w' ⟨rfl, hb⟩
    exact ⟨_, rfl, hb⟩

end Go.Proofs.YtnillajhhimeiaaDoor

namespace Go.Proofs.YtnillajhhimeiaaDoor
open Go.RowKit

theorem cmp_gt2 (p q : Rat) (v : Bool) (h : decide (q < p) = v) : decide (0 < cmpQ p q) = v := by
  rw [← h]
  unfold cmpQ
  by_cases h1 : p < q
  · rw [if_pos h1, decide_eq_false (show ¬ q < p by grind)]; rfl
  · rw [if_neg h1]
    by_cases h2 : q < p
    · rw [if_pos h2, decide_eq_true h2]; rfl
    · rw [if_neg h2, decide_eq_false h2]; rfl

set_option maxHeartbeats 8000000 in
set_option maxRecDepth 100000 in
theorem dlev_kA {N : Nat} (a : Option Addr) (n cap : Nat) (q : Nat → Rat) (s2 s3 : Bool) (a2 d2 a3 d3 : Option Addr) (na2 ca2 nd2 cd2 na3 ca3 nd3 cd3 L : Nat) (al be : Rat) (w : World) (hN : N ≤ w.heap.size) (h : Rs N w a n cap q L) (h2 : Rt N w s2 a2 na2 ca2 d2 nd2 cd2 al L) (h3 : Rt N w s3 a3 na3 ca3 d3 nd3 cd3 be L) (hL : L ≤ 2097152) (htab : TabW w) (hsw : decide (be < al) = false) (c1 c2 : Int) (hc1 : chkC q n al = c1) (hc2 : chkC q n be = c2) (h0 : c1 ≠ 0) :
    Calls Tryd.prog 6 #[.slice a n cap, .agg #[.bool s2, .slice a2 na2 ca2, .slice d2 nd2 cd2], .agg #[.bool s3, .slice a3 na3 ca3, .slice d3 nd3 cd3]] w fun e w' => e = .returned (.bool true) ∧ Below w.heap.size w w' := by
  have HC1 := Lib.hid hc1
  have HC2 := Lib.hid hc2
  have z0 : (c1 == 0) = false := by simpa using h0
  clear hc1 hc2
  have HAw := Lib.hid h
  have HTw := Lib.hid htab
  have HX := Lib.hid h2
  have HY := Lib.hid h3
  have bc := h.1
  have bm := h.2.1
  unfold maxLen at bm
  clear h h2 h3 htab
  have hN0 := hN
  have HB := Lib.hid (Below.refl w.heap.size w)
  obtain ⟨κ, hκ⟩ : ∃ κ, cmpQ al be = κ := ⟨_, rfl⟩
  have dk : decide (0 < κ) = false := by rw [← hκ]; exact cmp_gt2 _ _ _ hsw
  have HK := Lib.hid hκ
  clear hκ hsw
  go_enter Tryd.func6, Tryd.ntmps6
  go_wp2_with fail
  refine calls_name fun W0 hW => ?_
  have hs_W0 : w.heap.size ≤ W0.heap.size := by rw [← hW]; (first | omega | (simp; done) | (simp; omega))
  have HK_W0 := Lib.hid (show Kp N w W0 by rw [← hW]; exact KpA)
  have k_A_0 : W0.cell? ⟨w.heap.size, 0, none⟩ = some (.bool s2) := by rw [← hW]; (first | (go_simp; done) | (simp; done) | (simp [go_sem]; done) | (simp [go_sem]; done))
  have k_A_1 : W0.cell? ⟨w.heap.size, 1, none⟩ = some (.slice a2 na2 ca2) := by rw [← hW]; (first | (go_simp; done) | (simp; done) | (simp [go_sem]; done) | (simp [go_sem]; done))
  have k_A_2 : W0.cell? ⟨w.heap.size, 2, none⟩ = some (.slice d2 nd2 cd2) := by rw [← hW]; (first | (go_simp; done) | (simp; done) | (simp [go_sem]; done) | (simp [go_sem]; done))
  have f_A : ∀ o, W0.frozen? ⟨w.heap.size, o, none⟩ = false := by intro o; rw [← hW]; (first | (go_simp; done) | (simp; done) | (simp [go_sem]; done) | (simp [go_sem]; done))
  have HX_A := Lib.hid (show Bn W0 (w.heap.size) by rw [← hW]; exact KpA)
  have k_B_0 : W0.cell? ⟨w.heap.size + 1, 0, none⟩ = some (.bool s3) := by rw [← hW]; (first | (go_simp; done) | (simp; done) | (simp [go_sem]; done) | (simp [go_sem]; done))
  have k_B_1 : W0.cell? ⟨w.heap.size + 1, 1, none⟩ = some (.slice a3 na3 ca3) := by rw [← hW]; (first | (go_simp; done) | (simp; done) | (simp [go_sem]; done) | (simp [go_sem]; done))
  have k_B_2 : W0.cell? ⟨w.heap.size + 1, 2, none⟩ = some (.slice d3 nd3 cd3) := by rw [← hW]; (first | (go_simp; done) | (simp; done) | (simp [go_sem]; done) | (simp [go_sem]; done))
  have f_B : ∀ o, W0.frozen? ⟨w.heap.size + 1, o, none⟩ = false := by intro o; rw [← hW]; (first | (go_simp; done) | (simp; done) | (simp [go_sem]; done) | (simp [go_sem]; done))
  have HX_B := Lib.hid (show Bn W0 (w.heap.size + 1) by rw [← hW]; exact KpA)
  replace HX := Lib.hid (HX.out.keep HK_W0.out)
  replace HY := Lib.hid (HY.out.keep HK_W0.out)
  replace HB := Lib.hid (show Below w.heap.size w W0 by rw [← hW]; exact BlA)
  replace hN : N ≤ W0.heap.size := by rw [← hW]; (first | omega | (simp; done) | (simp; omega))
  have hs0 : w.heap.size ≤ W0.heap.size := by rw [← hW]; (first | omega | (simp; done) | (simp; omega))
  have hl_A : w.heap.size < W0.heap.size := by rw [← hW]; (first | omega | (simp; done) | (simp; omega))
  have hl_B : w.heap.size + 1 < W0.heap.size := by rw [← hW]; (first | omega | (simp; done) | (simp; omega))
  clear hW HK_W0
  have hd_A_B : w.heap.size < w.heap.size + 1 := by omega
  refine (rcmp_any (N := N) _ _ _ _ _ _ _ _ _ _ _ _ _ _ L L al be _ hN HX.out HY.out (by omega) (by omega)).mono ?_
  rw [HK.out]
  rintro e wa ⟨rfl, hb⟩
  have hs_wa : W0.heap.size ≤ wa.heap.size := hb.size
  replace k_A_0 : wa.cell? ⟨w.heap.size, 0, none⟩ = some (.bool s2) := (hb.cell (p := ⟨w.heap.size, 0, none⟩) hl_A).trans k_A_0
  replace k_A_1 : wa.cell? ⟨w.heap.size, 1, none⟩ = some (.slice a2 na2 ca2) := (hb.cell (p := ⟨w.heap.size, 1, none⟩) hl_A).trans k_A_1
  replace k_A_2 : wa.cell? ⟨w.heap.size, 2, none⟩ = some (.slice d2 nd2 cd2) := (hb.cell (p := ⟨w.heap.size, 2, none⟩) hl_A).trans k_A_2
  replace f_A : ∀ o, wa.frozen? ⟨w.heap.size, o, none⟩ = false := fun o => (hb.frozen (p := ⟨w.heap.size, o, none⟩) hl_A).trans (f_A o)
  replace HX_A := Lib.hid (HX_A.out.below hb)
  replace k_B_0 : wa.cell? ⟨w.heap.size + 1, 0, none⟩ = some (.bool s3) := (hb.cell (p := ⟨w.heap.size + 1, 0, none⟩) hl_B).trans k_B_0
  replace k_B_1 : wa.cell? ⟨w.heap.size + 1, 1, none⟩ = some (.slice a3 na3 ca3) := (hb.cell (p := ⟨w.heap.size + 1, 1, none⟩) hl_B).trans k_B_1
  replace k_B_2 : wa.cell? ⟨w.heap.size + 1, 2, none⟩ = some (.slice d3 nd3 cd3) := (hb.cell (p := ⟨w.heap.size + 1, 2, none⟩) hl_B).trans k_B_2
  replace f_B : ∀ o, wa.frozen? ⟨w.heap.size + 1, o, none⟩ = false := fun o => (hb.frozen (p := ⟨w.heap.size + 1, o, none⟩) hl_B).trans (f_B o)
  replace HX_B := Lib.hid (HX_B.out.below hb)
  replace HX := Lib.hid (HX.out.below hb)
  replace HY := Lib.hid (HY.out.below hb)
  replace HB := Lib.hid (HB.out.trans (hb.mono hs0))
  replace hN : N ≤ wa.heap.size := Nat.le_trans hN hb.size
  replace hs0 : w.heap.size ≤ wa.heap.size := Nat.le_trans hs0 hb.size
  replace hl_A : w.heap.size < wa.heap.size := Nat.lt_of_lt_of_le hl_A hb.size
  replace hl_B : w.heap.size + 1 < wa.heap.size := Nat.lt_of_lt_of_le hl_B hb.size
  clear hb
  go_wp2_with fail
  refine calls_name fun W1 hW => ?_
  have HL_W1 := Lib.hid (show Below wa.heap.size wa W1 by rw [← hW]; exact BlA)
  have hs_W1 : wa.heap.size ≤ W1.heap.size := by rw [← hW]; (first | omega | (simp; done) | (simp; omega))
  have HK_W1 := Lib.hid (show Kp N wa W1 by rw [← hW]; exact KpA)
  replace k_A_0 : W1.cell? ⟨w.heap.size, 0, none⟩ = some (.bool s2) := (HL_W1.out.cell (p := ⟨w.heap.size, 0, none⟩) hl_A).trans k_A_0
  replace k_A_1 : W1.cell? ⟨w.heap.size, 1, none⟩ = some (.slice a2 na2 ca2) := (HL_W1.out.cell (p := ⟨w.heap.size, 1, none⟩) hl_A).trans k_A_1
  replace k_A_2 : W1.cell? ⟨w.heap.size, 2, none⟩ = some (.slice d2 nd2 cd2) := (HL_W1.out.cell (p := ⟨w.heap.size, 2, none⟩) hl_A).trans k_A_2
  replace f_A : ∀ o, W1.frozen? ⟨w.heap.size, o, none⟩ = false := fun o => (HL_W1.out.frozen (p := ⟨w.heap.size, o, none⟩) hl_A).trans (f_A o)
  replace HX_A := Lib.hid (show Bn W1 (w.heap.size) by rw [← hW]; exact KpA)
  replace k_B_0 : W1.cell? ⟨w.heap.size + 1, 0, none⟩ = some (.bool s3) := (HL_W1.out.cell (p := ⟨w.heap.size + 1, 0, none⟩) hl_B).trans k_B_0
  replace k_B_1 : W1.cell? ⟨w.heap.size + 1, 1, none⟩ = some (.slice a3 na3 ca3) := (HL_W1.out.cell (p := ⟨w.heap.size + 1, 1, none⟩) hl_B).trans k_B_1
  replace k_B_2 : W1.cell? ⟨w.heap.size + 1, 2, none⟩ = some (.slice d3 nd3 cd3) := (HL_W1.out.cell (p := ⟨w.heap.size + 1, 2, none⟩) hl_B).trans k_B_2
  replace f_B : ∀ o, W1.frozen? ⟨w.heap.size + 1, o, none⟩ = false := fun o => (HL_W1.out.frozen (p := ⟨w.heap.size + 1, o, none⟩) hl_B).trans (f_B o)
  replace HX_B := Lib.hid (show Bn W1 (w.heap.size + 1) by rw [← hW]; exact KpA)
  replace HX := Lib.hid (HX.out.keep HK_W1.out)
  replace HY := Lib.hid (HY.out.keep HK_W1.out)
  replace HB := Lib.hid (show Below w.heap.size w W1 by rw [← hW]; exact BlA)
  replace hN : N ≤ W1.heap.size := by rw [← hW]; (first | omega | (simp; done) | (simp; omega))
  replace hs0 : w.heap.size ≤ W1.heap.size := by rw [← hW]; (first | omega | (simp; done) | (simp; omega))
  replace hl_A : w.heap.size < W1.heap.size := by rw [← hW]; (first | omega | (simp; done) | (simp; omega))
  replace hl_B : w.heap.size + 1 < W1.heap.size := by rw [← hW]; (first | omega | (simp; done) | (simp; omega))
  clear HL_W1
  clear hW HK_W1
  have HA := Lib.hid (HAw.out.below HB.out)
  refine (bonf_or (N := N) _ n _ q _ _ _ _ _ _ _ L al _ hN HA.out HX.out hL c1 HC1.out).mono ?_
  rintro e w0 ⟨v0, rfl, hb⟩
  have hs_w0 : W1.heap.size ≤ w0.heap.size := hb.size
  replace k_A_0 : w0.cell? ⟨w.heap.size, 0, none⟩ = some (.bool s2) := (hb.cell (p := ⟨w.heap.size, 0, none⟩) hl_A).trans k_A_0
  replace k_A_1 : w0.cell? ⟨w.heap.size, 1, none⟩ = some (.slice a2 na2 ca2) := (hb.cell (p := ⟨w.heap.size, 1, none⟩) hl_A).trans k_A_1
  replace k_A_2 : w0.cell? ⟨w.heap.size, 2, none⟩ = some (.slice d2 nd2 cd2) := (hb.cell (p := ⟨w.heap.size, 2, none⟩) hl_A).trans k_A_2
  replace f_A : ∀ o, w0.frozen? ⟨w.heap.size, o, none⟩ = false := fun o => (hb.frozen (p := ⟨w.heap.size, o, none⟩) hl_A).trans (f_A o)
  replace HX_A := Lib.hid (HX_A.out.below hb)
  replace k_B_0 : w0.cell? ⟨w.heap.size + 1, 0, none⟩ = some (.bool s3) := (hb.cell (p := ⟨w.heap.size + 1, 0, none⟩) hl_B).trans k_B_0
  replace k_B_1 : w0.cell? ⟨w.heap.size + 1, 1, none⟩ = some (.slice a3 na3 ca3) := (hb.cell (p := ⟨w.heap.size + 1, 1, none⟩) hl_B).trans k_B_1
  replace k_B_2 : w0.cell? ⟨w.heap.size + 1, 2, none⟩ = some (.slice d3 nd3 cd3) := (hb.cell (p := ⟨w.heap.size + 1, 2, none⟩) hl_B).trans k_B_2
  replace f_B : ∀ o, w0.frozen? ⟨w.heap.size + 1, o, none⟩ = false := fun o => (hb.frozen (p := ⟨w.heap.size + 1, o, none⟩) hl_B).trans (f_B o)
  replace HX_B := Lib.hid (HX_B.out.below hb)
  replace HX := Lib.hid (HX.out.below hb)
  replace HY := Lib.hid (HY.out.below hb)
  replace HB := Lib.hid (HB.out.trans (hb.mono hs0))
  replace hN : N ≤ w0.heap.size := Nat.le_trans hN hb.size
  replace hs0 : w.heap.size ≤ w0.heap.size := Nat.le_trans hs0 hb.size
  replace hl_A : w.heap.size < w0.heap.size := Nat.lt_of_lt_of_le hl_A hb.size
  replace hl_B : w.heap.size + 1 < w0.heap.size := Nat.lt_of_lt_of_le hl_B hb.size
  replace HA := Lib.hid (HA.out.below hb)
  clear hb
  go_wp2_with fail
  refine calls_name fun V1 hW => ?_
  have HL_V1 := Lib.hid (show Below w0.heap.size w0 V1 by rw [← hW]; exact BlA)
  have hs_V1 : w0.heap.size ≤ V1.heap.size := by rw [← hW]; (first | omega | (simp; done) | (simp; omega))
  have HK_V1 := Lib.hid (show Kp N w0 V1 by rw [← hW]; exact KpA)
  replace k_A_0 : V1.cell? ⟨w.heap.size, 0, none⟩ = some (.bool s2) := (HL_V1.out.cell (p := ⟨w.heap.size, 0, none⟩) hl_A).trans k_A_0
  replace k_A_1 : V1.cell? ⟨w.heap.size, 1, none⟩ = some (.slice a2 na2 ca2) := (HL_V1.out.cell (p := ⟨w.heap.size, 1, none⟩) hl_A).trans k_A_1
  replace k_A_2 : V1.cell? ⟨w.heap.size, 2, none⟩ = some (.slice d2 nd2 cd2) := (HL_V1.out.cell (p := ⟨w.heap.size, 2, none⟩) hl_A).trans k_A_2
  replace f_A : ∀ o, V1.frozen? ⟨w.heap.size, o, none⟩ = false := fun o => (HL_V1.out.frozen (p := ⟨w.heap.size, o, none⟩) hl_A).trans (f_A o)
  replace HX_A := Lib.hid (show Bn V1 (w.heap.size) by rw [← hW]; exact KpA)
  replace k_B_0 : V1.cell? ⟨w.heap.size + 1, 0, none⟩ = some (.bool s3) := (HL_V1.out.cell (p := ⟨w.heap.size + 1, 0, none⟩) hl_B).trans k_B_0
  replace k_B_1 : V1.cell? ⟨w.heap.size + 1, 1, none⟩ = some (.slice a3 na3 ca3) := (HL_V1.out.cell (p := ⟨w.heap.size + 1, 1, none⟩) hl_B).trans k_B_1
  replace k_B_2 : V1.cell? ⟨w.heap.size + 1, 2, none⟩ = some (.slice d3 nd3 cd3) := (HL_V1.out.cell (p := ⟨w.heap.size + 1, 2, none⟩) hl_B).trans k_B_2
  replace f_B : ∀ o, V1.frozen? ⟨w.heap.size + 1, o, none⟩ = false := fun o => (HL_V1.out.frozen (p := ⟨w.heap.size + 1, o, none⟩) hl_B).trans (f_B o)
  replace HX_B := Lib.hid (show Bn V1 (w.heap.size + 1) by rw [← hW]; exact KpA)
  replace HX := Lib.hid (HX.out.keep HK_V1.out)
  replace HY := Lib.hid (HY.out.keep HK_V1.out)
  replace HB := Lib.hid (show Below w.heap.size w V1 by rw [← hW]; exact BlA)
  replace hN : N ≤ V1.heap.size := by rw [← hW]; (first | omega | (simp; done) | (simp; omega))
  replace hs0 : w.heap.size ≤ V1.heap.size := by rw [← hW]; (first | omega | (simp; done) | (simp; omega))
  replace hl_A : w.heap.size < V1.heap.size := by rw [← hW]; (first | omega | (simp; done) | (simp; omega))
  replace hl_B : w.heap.size + 1 < V1.heap.size := by rw [← hW]; (first | omega | (simp; done) | (simp; omega))
  replace HA := Lib.hid (HA.out.below HL_V1.out)
  clear HL_V1
  clear hW HK_V1
  refine (bonf_or (N := N) _ n _ q _ _ _ _ _ _ _ L be _ hN HA.out HY.out hL c2 HC2.out).mono ?_
  rintro e w1 ⟨v1, rfl, hb⟩
  have hs_w1 : V1.heap.size ≤ w1.heap.size := hb.size
  replace k_A_0 : w1.cell? ⟨w.heap.size, 0, none⟩ = some (.bool s2) := (hb.cell (p := ⟨w.heap.size, 0, none⟩) hl_A).trans k_A_0
  replace k_A_1 : w1.cell? ⟨w.heap.size, 1, none⟩ = some (.slice a2 na2 ca2) := (hb.cell (p := ⟨w.heap.size, 1, none⟩) hl_A).trans k_A_1
  replace k_A_2 : w1.cell? ⟨w.heap.size, 2, none⟩ = some (.slice d2 nd2 cd2) := (hb.cell (p := ⟨w.heap.size, 2, none⟩) hl_A).trans k_A_2
  replace f_A : ∀ o, w1.frozen? ⟨w.heap.size, o, none⟩ = false := fun o => (hb.frozen (p := ⟨w.heap.size, o, none⟩) hl_A).trans (f_A o)
  replace HX_A := Lib.hid (HX_A.out.below hb)
  replace k_B_0 : w1.cell? ⟨w.heap.size + 1, 0, none⟩ = some (.bool s3) := (hb.cell (p := ⟨w.heap.size + 1, 0, none⟩) hl_B).trans k_B_0
  replace k_B_1 : w1.cell? ⟨w.heap.size + 1, 1, none⟩ = some (.slice a3 na3 ca3) := (hb.cell (p := ⟨w.heap.size + 1, 1, none⟩) hl_B).trans k_B_1
  replace k_B_2 : w1.cell? ⟨w.heap.size + 1, 2, none⟩ = some (.slice d3 nd3 cd3) := (hb.cell (p := ⟨w.heap.size + 1, 2, none⟩) hl_B).trans k_B_2
  replace f_B : ∀ o, w1.frozen? ⟨w.heap.size + 1, o, none⟩ = false := fun o => (hb.frozen (p := ⟨w.heap.size + 1, o, none⟩) hl_B).trans (f_B o)
  replace HX_B := Lib.hid (HX_B.out.below hb)
  replace HX := Lib.hid (HX.out.below hb)
  replace HY := Lib.hid (HY.out.below hb)
  replace HB := Lib.hid (HB.out.trans (hb.mono hs0))
  replace hN : N ≤ w1.heap.size := Nat.le_trans hN hb.size
  replace hs0 : w.heap.size ≤ w1.heap.size := Nat.le_trans hs0 hb.size
  replace hl_A : w.heap.size < w1.heap.size := Nat.lt_of_lt_of_le hl_A hb.size
  replace hl_B : w.heap.size + 1 < w1.heap.size := Nat.lt_of_lt_of_le hl_B hb.size
  replace HA := Lib.hid (HA.out.below hb)
  clear hb
  go_wp2_with fail
  refine calls_name fun V2 hW => ?_
  have HL_V2 := Lib.hid (show Below w1.heap.size w1 V2 by rw [← hW]; exact BlA)
  have hs_V2 : w1.heap.size ≤ V2.heap.size := by rw [← hW]; (first | omega | (simp; done) | (simp; omega))
  have HK_V2 := Lib.hid (show Kp N w1 V2 by rw [← hW]; exact KpA)
  replace k_A_0 : V2.cell? ⟨w.heap.size, 0, none⟩ = some (.bool s2) := (HL_V2.out.cell (p := ⟨w.heap.size, 0, none⟩) hl_A).trans k_A_0
  replace k_A_1 : V2.cell? ⟨w.heap.size, 1, none⟩ = some (.slice a2 na2 ca2) := (HL_V2.out.cell (p := ⟨w.heap.size, 1, none⟩) hl_A).trans k_A_1
  replace k_A_2 : V2.cell? ⟨w.heap.size, 2, none⟩ = some (.slice d2 nd2 cd2) := (HL_V2.out.cell (p := ⟨w.heap.size, 2, none⟩) hl_A).trans k_A_2
  replace f_A : ∀ o, V2.frozen? ⟨w.heap.size, o, none⟩ = false := fun o => (HL_V2.out.frozen (p := ⟨w.heap.size, o, none⟩) hl_A).trans (f_A o)
  replace HX_A := Lib.hid (show Bn V2 (w.heap.size) by rw [← hW]; exact KpA)
  replace k_B_0 : V2.cell? ⟨w.heap.size + 1, 0, none⟩ = some (.bool s3) := (HL_V2.out.cell (p := ⟨w.heap.size + 1, 0, none⟩) hl_B).trans k_B_0
  replace k_B_1 : V2.cell? ⟨w.heap.size + 1, 1, none⟩ = some (.slice a3 na3 ca3) := (HL_V2.out.cell (p := ⟨w.heap.size + 1, 1, none⟩) hl_B).trans k_B_1
  replace k_B_2 : V2.cell? ⟨w.heap.size + 1, 2, none⟩ = some (.slice d3 nd3 cd3) := (HL_V2.out.cell (p := ⟨w.heap.size + 1, 2, none⟩) hl_B).trans k_B_2
  replace f_B : ∀ o, V2.frozen? ⟨w.heap.size + 1, o, none⟩ = false := fun o => (HL_V2.out.frozen (p := ⟨w.heap.size + 1, o, none⟩) hl_B).trans (f_B o)
  replace HX_B := Lib.hid (show Bn V2 (w.heap.size + 1) by rw [← hW]; exact KpA)
  replace HX := Lib.hid (HX.out.keep HK_V2.out)
  replace HY := Lib.hid (HY.out.keep HK_V2.out)
  replace HB := Lib.hid (show Below w.heap.size w V2 by rw [← hW]; exact BlA)
  replace hN : N ≤ V2.heap.size := by rw [← hW]; (first | omega | (simp; done) | (simp; omega))
  replace hs0 : w.heap.size ≤ V2.heap.size := by rw [← hW]; (first | omega | (simp; done) | (simp; omega))
  replace hl_A : w.heap.size < V2.heap.size := by rw [← hW]; (first | omega | (simp; done) | (simp; omega))
  replace hl_B : w.heap.size + 1 < V2.heap.size := by rw [← hW]; (first | omega | (simp; done) | (simp; omega))
  replace HA := Lib.hid (HA.out.below HL_V2.out)
  clear HL_V2
  clear hW HK_V2
  refine (holm_or (N := N) _ n _ q _ _ _ _ _ _ _ L al _ hN HA.out HX.out hL c1 HC1.out).mono ?_
  rintro e w2 ⟨v2, rfl, hb⟩
  have hs_w2 : V2.heap.size ≤ w2.heap.size := hb.size
  replace k_A_0 : w2.cell? ⟨w.heap.size, 0, none⟩ = some (.bool s2) := (hb.cell (p := ⟨w.heap.size, 0, none⟩) hl_A).trans k_A_0
  replace k_A_1 : w2.cell? ⟨w.heap.size, 1, none⟩ = some (.slice a2 na2 ca2) := (hb.cell (p := ⟨w.heap.size, 1, none⟩) hl_A).trans k_A_1
  replace k_A_2 : w2.cell? ⟨w.heap.size, 2, none⟩ = some (.slice d2 nd2 cd2) := (hb.cell (p := ⟨w.heap.size, 2, none⟩) hl_A).trans k_A_2
  replace f_A : ∀ o, w2.frozen? ⟨w.heap.size, o, none⟩ = false := fun o => (hb.frozen (p := ⟨w.heap.size, o, none⟩) hl_A).trans (f_A o)
  replace HX_A := Lib.hid (HX_A.out.below hb)
  replace k_B_0 : w2.cell? ⟨w.heap.size + 1, 0, none⟩ = some (.bool s3) := (hb.cell (p := ⟨w.heap.size + 1, 0, none⟩) hl_B).trans k_B_0
  replace k_B_1 : w2.cell? ⟨w.heap.size + 1, 1, none⟩ = some (.slice a3 na3 ca3) := (hb.cell (p := ⟨w.heap.size + 1, 1, none⟩) hl_B).trans k_B_1
  replace k_B_2 : w2.cell? ⟨w.heap.size + 1, 2, none⟩ = some (.slice d3 nd3 cd3) := (hb.cell (p := ⟨w.heap.size + 1, 2, none⟩) hl_B).trans k_B_2
  replace f_B : ∀ o, w2.frozen? ⟨w.heap.size + 1, o, none⟩ = false := fun o => (hb.frozen (p := ⟨w.heap.size + 1, o, none⟩) hl_B).trans (f_B o)
  replace HX_B := Lib.hid (HX_B.out.below hb)
  replace HX := Lib.hid (HX.out.below hb)
  replace HY := Lib.hid (HY.out.below hb)
  replace HB := Lib.hid (HB.out.trans (hb.mono hs0))
  replace hN : N ≤ w2.heap.size := Nat.le_trans hN hb.size
  replace hs0 : w.heap.size ≤ w2.heap.size := Nat.le_trans hs0 hb.size
  replace hl_A : w.heap.size < w2.heap.size := Nat.lt_of_lt_of_le hl_A hb.size
  replace hl_B : w.heap.size + 1 < w2.heap.size := Nat.lt_of_lt_of_le hl_B hb.size
  replace HA := Lib.hid (HA.out.below hb)
  clear hb
  go_wp2_with fail
  refine calls_name fun V3 hW => ?_
  have HL_V3 := Lib.hid (show Below w2.heap.size w2 V3 by rw [← hW]; exact BlA)
  have hs_V3 : w2.heap.size ≤ V3.heap.size := by rw [← hW]; (first | omega | (simp; done) | (simp; omega))
  have HK_V3 := Lib.hid (show Kp N w2 V3 by rw [← hW]; exact KpA)
  replace k_A_0 : V3.cell? ⟨w.heap.size, 0, none⟩ = some (.bool s2) := (HL_V3.out.cell (p := ⟨w.heap.size, 0, none⟩) hl_A).trans k_A_0
  replace k_A_1 : V3.cell? ⟨w.heap.size, 1, none⟩ = some (.slice a2 na2 ca2) := (HL_V3.out.cell (p := ⟨w.heap.size, 1, none⟩) hl_A).trans k_A_1
  replace k_A_2 : V3.cell? ⟨w.heap.size, 2, none⟩ = some (.slice d2 nd2 cd2) := (HL_V3.out.cell (p := ⟨w.heap.size, 2, none⟩) hl_A).trans k_A_2
  replace f_A : ∀ o, V3.frozen? ⟨w.heap.size, o, none⟩ = false := fun o => (HL_V3.out.frozen (p := ⟨w.heap.size, o, none⟩) hl_A).trans (f_A o)
  replace HX_A := Lib.hid (show Bn V3 (w.heap.size) by rw [← hW]; exact KpA)
  replace k_B_0 : V3.cell? ⟨w.heap.size + 1, 0, none⟩ = some (.bool s3) := (HL_V3.out.cell (p := ⟨w.heap.size + 1, 0, none⟩) hl_B).trans k_B_0
  replace k_B_1 : V3.cell? ⟨w.heap.size + 1, 1, none⟩ = some (.slice a3 na3 ca3) := (HL_V3.out.cell (p := ⟨w.heap.size + 1, 1, none⟩) hl_B).trans k_B_1
  replace k_B_2 : V3.cell? ⟨w.heap.size + 1, 2, none⟩ = some (.slice d3 nd3 cd3) := (HL_V3.out.cell (p := ⟨w.heap.size + 1, 2, none⟩) hl_B).trans k_B_2
  replace f_B : ∀ o, V3.frozen? ⟨w.heap.size + 1, o, none⟩ = false := fun o => (HL_V3.out.frozen (p := ⟨w.heap.size + 1, o, none⟩) hl_B).trans (f_B o)
  replace HX_B := Lib.hid (show Bn V3 (w.heap.size + 1) by rw [← hW]; exact KpA)
  replace HX := Lib.hid (HX.out.keep HK_V3.out)
  replace HY := Lib.hid (HY.out.keep HK_V3.out)
  replace HB := Lib.hid (show Below w.heap.size w V3 by rw [← hW]; exact BlA)
  replace hN : N ≤ V3.heap.size := by rw [← hW]; (first | omega | (simp; done) | (simp; omega))
  replace hs0 : w.heap.size ≤ V3.heap.size := by rw [← hW]; (first | omega | (simp; done) | (simp; omega))
  replace hl_A : w.heap.size < V3.heap.size := by rw [← hW]; (first | omega | (simp; done) | (simp; omega))
  replace hl_B : w.heap.size + 1 < V3.heap.size := by rw [← hW]; (first | omega | (simp; done) | (simp; omega))
  replace HA := Lib.hid (HA.out.below HL_V3.out)
  clear HL_V3
  clear hW HK_V3
  refine (holm_or (N := N) _ n _ q _ _ _ _ _ _ _ L be _ hN HA.out HY.out hL c2 HC2.out).mono ?_
  rintro e w3 ⟨v3, rfl, hb⟩
  have hs_w3 : V3.heap.size ≤ w3.heap.size := hb.size
  replace k_A_0 : w3.cell? ⟨w.heap.size, 0, none⟩ = some (.bool s2) := (hb.cell (p := ⟨w.heap.size, 0, none⟩) hl_A).trans k_A_0
  replace k_A_1 : w3.cell? ⟨w.heap.size, 1, none⟩ = some (.slice a2 na2 ca2) := (hb.cell (p := ⟨w.heap.size, 1, none⟩) hl_A).trans k_A_1
  replace k_A_2 : w3.cell? ⟨w.heap.size, 2, none⟩ = some (.slice d2 nd2 cd2) := (hb.cell (p := ⟨w.heap.size, 2, none⟩) hl_A).trans k_A_2
  replace f_A : ∀ o, w3.frozen? ⟨w.heap.size, o, none⟩ = false := fun o => (hb.frozen (p := ⟨w.heap.size, o, none⟩) hl_A).trans (f_A o)
  replace HX_A := Lib.hid (HX_A.out.below hb)
  replace k_B_0 : w3.cell? ⟨w.heap.size + 1, 0, none⟩ = some (.bool s3) := (hb.cell (p := ⟨w.heap.size + 1, 0, none⟩) hl_B).trans k_B_0
  replace k_B_1 : w3.cell? ⟨w.heap.size + 1, 1, none⟩ = some (.slice a3 na3 ca3) := (hb.cell (p := ⟨w.heap.size + 1, 1, none⟩) hl_B).trans k_B_1
  replace k_B_2 : w3.cell? ⟨w.heap.size + 1, 2, none⟩ = some (.slice d3 nd3 cd3) := (hb.cell (p := ⟨w.heap.size + 1, 2, none⟩) hl_B).trans k_B_2
  replace f_B : ∀ o, w3.frozen? ⟨w.heap.size + 1, o, none⟩ = false := fun o => (hb.frozen (p := ⟨w.heap.size + 1, o, none⟩) hl_B).trans (f_B o)
  replace HX_B := Lib.hid (HX_B.out.below hb)
  replace HX := Lib.hid (HX.out.below hb)
  replace HY := Lib.hid (HY.out.below hb)
  replace HB := Lib.hid (HB.out.trans (hb.mono hs0))
  replace hN : N ≤ w3.heap.size := Nat.le_trans hN hb.size
  replace hs0 : w.heap.size ≤ w3.heap.size := Nat.le_trans hs0 hb.size
  replace hl_A : w.heap.size < w3.heap.size := Nat.lt_of_lt_of_le hl_A hb.size
  replace hl_B : w.heap.size + 1 < w3.heap.size := Nat.lt_of_lt_of_le hl_B hb.size
  replace HA := Lib.hid (HA.out.below hb)
  clear hb
  go_wp2_with fail
  refine calls_name fun Z9 hW => ?_
  have HL_Z9 := Lib.hid (show Below w3.heap.size w3 Z9 by rw [← hW]; exact BlA)
  have hs_Z9 : w3.heap.size ≤ Z9.heap.size := by rw [← hW]; (first | omega | (simp; done) | (simp; omega))
  have HK_Z9 := Lib.hid (show Kp N w3 Z9 by rw [← hW]; exact KpA)
  replace k_A_0 : Z9.cell? ⟨w.heap.size, 0, none⟩ = some (.bool s2) := (HL_Z9.out.cell (p := ⟨w.heap.size, 0, none⟩) hl_A).trans k_A_0
  replace k_A_1 : Z9.cell? ⟨w.heap.size, 1, none⟩ = some (.slice a2 na2 ca2) := (HL_Z9.out.cell (p := ⟨w.heap.size, 1, none⟩) hl_A).trans k_A_1
  replace k_A_2 : Z9.cell? ⟨w.heap.size, 2, none⟩ = some (.slice d2 nd2 cd2) := (HL_Z9.out.cell (p := ⟨w.heap.size, 2, none⟩) hl_A).trans k_A_2
  replace f_A : ∀ o, Z9.frozen? ⟨w.heap.size, o, none⟩ = false := fun o => (HL_Z9.out.frozen (p := ⟨w.heap.size, o, none⟩) hl_A).trans (f_A o)
  replace HX_A := Lib.hid (show Bn Z9 (w.heap.size) by rw [← hW]; exact KpA)
  replace k_B_0 : Z9.cell? ⟨w.heap.size + 1, 0, none⟩ = some (.bool s3) := (HL_Z9.out.cell (p := ⟨w.heap.size + 1, 0, none⟩) hl_B).trans k_B_0
  replace k_B_1 : Z9.cell? ⟨w.heap.size + 1, 1, none⟩ = some (.slice a3 na3 ca3) := (HL_Z9.out.cell (p := ⟨w.heap.size + 1, 1, none⟩) hl_B).trans k_B_1
  replace k_B_2 : Z9.cell? ⟨w.heap.size + 1, 2, none⟩ = some (.slice d3 nd3 cd3) := (HL_Z9.out.cell (p := ⟨w.heap.size + 1, 2, none⟩) hl_B).trans k_B_2
  replace f_B : ∀ o, Z9.frozen? ⟨w.heap.size + 1, o, none⟩ = false := fun o => (HL_Z9.out.frozen (p := ⟨w.heap.size + 1, o, none⟩) hl_B).trans (f_B o)
  replace HX_B := Lib.hid (show Bn Z9 (w.heap.size + 1) by rw [← hW]; exact KpA)
  replace HX := Lib.hid (HX.out.keep HK_Z9.out)
  replace HY := Lib.hid (HY.out.keep HK_Z9.out)
  replace HB := Lib.hid (show Below w.heap.size w Z9 by rw [← hW]; exact BlA)
  replace hN : N ≤ Z9.heap.size := by rw [← hW]; (first | omega | (simp; done) | (simp; omega))
  replace hs0 : w.heap.size ≤ Z9.heap.size := by rw [← hW]; (first | omega | (simp; done) | (simp; omega))
  replace hl_A : w.heap.size < Z9.heap.size := by rw [← hW]; (first | omega | (simp; done) | (simp; omega))
  replace hl_B : w.heap.size + 1 < Z9.heap.size := by rw [← hW]; (first | omega | (simp; done) | (simp; omega))
  replace HA := Lib.hid (HA.out.below HL_Z9.out)
  clear HL_Z9
  clear hW HK_Z9
  refine (dawake_any (N := N) _ hN (HTw.out.below HB.out)).mono ?_
  rintro e wh ⟨rfl, hb⟩
  have hs_wh : Z9.heap.size ≤ wh.heap.size := hb.size
  replace k_A_0 : wh.cell? ⟨w.heap.size, 0, none⟩ = some (.bool s2) := (hb.cell (p := ⟨w.heap.size, 0, none⟩) hl_A).trans k_A_0
  replace k_A_1 : wh.cell? ⟨w.heap.size, 1, none⟩ = some (.slice a2 na2 ca2) := (hb.cell (p := ⟨w.heap.size, 1, none⟩) hl_A).trans k_A_1
  replace k_A_2 : wh.cell? ⟨w.heap.size, 2, none⟩ = some (.slice d2 nd2 cd2) := (hb.cell (p := ⟨w.heap.size, 2, none⟩) hl_A).trans k_A_2
  replace f_A : ∀ o, wh.frozen? ⟨w.heap.size, o, none⟩ = false := fun o => (hb.frozen (p := ⟨w.heap.size, o, none⟩) hl_A).trans (f_A o)
  replace HX_A := Lib.hid (HX_A.out.below hb)
  replace k_B_0 : wh.cell? ⟨w.heap.size + 1, 0, none⟩ = some (.bool s3) := (hb.cell (p := ⟨w.heap.size + 1, 0, none⟩) hl_B).trans k_B_0
  replace k_B_1 : wh.cell? ⟨w.heap.size + 1, 1, none⟩ = some (.slice a3 na3 ca3) := (hb.cell (p := ⟨w.heap.size + 1, 1, none⟩) hl_B).trans k_B_1
  replace k_B_2 : wh.cell? ⟨w.heap.size + 1, 2, none⟩ = some (.slice d3 nd3 cd3) := (hb.cell (p := ⟨w.heap.size + 1, 2, none⟩) hl_B).trans k_B_2
  replace f_B : ∀ o, wh.frozen? ⟨w.heap.size + 1, o, none⟩ = false := fun o => (hb.frozen (p := ⟨w.heap.size + 1, o, none⟩) hl_B).trans (f_B o)
  replace HX_B := Lib.hid (HX_B.out.below hb)
  replace HX := Lib.hid (HX.out.below hb)
  replace HY := Lib.hid (HY.out.below hb)
  replace HB := Lib.hid (HB.out.trans (hb.mono hs0))
  replace hN : N ≤ wh.heap.size := Nat.le_trans hN hb.size
  replace hs0 : w.heap.size ≤ wh.heap.size := Nat.le_trans hs0 hb.size
  replace hl_A : w.heap.size < wh.heap.size := Nat.lt_of_lt_of_le hl_A hb.size
  replace hl_B : w.heap.size + 1 < wh.heap.size := Nat.lt_of_lt_of_le hl_B hb.size
  replace HA := Lib.hid (HA.out.below hb)
  clear hb
  go_wp2_with fail
  go_ret
  exact ⟨rfl, HB.out⟩

set_option maxHeartbeats 8000000 in
set_option maxRecDepth 100000 in
theorem dlev_kB {N : Nat} (a : Option Addr) (n cap : Nat) (q : Nat → Rat) (s2 s3 : Bool) (a2 d2 a3 d3 : Option Addr) (na2 ca2 nd2 cd2 na3 ca3 nd3 cd3 L : Nat) (al be : Rat) (w : World) (hN : N ≤ w.heap.size) (h : Rs N w a n cap q L) (h2 : Rt N w s2 a2 na2 ca2 d2 nd2 cd2 al L) (h3 : Rt N w s3 a3 na3 ca3 d3 nd3 cd3 be L) (hL : L ≤ 2097152) (htab : TabW w) (hsw : decide (be < al) = false) (c2 : Int) (hc1 : chkC q n al = 0) (hc2 : chkC q n be = c2) (h0 : c2 ≠ 0) :
    Calls Tryd.prog 6 #[.slice a n cap, .agg #[.bool s2, .slice a2 na2 ca2, .slice d2 nd2 cd2], .agg #[.bool s3, .slice a3 na3 ca3, .slice d3 nd3 cd3]] w fun e w' => e = .returned (.bool true) ∧ Below w.heap.size w w' := by
  have HC1 := Lib.hid hc1
  have HC2 := Lib.hid hc2
  have z0 : (c2 == 0) = false := by simpa using h0
  clear hc1 hc2
  have HAw := Lib.hid h
  have HTw := Lib.hid htab
  have HX := Lib.hid h2
  have HY := Lib.hid h3
  have bc := h.1
  have bm := h.2.1
  unfold maxLen at bm
  clear h h2 h3 htab
  have hN0 := hN
  have HB := Lib.hid (Below.refl w.heap.size w)
  obtain ⟨κ, hκ⟩ : ∃ κ, cmpQ al be = κ := ⟨_, rfl⟩
  have dk : decide (0 < κ) = false := by rw [← hκ]; exact cmp_gt2 _ _ _ hsw
  have HK := Lib.hid hκ
  clear hκ hsw
  go_enter Tryd.func6, Tryd.ntmps6
  go_wp2_with fail
  refine calls_name fun W0 hW => ?_
  have hs_W0 : w.heap.size ≤ W0.heap.size := by rw [← hW]; (first | omega | (simp; done) | (simp; omega))
  have HK_W0 := Lib.hid (show Kp N w W0 by rw [← hW]; exact KpA)
  have k_A_0 : W0.cell? ⟨w.heap.size, 0, none⟩ = some (.bool s2) := by rw [← hW]; (first | (go_simp; done) | (simp; done) | (simp [go_sem]; done) | (simp [go_sem]; done))
  have k_A_1 : W0.cell? ⟨w.heap.size, 1, none⟩ = some (.slice a2 na2 ca2) := by rw [← hW]; (first | (go_simp; done) | (simp; done) | (simp [go_sem]; done) | (simp [go_sem]; done))
  have k_A_2 : W0.cell? ⟨w.heap.size, 2, none⟩ = some (.slice d2 nd2 cd2) := by rw [← hW]; (first | (go_simp; done) | (simp; done) | (simp [go_sem]; done) | (simp [go_sem]; done))
  have f_A : ∀ o, W0.frozen? ⟨w.heap.size, o, none⟩ = false := by intro o; rw [← hW]; (first | (go_simp; done) | (simp; done) | (simp [go_sem]; done) | (simp [go_sem]; done))
  have HX_A := Lib.hid (show Bn W0 (w.heap.size) by rw [← hW]; exact KpA)
  have k_B_0 : W0.cell? ⟨w.heap.size + 1, 0, none⟩ = some (.bool s3) := by rw [← hW]; (first | (go_simp; done) | (simp; done) | (simp [go_sem]; done) | (simp [go_sem]; done))
  have k_B_1 : W0.cell? ⟨w.heap.size + 1, 1, none⟩ = some (.slice a3 na3 ca3) := by rw [← hW]; (first | (go_simp; done) | (simp; done) | (simp [go_sem]; done) | (simp [go_sem]; done))
  have k_B_2 : W0.cell? ⟨w.heap.size + 1, 2, none⟩ = some (.slice d3 nd3 cd3) := by rw [← hW]; (first | (go_simp; done) | (simp; done) | (simp [go_sem]; done) | (simp [go_sem]; done))
  have f_B : ∀ o, W0.frozen? ⟨w.heap.size + 1, o, none⟩ = false := by intro o; rw [← hW]; (first | (go_simp; done) | (simp; done) | (simp [go_sem]; done) | (simp [go_sem]; done))
  have HX_B := Lib.hid (show Bn W0 (w.heap.size + 1) by rw [← hW]; exact KpA)
  replace HX := Lib.hid (HX.out.keep HK_W0.out)
  replace HY := Lib.hid (HY.out.keep HK_W0.out)
  replace HB := Lib.hid (show Below w.heap.size w W0 by rw [← hW]; exact BlA)
  replace hN : N ≤ W0.heap.size := by rw [← hW]; (first | omega | (simp; done) | (simp; omega))
  have hs0 : w.heap.size ≤ W0.heap.size := by rw [← hW]; (first | omega | (simp; done) | (simp; omega))
  have hl_A : w.heap.size < W0.heap.size := by rw [← hW]; (first | omega | (simp; done) | (simp; omega))
  have hl_B : w.heap.size + 1 < W0.heap.size := by rw [← hW]; (first | omega | (simp; done) | (simp; omega))
  clear hW HK_W0
  have hd_A_B : w.heap.size < w.heap.size + 1 := by omega
  refine (rcmp_any (N := N) _ _ _ _ _ _ _ _ _ _ _ _ _ _ L L al be _ hN HX.out HY.out (by omega) (by omega)).mono ?_
  rw [HK.out]
  rintro e wa ⟨rfl, hb⟩
  have hs_wa : W0.heap.size ≤ wa.heap.size := hb.size
  replace k_A_0 : wa.cell? ⟨w.heap.size, 0, none⟩ = some (.bool s2) := (hb.cell (p := ⟨w.heap.size, 0, none⟩) hl_A).trans k_A_0
  replace k_A_1 : wa.cell? ⟨w.heap.size, 1, none⟩ = some (.slice a2 na2 ca2) := (hb.cell (p := ⟨w.heap.size, 1, none⟩) hl_A).trans k_A_1
  replace k_A_2 : wa.cell? ⟨w.heap.size, 2, none⟩ = some (.slice d2 nd2 cd2) := (hb.cell (p := ⟨w.heap.size, 2, none⟩) hl_A).trans k_A_2
  replace f_A : ∀ o, wa.frozen? ⟨w.heap.size, o, none⟩ = false := fun o => (hb.frozen (p := ⟨w.heap.size, o, none⟩) hl_A).trans (f_A o)
  replace HX_A := Lib.hid (HX_A.out.below hb)
  replace k_B_0 : wa.cell? ⟨w.heap.size + 1, 0, none⟩ = some (.bool s3) := (hb.cell (p := ⟨w.heap.size + 1, 0, none⟩) hl_B).trans k_B_0
  replace k_B_1 : wa.cell? ⟨w.heap.size + 1, 1, none⟩ = some (.slice a3 na3 ca3) := (hb.cell (p := ⟨w.heap.size + 1, 1, none⟩) hl_B).trans k_B_1
  replace k_B_2 : wa.cell? ⟨w.heap.size + 1, 2, none⟩ = some (.slice d3 nd3 cd3) := (hb.cell (p := ⟨w.heap.size + 1, 2, none⟩) hl_B).trans k_B_2
  replace f_B : ∀ o, wa.frozen? ⟨w.heap.size + 1, o, none⟩ = false := fun o => (hb.frozen (p := ⟨w.heap.size + 1, o, none⟩) hl_B).trans (f_B o)
  replace HX_B := Lib.hid (HX_B.out.below hb)
  replace HX := Lib.hid (HX.out.below hb)
  replace HY := Lib.hid (HY.out.below hb)
  replace HB := Lib.hid (HB.out.trans (hb.mono hs0))
  replace hN : N ≤ wa.heap.size := Nat.le_trans hN hb.size
  replace hs0 : w.heap.size ≤ wa.heap.size := Nat.le_trans hs0 hb.size
  replace hl_A : w.heap.size < wa.heap.size := Nat.lt_of_lt_of_le hl_A hb.size
  replace hl_B : w.heap.size + 1 < wa.heap.size := Nat.lt_of_lt_of_le hl_B hb.size
  clear hb
  go_wp2_with fail
  refine calls_name fun W1 hW => ?_
  have HL_W1 := Lib.hid (show Below wa.heap.size wa W1 by rw [← hW]; exact BlA)
  have hs_W1 : wa.heap.size ≤ W1.heap.size := by rw [← hW]; (first | omega | (simp; done) | (simp; omega))
  have HK_W1 := Lib.hid (show Kp N wa W1 by rw [← hW]; exact KpA)
  replace k_A_0 : W1.cell? ⟨w.heap.size, 0, none⟩ = some (.bool s2) := (HL_W1.out.cell (p := ⟨w.heap.size, 0, none⟩) hl_A).trans k_A_0
  replace k_A_1 : W1.cell? ⟨w.heap.size, 1, none⟩ = some (.slice a2 na2 ca2) := (HL_W1.out.cell (p := ⟨w.heap.size, 1, none⟩) hl_A).trans k_A_1
  replace k_A_2 : W1.cell? ⟨w.heap.size, 2, none⟩ = some (.slice d2 nd2 cd2) := (HL_W1.out.cell (p := ⟨w.heap.size, 2, none⟩) hl_A).trans k_A_2
  replace f_A : ∀ o, W1.frozen? ⟨w.heap.size, o, none⟩ = false := fun o => (HL_W1.out.frozen (p := ⟨w.heap.size, o, none⟩) hl_A).trans (f_A o)
  replace HX_A := Lib.hid (show Bn W1 (w.heap.size) by rw [← hW]; exact KpA)
  replace k_B_0 : W1.cell? ⟨w.heap.size + 1, 0, none⟩ = some (.bool s3) := (HL_W1.out.cell (p := ⟨w.heap.size + 1, 0, none⟩) hl_B).trans k_B_0
  replace k_B_1 : W1.cell? ⟨w.heap.size + 1, 1, none⟩ = some (.slice a3 na3 ca3) := (HL_W1.out.cell (p := ⟨w.heap.size + 1, 1, none⟩) hl_B).trans k_B_1
  replace k_B_2 : W1.cell? ⟨w.heap.size + 1, 2, none⟩ = some (.slice d3 nd3 cd3) := (HL_W1.out.cell (p := ⟨w.heap.size + 1, 2, none⟩) hl_B).trans k_B_2
  replace f_B : ∀ o, W1.frozen? ⟨w.heap.size + 1, o, none⟩ = false := fun o => (HL_W1.out.frozen (p := ⟨w.heap.size + 1, o, none⟩) hl_B).trans (f_B o)
  replace HX_B := Lib.hid (show Bn W1 (w.heap.size + 1) by rw [← hW]; exact KpA)
  replace HX := Lib.hid (HX.out.keep HK_W1.out)
  replace HY := Lib.hid (HY.out.keep HK_W1.out)
  replace HB := Lib.hid (show Below w.heap.size w W1 by rw [← hW]; exact BlA)
  replace hN : N ≤ W1.heap.size := by rw [← hW]; (first | omega | (simp; done) | (simp; omega))
  replace hs0 : w.heap.size ≤ W1.heap.size := by rw [← hW]; (first | omega | (simp; done) | (simp; omega))
  replace hl_A : w.heap.size < W1.heap.size := by rw [← hW]; (first | omega | (simp; done) | (simp; omega))
  replace hl_B : w.heap.size + 1 < W1.heap.size := by rw [← hW]; (first | omega | (simp; done) | (simp; omega))
  clear HL_W1
  clear hW HK_W1
  have HA := Lib.hid (HAw.out.below HB.out)
  refine (bonf_or (N := N) _ n _ q _ _ _ _ _ _ _ L al _ hN HA.out HX.out hL 0 HC1.out).mono ?_
  rintro e w0 ⟨v0, rfl, hb⟩
  have hs_w0 : W1.heap.size ≤ w0.heap.size := hb.size
  replace k_A_0 : w0.cell? ⟨w.heap.size, 0, none⟩ = some (.bool s2) := (hb.cell (p := ⟨w.heap.size, 0, none⟩) hl_A).trans k_A_0
  replace k_A_1 : w0.cell? ⟨w.heap.size, 1, none⟩ = some (.slice a2 na2 ca2) := (hb.cell (p := ⟨w.heap.size, 1, none⟩) hl_A).trans k_A_1
  replace k_A_2 : w0.cell? ⟨w.heap.size, 2, none⟩ = some (.slice d2 nd2 cd2) := (hb.cell (p := ⟨w.heap.size, 2, none⟩) hl_A).trans k_A_2
  replace f_A : ∀ o, w0.frozen? ⟨w.heap.size, o, none⟩ = false := fun o => (hb.frozen (p := ⟨w.heap.size, o, none⟩) hl_A).trans (f_A o)
  replace HX_A := Lib.hid (HX_A.out.below hb)
  replace k_B_0 : w0.cell? ⟨w.heap.size + 1, 0, none⟩ = some (.bool s3) := (hb.cell (p := ⟨w.heap.size + 1, 0, none⟩) hl_B).trans k_B_0
  replace k_B_1 : w0.cell? ⟨w.heap.size + 1, 1, none⟩ = some (.slice a3 na3 ca3) := (hb.cell (p := ⟨w.heap.size + 1, 1, none⟩) hl_B).trans k_B_1
  replace k_B_2 : w0.cell? ⟨w.heap.size + 1, 2, none⟩ = some (.slice d3 nd3 cd3) := (hb.cell (p := ⟨w.heap.size + 1, 2, none⟩) hl_B).trans k_B_2
  replace f_B : ∀ o, w0.frozen? ⟨w.heap.size + 1, o, none⟩ = false := fun o => (hb.frozen (p := ⟨w.heap.size + 1, o, none⟩) hl_B).trans (f_B o)
  replace HX_B := Lib.hid (HX_B.out.below hb)
  replace HX := Lib.hid (HX.out.below hb)
  replace HY := Lib.hid (HY.out.below hb)
  replace HB := Lib.hid (HB.out.trans (hb.mono hs0))
  replace hN : N ≤ w0.heap.size := Nat.le_trans hN hb.size
  replace hs0 : w.heap.size ≤ w0.heap.size := Nat.le_trans hs0 hb.size
  replace hl_A : w.heap.size < w0.heap.size := Nat.lt_of_lt_of_le hl_A hb.size
  replace hl_B : w.heap.size + 1 < w0.heap.size := Nat.lt_of_lt_of_le hl_B hb.size
  replace HA := Lib.hid (HA.out.below hb)
  clear hb
  go_wp2_with fail
  refine calls_name fun V1 hW => ?_
  have HL_V1 := Lib.hid (show Below w0.heap.size w0 V1 by rw [← hW]; exact BlA)
  have hs_V1 : w0.heap.size ≤ V1.heap.size := by rw [← hW]; (first | omega | (simp; done) | (simp; omega))
  have HK_V1 := Lib.hid (show Kp N w0 V1 by rw [← hW]; exact KpA)
  replace k_A_0 : V1.cell? ⟨w.heap.size, 0, none⟩ = some (.bool s2) := (HL_V1.out.cell (p := ⟨w.heap.size, 0, none⟩) hl_A).trans k_A_0
  replace k_A_1 : V1.cell? ⟨w.heap.size, 1, none⟩ = some (.slice a2 na2 ca2) := (HL_V1.out.cell (p := ⟨w.heap.size, 1, none⟩) hl_A).trans k_A_1
  replace k_A_2 : V1.cell? ⟨w.heap.size, 2, none⟩ = some (.slice d2 nd2 cd2) := (HL_V1.out.cell (p := ⟨w.heap.size, 2, none⟩) hl_A).trans k_A_2
  replace f_A : ∀ o, V1.frozen? ⟨w.heap.size, o, none⟩ = false := fun o => (HL_V1.out.frozen (p := ⟨w.heap.size, o, none⟩) hl_A).trans (f_A o)
  replace HX_A := Lib.hid (show Bn V1 (w.heap.size) by rw [← hW]; exact KpA)
  replace k_B_0 : V1.cell? ⟨w.heap.size + 1, 0, none⟩ = some (.bool s3) := (HL_V1.out.cell (p := ⟨w.heap.size + 1, 0, none⟩) hl_B).trans k_B_0
  replace k_B_1 : V1.cell? ⟨w.heap.size + 1, 1, none⟩ = some (.slice a3 na3 ca3) := (HL_V1.out.cell (p := ⟨w.heap.size + 1, 1, none⟩) hl_B).trans k_B_1
  replace k_B_2 : V1.cell? ⟨w.heap.size + 1, 2, none⟩ = some (.slice d3 nd3 cd3) := (HL_V1.out.cell (p := ⟨w.heap.size + 1, 2, none⟩) hl_B).trans k_B_2
  replace f_B : ∀ o, V1.frozen? ⟨w.heap.size + 1, o, none⟩ = false := fun o => (HL_V1.out.frozen (p := ⟨w.heap.size + 1, o, none⟩) hl_B).trans (f_B o)
  replace HX_B := Lib.hid (show Bn V1 (w.heap.size + 1) by rw [← hW]; exact KpA)
  replace HX := Lib.hid (HX.out.keep HK_V1.out)
  replace HY := Lib.hid (HY.out.keep HK_V1.out)
  replace HB := Lib.hid (show Below w.heap.size w V1 by rw [← hW]; exact BlA)
  replace hN : N ≤ V1.heap.size := by rw [← hW]; (first | omega | (simp; done) | (simp; omega))
  replace hs0 : w.heap.size ≤ V1.heap.size := by rw [← hW]; (first | omega | (simp; done) | (simp; omega))
  replace hl_A : w.heap.size < V1.heap.size := by rw [← hW]; (first | omega | (simp; done) | (simp; omega))
  replace hl_B : w.heap.size + 1 < V1.heap.size := by rw [← hW]; (first | omega | (simp; done) | (simp; omega))
  replace HA := Lib.hid (HA.out.below HL_V1.out)
  clear HL_V1
  clear hW HK_V1
  refine (bonf_or (N := N) _ n _ q _ _ _ _ _ _ _ L be _ hN HA.out HY.out hL c2 HC2.out).mono ?_
  rintro e w1 ⟨v1, rfl, hb⟩
  have hs_w1 : V1.heap.size ≤ w1.heap.size := hb.size
  replace k_A_0 : w1.cell? ⟨w.heap.size, 0, none⟩ = some (.bool s2) := (hb.cell (p := ⟨w.heap.size, 0, none⟩) hl_A).trans k_A_0
  replace k_A_1 : w1.cell? ⟨w.heap.size, 1, none⟩ = some (.slice a2 na2 ca2) := (hb.cell (p := ⟨w.heap.size, 1, none⟩) hl_A).trans k_A_1
  replace k_A_2 : w1.cell? ⟨w.heap.size, 2, none⟩ = some (.slice d2 nd2 cd2) := (hb.cell (p := ⟨w.heap.size, 2, none⟩) hl_A).trans k_A_2
  replace f_A : ∀ o, w1.frozen? ⟨w.heap.size, o, none⟩ = false := fun o => (hb.frozen (p := ⟨w.heap.size, o, none⟩) hl_A).trans (f_A o)
  replace HX_A := Lib.hid (HX_A.out.below hb)
  replace k_B_0 : w1.cell? ⟨w.heap.size + 1, 0, none⟩ = some (.bool s3) := (hb.cell (p := ⟨w.heap.size + 1, 0, none⟩) hl_B).trans k_B_0
  replace k_B_1 : w1.cell? ⟨w.heap.size + 1, 1, none⟩ = some (.slice a3 na3 ca3) := (hb.cell (p := ⟨w.heap.size + 1, 1, none⟩) hl_B).trans k_B_1
  replace k_B_2 : w1.cell? ⟨w.heap.size + 1, 2, none⟩ = some (.slice d3 nd3 cd3) := (hb.cell (p := ⟨w.heap.size + 1, 2, none⟩) hl_B).trans k_B_2
  replace f_B : ∀ o, w1.frozen? ⟨w.heap.size + 1, o, none⟩ = false := fun o => (hb.frozen (p := ⟨w.heap.size + 1, o, none⟩) hl_B).trans (f_B o)
  replace HX_B := Lib.hid (HX_B.out.below hb)
  replace HX := Lib.hid (HX.out.below hb)
  replace HY := Lib.hid (HY.out.below hb)
  replace HB := Lib.hid (HB.out.trans (hb.mono hs0))
  replace hN : N ≤ w1.heap.size := Nat.le_trans hN hb.size
  replace hs0 : w.heap.size ≤ w1.heap.size := Nat.le_trans hs0 hb.size
  replace hl_A : w.heap.size < w1.heap.size := Nat.lt_of_lt_of_le hl_A hb.size
  replace hl_B : w.heap.size + 1 < w1.heap.size := Nat.lt_of_lt_of_le hl_B hb.size
  replace HA := Lib.hid (HA.out.below hb)
  clear hb
  go_wp2_with fail
  refine calls_name fun V2 hW => ?_
  have HL_V2 := Lib.hid (show Below w1.heap.size w1 V2 by rw [← hW]; exact BlA)
  have hs_V2 : w1.heap.size ≤ V2.heap.size := by rw [← hW]; (first | omega | (simp; done) | (simp; omega))
  have HK_V2 := Lib.hid (show Kp N w1 V2 by rw [← hW]; exact KpA)
  replace k_A_0 : V2.cell? ⟨w.heap.size, 0, none⟩ = some (.bool s2) := (HL_V2.out.cell (p := ⟨w.heap.size, 0, none⟩) hl_A).trans k_A_0
  replace k_A_1 : V2.cell? ⟨w.heap.size, 1, none⟩ = some (.slice a2 na2 ca2) := (HL_V2.out.cell (p := ⟨w.heap.size, 1, none⟩) hl_A).trans k_A_1
  replace k_A_2 : V2.cell? ⟨w.heap.size, 2, none⟩ = some (.slice d2 nd2 cd2) := (HL_V2.out.cell (p := ⟨w.heap.size, 2, none⟩) hl_A).trans k_A_2
  replace f_A : ∀ o, V2.frozen? ⟨w.heap.size, o, none⟩ = false := fun o => (HL_V2.out.frozen (p := ⟨w.heap.size, o, none⟩) hl_A).trans (f_A o)
  replace HX_A := Lib.hid (show Bn V2 (w.heap.size) by rw [← hW]; exact KpA)
  replace k_B_0 : V2.cell? ⟨w.heap.size + 1, 0, none⟩ = some (.bool s3) := (HL_V2.out.cell (p := ⟨w.heap.size + 1, 0, none⟩) hl_B).trans k_B_0
  replace k_B_1 : V2.cell? ⟨w.heap.size + 1, 1, none⟩ = some (.slice a3 na3 ca3) := (HL_V2.out.cell (p := ⟨w.heap.size + 1, 1, none⟩) hl_B).trans k_B_1
  replace k_B_2 : V2.cell? ⟨w.heap.size + 1, 2, none⟩ = some (.slice d3 nd3 cd3) := (HL_V2.out.cell (p := ⟨w.heap.size + 1, 2, none⟩) hl_B).trans k_B_2
  replace f_B : ∀ o, V2.frozen? ⟨w.heap.size + 1, o, none⟩ = false := fun o => (HL_V2.out.frozen (p := ⟨w.heap.size + 1, o, none⟩) hl_B).trans (f_B o)
  replace HX_B := Lib.hid (show Bn V2 (w.heap.size + 1) by rw [← hW]; exact KpA)
  replace HX := Lib.hid (HX.out.keep HK_V2.out)
  replace HY := Lib.hid (HY.out.keep HK_V2.out)
  replace HB := Lib.hid (show Below w.heap.size w V2 by rw [← hW]; exact BlA)
  replace hN : N ≤ V2.heap.size := by rw [← hW]; (first | omega | (simp; done) | (simp; omega))
  replace hs0 : w.heap.size ≤ V2.heap.size := by rw [← hW]; (first | omega | (simp; done) | (simp; omega))
  replace hl_A : w.heap.size < V2.heap.size := by rw [← hW]; (first | omega | (simp; done) | (simp; omega))
  replace hl_B : w.heap.size + 1 < V2.heap.size := by rw [← hW]; (first | omega | (simp; done) | (simp; omega))
  replace HA := Lib.hid (HA.out.below HL_V2.out)
  clear HL_V2
  clear hW HK_V2
  refine (holm_or (N := N) _ n _ q _ _ _ _ _ _ _ L al _ hN HA.out HX.out hL 0 HC1.out).mono ?_
  rintro e w2 ⟨v2, rfl, hb⟩
  have hs_w2 : V2.heap.size ≤ w2.heap.size := hb.size
  replace k_A_0 : w2.cell? ⟨w.heap.size, 0, none⟩ = some (.bool s2) := (hb.cell (p := ⟨w.heap.size, 0, none⟩) hl_A).trans k_A_0
  replace k_A_1 : w2.cell? ⟨w.heap.size, 1, none⟩ = some (.slice a2 na2 ca2) := (hb.cell (p := ⟨w.heap.size, 1, none⟩) hl_A).trans k_A_1
  replace k_A_2 : w2.cell? ⟨w.heap.size, 2, none⟩ = some (.slice d2 nd2 cd2) := (hb.cell (p := ⟨w.heap.size, 2, none⟩) hl_A).trans k_A_2
  replace f_A : ∀ o, w2.frozen? ⟨w.heap.size, o, none⟩ = false := fun o => (hb.frozen (p := ⟨w.heap.size, o, none⟩) hl_A).trans (f_A o)
  replace HX_A := Lib.hid (HX_A.out.below hb)
  replace k_B_0 : w2.cell? ⟨w.heap.size + 1, 0, none⟩ = some (.bool s3) := (hb.cell (p := ⟨w.heap.size + 1, 0, none⟩) hl_B).trans k_B_0
  replace k_B_1 : w2.cell? ⟨w.heap.size + 1, 1, none⟩ = some (.slice a3 na3 ca3) := (hb.cell (p := ⟨w.heap.size + 1, 1, none⟩) hl_B).trans k_B_1
  replace k_B_2 : w2.cell? ⟨w.heap.size + 1, 2, none⟩ = some (.slice d3 nd3 cd3) := (hb.cell (p := ⟨w.heap.size + 1, 2, none⟩) hl_B).trans k_B_2
  replace f_B : ∀ o, w2.frozen? ⟨w.heap.size + 1, o, none⟩ = false := fun o => (hb.frozen (p := ⟨w.heap.size + 1, o, none⟩) hl_B).trans (f_B o)
  replace HX_B := Lib.hid (HX_B.out.below hb)
  replace HX := Lib.hid (HX.out.below hb)
  replace HY := Lib.hid (HY.out.below hb)
  replace HB := Lib.hid (HB.out.trans (hb.mono hs0))
  replace hN : N ≤ w2.heap.size := Nat.le_trans hN hb.size
  replace hs0 : w.heap.size ≤ w2.heap.size := Nat.le_trans hs0 hb.size
  replace hl_A : w.heap.size < w2.heap.size := Nat.lt_of_lt_of_le hl_A hb.size
  replace hl_B : w.heap.size + 1 < w2.heap.size := Nat.lt_of_lt_of_le hl_B hb.size
  replace HA := Lib.hid (HA.out.below hb)
  clear hb
  go_wp2_with fail
  refine calls_name fun V3 hW => ?_
  have HL_V3 := Lib.hid (show Below w2.heap.size w2 V3 by rw [← hW]; exact BlA)
  have hs_V3 : w2.heap.size ≤ V3.heap.size := by rw [← hW]; (first | omega | (simp; done) | (simp; omega))
  have HK_V3 := Lib.hid (show Kp N w2 V3 by rw [← hW]; exact KpA)
  replace k_A_0 : V3.cell? ⟨w.heap.size, 0, none⟩ = some (.bool s2) := (HL_V3.out.cell (p := ⟨w.heap.size, 0, none⟩) hl_A).trans k_A_0
  replace k_A_1 : V3.cell? ⟨w.heap.size, 1, none⟩ = some (.slice a2 na2 ca2) := (HL_V3.out.cell (p := ⟨w.heap.size, 1, none⟩) hl_A).trans k_A_1
  replace k_A_2 : V3.cell? ⟨w.heap.size, 2, none⟩ = some (.slice d2 nd2 cd2) := (HL_V3.out.cell (p := ⟨w.heap.size, 2, none⟩) hl_A).trans k_A_2
  replace f_A : ∀ o, V3.frozen? ⟨w.heap.size, o, none⟩ = false := fun o => (HL_V3.out.frozen (p := ⟨w.heap.size, o, none⟩) hl_A).trans (f_A o)
  replace HX_A := Lib.hid (show Bn V3 (w.heap.size) by rw [← hW]; exact KpA)
  replace k_B_0 : V3.cell? ⟨w.heap.size + 1, 0, none⟩ = some (.bool s3) := (HL_V3.out.cell (p := ⟨w.heap.size + 1, 0, none⟩) hl_B).trans k_B_0
  replace k_B_1 : V3.cell? ⟨w.heap.size + 1, 1, none⟩ = some (.slice a3 na3 ca3) := (HL_V3.out.cell (p := ⟨w.heap.size + 1, 1, none⟩) hl_B).trans k_B_1
  replace k_B_2 : V3.cell? ⟨w.heap.size + 1, 2, none⟩ = some (.slice d3 nd3 cd3) := (HL_V3.out.cell (p := ⟨w.heap.size + 1, 2, none⟩) hl_B).trans k_B_2
  replace f_B : ∀ o, V3.frozen? ⟨w.heap.size + 1, o, none⟩ = false := fun o => (HL_V3.out.frozen (p := ⟨w.heap.size + 1, o, none⟩) hl_B).trans (f_B o)
  replace HX_B := Lib.hid (show Bn V3 (w.heap.size + 1) by rw [← hW]; exact KpA)
  replace HX := Lib.hid (HX.out.keep HK_V3.out)
  replace HY := Lib.hid (HY.out.keep HK_V3.out)
  replace HB := Lib.hid (show Below w.heap.size w V3 by rw [← hW]; exact BlA)
  replace hN : N ≤ V3.heap.size := by rw [← hW]; (first | omega | (simp; done) | (simp; omega))
  replace hs0 : w.heap.size ≤ V3.heap.size := by rw [← hW]; (first | omega | (simp; done) | (simp; omega))
  replace hl_A : w.heap.size < V3.heap.size := by rw [← hW]; (first | omega | (simp; done) | (simp; omega))
  replace hl_B : w.heap.size + 1 < V3.heap.size := by rw [← hW]; (first | omega | (simp; done) | (simp; omega))
  replace HA := Lib.hid (HA.out.below HL_V3.out)
  clear HL_V3
  clear hW HK_V3
  refine (holm_or (N := N) _ n _ q _ _ _ _ _ _ _ L be _ hN HA.out HY.out hL c2 HC2.out).mono ?_
  rintro e w3 ⟨v3, rfl, hb⟩
  have hs_w3 : V3.heap.size ≤ w3.heap.size := hb.size
  replace k_A_0 : w3.cell? ⟨w.heap.size, 0, none⟩ = some (.bool s2) := (hb.cell (p := ⟨w.heap.size, 0, none⟩) hl_A).trans k_A_0
  replace k_A_1 : w3.cell? ⟨w.heap.size, 1, none⟩ = some (.slice a2 na2 ca2) := (hb.cell (p := ⟨w.heap.size, 1, none⟩) hl_A).trans k_A_1
  replace k_A_2 : w3.cell? ⟨w.heap.size, 2, none⟩ = some (.slice d2 nd2 cd2) := (hb.cell (p := ⟨w.heap.size, 2, none⟩) hl_A).trans k_A_2
  replace f_A : ∀ o, w3.frozen? ⟨w.heap.size, o, none⟩ = false := fun o => (hb.frozen (p := ⟨w.heap.size, o, none⟩) hl_A).trans (f_A o)
  replace HX_A := Lib.hid (HX_A.out.below hb)
  replace k_B_0 : w3.cell? ⟨w.heap.size + 1, 0, none⟩ = some (.bool s3) := (hb.cell (p := ⟨w.heap.size + 1, 0, none⟩) hl_B).trans k_B_0
  replace k_B_1 : w3.cell? ⟨w.heap.size + 1, 1, none⟩ = some (.slice a3 na3 ca3) := (hb.cell (p := ⟨w.heap.size + 1, 1, none⟩) hl_B).trans k_B_1
  replace k_B_2 : w3.cell? ⟨w.heap.size + 1, 2, none⟩ = some (.slice d3 nd3 cd3) := (hb.cell (p := ⟨w.heap.size + 1, 2, none⟩) hl_B).trans k_B_2
  replace f_B : ∀ o, w3.frozen? ⟨w.heap.size + 1, o, none⟩ = false := fun o => (hb.frozen (p := ⟨w.heap.size + 1, o, none⟩) hl_B).trans (f_B o)
  replace HX_B := Lib.hid (HX_B.out.below hb)
  replace HX := Lib.hid (HX.out.below hb)
  replace HY := Lib.hid (HY.out.below hb)
  replace HB := Lib.hid (HB.out.trans (hb.mono hs0))
  replace hN : N ≤ w3.heap.size := Nat.le_trans hN hb.size
  replace hs0 : w.heap.size ≤ w3.heap.size := Nat.le_trans hs0 hb.size
  replace hl_A : w.heap.size < w3.heap.size := Nat.lt_of_lt_of_le hl_A hb.size
  replace hl_B : w.heap.size + 1 < w3.heap.size := Nat.lt_of_lt_of_le hl_B hb.size
  replace HA := Lib.hid (HA.out.below hb)
  clear hb
  go_wp2_with fail
  refine calls_name fun Z9 hW => ?_
  have HL_Z9 := Lib.hid (show Below w3.heap.size w3 Z9 by rw [← hW]; exact BlA)
  have hs_Z9 : w3.heap.size ≤ Z9.heap.size := by rw [← hW]; (first | omega | (simp; done) | (simp; omega))
  have HK_Z9 := Lib.hid (show Kp N w3 Z9 by rw [← hW]; exact KpA)
  replace k_A_0 : Z9.cell? ⟨w.heap.size, 0, none⟩ = some (.bool s2) := (HL_Z9.out.cell (p := ⟨w.heap.size, 0, none⟩) hl_A).trans k_A_0
  replace k_A_1 : Z9.cell? ⟨w.heap.size, 1, none⟩ = some (.slice a2 na2 ca2) := (HL_Z9.out.cell (p := ⟨w.heap.size, 1, none⟩) hl_A).trans k_A_1
  replace k_A_2 : Z9.cell? ⟨w.heap.size, 2, none⟩ = some (.slice d2 nd2 cd2) := (HL_Z9.out.cell (p := ⟨w.heap.size, 2, none⟩) hl_A).trans k_A_2
  replace f_A : ∀ o, Z9.frozen? ⟨w.heap.size, o, none⟩ = false := fun o => (HL_Z9.out.frozen (p := ⟨w.heap.size, o, none⟩) hl_A).trans (f_A o)
  replace HX_A := Lib.hid (show Bn Z9 (w.heap.size) by rw [← hW]; exact KpA)
  replace k_B_0 : Z9.cell? ⟨w.heap.size + 1, 0, none⟩ = some (.bool s3) := (HL_Z9.out.cell (p := ⟨w.heap.size + 1, 0, none⟩) hl_B).trans k_B_0
  replace k_B_1 : Z9.cell? ⟨w.heap.size + 1, 1, none⟩ = some (.slice a3 na3 ca3) := (HL_Z9.out.cell (p := ⟨w.heap.size + 1, 1, none⟩) hl_B).trans k_B_1
  replace k_B_2 : Z9.cell? ⟨w.heap.size + 1, 2, none⟩ = some (.slice d3 nd3 cd3) := (HL_Z9.out.cell (p := ⟨w.heap.size + 1, 2, none⟩) hl_B).trans k_B_2
  replace f_B : ∀ o, Z9.frozen? ⟨w.heap.size + 1, o, none⟩ = false := fun o => (HL_Z9.out.frozen (p := ⟨w.heap.size + 1, o, none⟩) hl_B).trans (f_B o)
  replace HX_B := Lib.hid (show Bn Z9 (w.heap.size + 1) by rw [← hW]; exact KpA)
  replace HX := Lib.hid (HX.out.keep HK_Z9.out)
  replace HY := Lib.hid (HY.out.keep HK_Z9.out)
  replace HB := Lib.hid (show Below w.heap.size w Z9 by rw [← hW]; exact BlA)
  replace hN : N ≤ Z9.heap.size := by rw [← hW]; (first | omega | (simp; done) | (simp; omega))
  replace hs0 : w.heap.size ≤ Z9.heap.size := by rw [← hW]; (first | omega | (simp; done) | (simp; omega))
  replace hl_A : w.heap.size < Z9.heap.size := by rw [← hW]; (first | omega | (simp; done) | (simp; omega))
  replace hl_B : w.heap.size + 1 < Z9.heap.size := by rw [← hW]; (first | omega | (simp; done) | (simp; omega))
  replace HA := Lib.hid (HA.out.below HL_Z9.out)
  clear HL_Z9
  clear hW HK_Z9
  refine (dawake_any (N := N) _ hN (HTw.out.below HB.out)).mono ?_
  rintro e wh ⟨rfl, hb⟩
  have hs_wh : Z9.heap.size ≤ wh.heap.size := hb.size
  replace k_A_0 : wh.cell? ⟨w.heap.size, 0, none⟩ = some (.bool s2) := (hb.cell (p := ⟨w.heap.size, 0, none⟩) hl_A).trans k_A_0
  replace k_A_1 : wh.cell? ⟨w.heap.size, 1, none⟩ = some (.slice a2 na2 ca2) := (hb.cell (p := ⟨w.heap.size, 1, none⟩) hl_A).trans k_A_1
  replace k_A_2 : wh.cell? ⟨w.heap.size, 2, none⟩ = some (.slice d2 nd2 cd2) := (hb.cell (p := ⟨w.heap.size, 2, none⟩) hl_A).trans k_A_2
  replace f_A : ∀ o, wh.frozen? ⟨w.heap.size, o, none⟩ = false := fun o => (hb.frozen (p := ⟨w.heap.size, o, none⟩) hl_A).trans (f_A o)
  replace HX_A := Lib.hid (HX_A.out.below hb)
  replace k_B_0 : wh.cell? ⟨w.heap.size + 1, 0, none⟩ = some (.bool s3) := (hb.cell (p := ⟨w.heap.size + 1, 0, none⟩) hl_B).trans k_B_0
  replace k_B_1 : wh.cell? ⟨w.heap.size + 1, 1, none⟩ = some (.slice a3 na3 ca3) := (hb.cell (p := ⟨w.heap.size + 1, 1, none⟩) hl_B).trans k_B_1
  replace k_B_2 : wh.cell? ⟨w.heap.size + 1, 2, none⟩ = some (.slice d3 nd3 cd3) := (hb.cell (p := ⟨w.heap.size + 1, 2, none⟩) hl_B).trans k_B_2
  replace f_B : ∀ o, wh.frozen? ⟨w.heap.size + 1, o, none⟩ = false := fun o => (hb.frozen (p := ⟨w.heap.size + 1, o, none⟩) hl_B).trans (f_B o)
  replace HX_B := Lib.hid (HX_B.out.below hb)
  replace HX := Lib.hid (HX.out.below hb)
  replace HY := Lib.hid (HY.out.below hb)
  replace HB := Lib.hid (HB.out.trans (hb.mono hs0))
  replace hN : N ≤ wh.heap.size := Nat.le_trans hN hb.size
  replace hs0 : w.heap.size ≤ wh.heap.size := Nat.le_trans hs0 hb.size
  replace hl_A : w.heap.size < wh.heap.size := Nat.lt_of_lt_of_le hl_A hb.size
  replace hl_B : w.heap.size + 1 < wh.heap.size := Nat.lt_of_lt_of_le hl_B hb.size
  replace HA := Lib.hid (HA.out.below hb)
  clear hb
  go_wp2_with fail
  go_ret
  exact ⟨rfl, HB.out⟩

set_option maxHeartbeats 8000000 in
set_option maxRecDepth 100000 in
theorem dlev_kok {N : Nat} (a : Option Addr) (n cap : Nat) (q : Nat → Rat) (s2 s3 : Bool) (a2 d2 a3 d3 : Option Addr) (na2 ca2 nd2 cd2 na3 ca3 nd3 cd3 L : Nat) (al be : Rat) (w : World) (hN : N ≤ w.heap.size) (h : Rs N w a n cap q L) (h2 : Rt N w s2 a2 na2 ca2 d2 nd2 cd2 al L) (h3 : Rt N w s3 a3 na3 ca3 d3 nd3 cd3 be L) (hL : L ≤ 2097152) (htab : TabW w) (hsw : decide (be < al) = false) (hc1 : chkC q n al = 0) (hc2 : chkC q n be = 0) :
    Calls Tryd.prog 6 #[.slice a n cap, .agg #[.bool s2, .slice a2 na2 ca2, .slice d2 nd2 cd2], .agg #[.bool s3, .slice a3 na3 ca3, .slice d3 nd3 cd3]] w fun e w' => e = .returned (.bool true) ∧ Below w.heap.size w w' := by
  have HXY := Lib.hid (show al ≤ be by rw [decide_eq_false_iff_not] at hsw; grind)
  have HC1 := Lib.hid hc1
  have HC2 := Lib.hid hc2
  obtain ⟨h60, _, _⟩ := chk_ok hc1
  clear hc1 hc2
  have HAw := Lib.hid h
  have HTw := Lib.hid htab
  have HX := Lib.hid h2
  have HY := Lib.hid h3
  have bc := h.1
  have bm := h.2.1
  unfold maxLen at bm
  clear h h2 h3 htab
  have hN0 := hN
  have HB := Lib.hid (Below.refl w.heap.size w)
  obtain ⟨κ, hκ⟩ : ∃ κ, cmpQ al be = κ := ⟨_, rfl⟩
  have dk : decide (0 < κ) = false := by rw [← hκ]; exact cmp_gt2 _ _ _ hsw
  have HK := Lib.hid hκ
  clear hκ hsw
  go_enter Tryd.func6, Tryd.ntmps6
  go_wp2_with fail
  refine calls_name fun W0 hW => ?_
  have hs_W0 : w.heap.size ≤ W0.heap.size := by rw [← hW]; (first | omega | (simp; done) | (simp; omega))
  have HK_W0 := Lib.hid (show Kp N w W0 by rw [← hW]; exact KpA)
  have k_A_0 : W0.cell? ⟨w.heap.size, 0, none⟩ = some (.bool s2) := by rw [← hW]; (first | (go_simp; done) | (simp; done) | (simp [go_sem]; done) | (simp [go_sem]; done))
  have k_A_1 : W0.cell? ⟨w.heap.size, 1, none⟩ = some (.slice a2 na2 ca2) := by rw [← hW]; (first | (go_simp; done) | (simp; done) | (simp [go_sem]; done) | (simp [go_sem]; done))
  have k_A_2 : W0.cell? ⟨w.heap.size, 2, none⟩ = some (.slice d2 nd2 cd2) := by rw [← hW]; (first | (go_simp; done) | (simp; done) | (simp [go_sem]; done) | (simp [go_sem]; done))
  have f_A : ∀ o, W0.frozen? ⟨w.heap.size, o, none⟩ = false := by intro o; rw [← hW]; (first | (go_simp; done) | (simp; done) | (simp [go_sem]; done) | (simp [go_sem]; done))
  have HX_A := Lib.hid (show Bn W0 (w.heap.size) by rw [← hW]; exact KpA)
  have k_B_0 : W0.cell? ⟨w.heap.size + 1, 0, none⟩ = some (.bool s3) := by rw [← hW]; (first | (go_simp; done) | (simp; done) | (simp [go_sem]; done) | (simp [go_sem]; done))
  have k_B_1 : W0.cell? ⟨w.heap.size + 1, 1, none⟩ = some (.slice a3 na3 ca3) := by rw [← hW]; (first | (go_simp; done) | (simp; done) | (simp [go_sem]; done) | (simp [go_sem]; done))
  have k_B_2 : W0.cell? ⟨w.heap.size + 1, 2, none⟩ = some (.slice d3 nd3 cd3) := by rw [← hW]; (first | (go_simp; done) | (simp; done) | (simp [go_sem]; done) | (simp [go_sem]; done))
  have f_B : ∀ o, W0.frozen? ⟨w.heap.size + 1, o, none⟩ = false := by intro o; rw [← hW]; (first | (go_simp; done) | (simp; done) | (simp [go_sem]; done) | (simp [go_sem]; done))
  have HX_B := Lib.hid (show Bn W0 (w.heap.size + 1) by rw [← hW]; exact KpA)
  replace HX := Lib.hid (HX.out.keep HK_W0.out)
  replace HY := Lib.hid (HY.out.keep HK_W0.out)
  replace HB := Lib.hid (show Below w.heap.size w W0 by rw [← hW]; exact BlA)
  replace hN : N ≤ W0.heap.size := by rw [← hW]; (first | omega | (simp; done) | (simp; omega))
  have hs0 : w.heap.size ≤ W0.heap.size := by rw [← hW]; (first | omega | (simp; done) | (simp; omega))
  have hl_A : w.heap.size < W0.heap.size := by rw [← hW]; (first | omega | (simp; done) | (simp; omega))
  have hl_B : w.heap.size + 1 < W0.heap.size := by rw [← hW]; (first | omega | (simp; done) | (simp; omega))
  clear hW HK_W0
  have hd_A_B : w.heap.size < w.heap.size + 1 := by omega
  refine (rcmp_any (N := N) _ _ _ _ _ _ _ _ _ _ _ _ _ _ L L al be _ hN HX.out HY.out (by omega) (by omega)).mono ?_
  rw [HK.out]
  rintro e wa ⟨rfl, hb⟩
  have hs_wa : W0.heap.size ≤ wa.heap.size := hb.size
  replace k_A_0 : wa.cell? ⟨w.heap.size, 0, none⟩ = some (.bool s2) := (hb.cell (p := ⟨w.heap.size, 0, none⟩) hl_A).trans k_A_0
  replace k_A_1 : wa.cell? ⟨w.heap.size, 1, none⟩ = some (.slice a2 na2 ca2) := (hb.cell (p := ⟨w.heap.size, 1, none⟩) hl_A).trans k_A_1
  replace k_A_2 : wa.cell? ⟨w.heap.size, 2, none⟩ = some (.slice d2 nd2 cd2) := (hb.cell (p := ⟨w.heap.size, 2, none⟩) hl_A).trans k_A_2
  replace f_A : ∀ o, wa.frozen? ⟨w.heap.size, o, none⟩ = false := fun o => (hb.frozen (p := ⟨w.heap.size, o, none⟩) hl_A).trans (f_A o)
  replace HX_A := Lib.hid (HX_A.out.below hb)
  replace k_B_0 : wa.cell? ⟨w.heap.size + 1, 0, none⟩ = some (.bool s3) := (hb.cell (p := ⟨w.heap.size + 1, 0, none⟩) hl_B).trans k_B_0
  replace k_B_1 : wa.cell? ⟨w.heap.size + 1, 1, none⟩ = some (.slice a3 na3 ca3) := (hb.cell (p := ⟨w.heap.size + 1, 1, none⟩) hl_B).trans k_B_1
  replace k_B_2 : wa.cell? ⟨w.heap.size + 1, 2, none⟩ = some (.slice d3 nd3 cd3) := (hb.cell (p := ⟨w.heap.size + 1, 2, none⟩) hl_B).trans k_B_2
  replace f_B : ∀ o, wa.frozen? ⟨w.heap.size + 1, o, none⟩ = false := fun o => (hb.frozen (p := ⟨w.heap.size + 1, o, none⟩) hl_B).trans (f_B o)
  replace HX_B := Lib.hid (HX_B.out.below hb)
  replace HX := Lib.hid (HX.out.below hb)
  replace HY := Lib.hid (HY.out.below hb)
  replace HB := Lib.hid (HB.out.trans (hb.mono hs0))
  replace hN : N ≤ wa.heap.size := Nat.le_trans hN hb.size
  replace hs0 : w.heap.size ≤ wa.heap.size := Nat.le_trans hs0 hb.size
  replace hl_A : w.heap.size < wa.heap.size := Nat.lt_of_lt_of_le hl_A hb.size
  replace hl_B : w.heap.size + 1 < wa.heap.size := Nat.lt_of_lt_of_le hl_B hb.size
  clear hb
  go_wp2_with fail
  refine calls_name fun W1 hW => ?_
  have HL_W1 := Lib.hid (show Below wa.heap.size wa W1 by rw [← hW]; exact BlA)
  have hs_W1 : wa.heap.size ≤ W1.heap.size := by rw [← hW]; (first | omega | (simp; done) | (simp; omega))
  have HK_W1 := Lib.hid (show Kp N wa W1 by rw [← hW]; exact KpA)
  replace k_A_0 : W1.cell? ⟨w.heap.size, 0, none⟩ = some (.bool s2) := (HL_W1.out.cell (p := ⟨w.heap.size, 0, none⟩) hl_A).trans k_A_0
  replace k_A_1 : W1.cell? ⟨w.heap.size, 1, none⟩ = some (.slice a2 na2 ca2) := (HL_W1.out.cell (p := ⟨w.heap.size, 1, none⟩) hl_A).trans k_A_1
  replace k_A_2 : W1.cell? ⟨w.heap.size, 2, none⟩ = some (.slice d2 nd2 cd2) := (HL_W1.out.cell (p := ⟨w.heap.size, 2, none⟩) hl_A).trans k_A_2
  replace f_A : ∀ o, W1.frozen? ⟨w.heap.size, o, none⟩ = false := fun o => (HL_W1.out.frozen (p := ⟨w.heap.size, o, none⟩) hl_A).trans (f_A o)
  replace HX_A := Lib.hid (show Bn W1 (w.heap.size) by rw [← hW]; exact KpA)
  replace k_B_0 : W1.cell? ⟨w.heap.size + 1, 0, none⟩ = some (.bool s3) := (HL_W1.out.cell (p := ⟨w.heap.size + 1, 0, none⟩) hl_B).trans k_B_0
  replace k_B_1 : W1.cell? ⟨w.heap.size + 1, 1, none⟩ = some (.slice a3 na3 ca3) := (HL_W1.out.cell (p := ⟨w.heap.size + 1, 1, none⟩) hl_B).trans k_B_1
  replace k_B_2 : W1.cell? ⟨w.heap.size + 1, 2, none⟩ = some (.slice d3 nd3 cd3) := (HL_W1.out.cell (p := ⟨w.heap.size + 1, 2, none⟩) hl_B).trans k_B_2
  replace f_B : ∀ o, W1.frozen? ⟨w.heap.size + 1, o, none⟩ = false := fun o => (HL_W1.out.frozen (p := ⟨w.heap.size + 1, o, none⟩) hl_B).trans (f_B o)
  replace HX_B := Lib.hid (show Bn W1 (w.heap.size + 1) by rw [← hW]; exact KpA)
  replace HX := Lib.hid (HX.out.keep HK_W1.out)
  replace HY := Lib.hid (HY.out.keep HK_W1.out)
  replace HB := Lib.hid (show Below w.heap.size w W1 by rw [← hW]; exact BlA)
  replace hN : N ≤ W1.heap.size := by rw [← hW]; (first | omega | (simp; done) | (simp; omega))
  replace hs0 : w.heap.size ≤ W1.heap.size := by rw [← hW]; (first | omega | (simp; done) | (simp; omega))
  replace hl_A : w.heap.size < W1.heap.size := by rw [← hW]; (first | omega | (simp; done) | (simp; omega))
  replace hl_B : w.heap.size + 1 < W1.heap.size := by rw [← hW]; (first | omega | (simp; done) | (simp; omega))
  clear HL_W1
  clear hW HK_W1
  have HA := Lib.hid (HAw.out.below HB.out)
  refine (bonf_ok (N := N) _ n _ q _ _ _ _ _ _ _ L al _ hN HA.out HX.out hL HC1.out).mono ?_
  rintro e w0 ⟨b0, rfl, bl0, bh0, hl, hb⟩
  have hs_w0 : W1.heap.size ≤ w0.heap.size := hb.size
  replace k_A_0 : w0.cell? ⟨w.heap.size, 0, none⟩ = some (.bool s2) := (hb.cell (p := ⟨w.heap.size, 0, none⟩) hl_A).trans k_A_0
  replace k_A_1 : w0.cell? ⟨w.heap.size, 1, none⟩ = some (.slice a2 na2 ca2) := (hb.cell (p := ⟨w.heap.size, 1, none⟩) hl_A).trans k_A_1
  replace k_A_2 : w0.cell? ⟨w.heap.size, 2, none⟩ = some (.slice d2 nd2 cd2) := (hb.cell (p := ⟨w.heap.size, 2, none⟩) hl_A).trans k_A_2
  replace f_A : ∀ o, w0.frozen? ⟨w.heap.size, o, none⟩ = false := fun o => (hb.frozen (p := ⟨w.heap.size, o, none⟩) hl_A).trans (f_A o)
  replace HX_A := Lib.hid (HX_A.out.below hb)
  replace k_B_0 : w0.cell? ⟨w.heap.size + 1, 0, none⟩ = some (.bool s3) := (hb.cell (p := ⟨w.heap.size + 1, 0, none⟩) hl_B).trans k_B_0
  replace k_B_1 : w0.cell? ⟨w.heap.size + 1, 1, none⟩ = some (.slice a3 na3 ca3) := (hb.cell (p := ⟨w.heap.size + 1, 1, none⟩) hl_B).trans k_B_1
  replace k_B_2 : w0.cell? ⟨w.heap.size + 1, 2, none⟩ = some (.slice d3 nd3 cd3) := (hb.cell (p := ⟨w.heap.size + 1, 2, none⟩) hl_B).trans k_B_2
  replace f_B : ∀ o, w0.frozen? ⟨w.heap.size + 1, o, none⟩ = false := fun o => (hb.frozen (p := ⟨w.heap.size + 1, o, none⟩) hl_B).trans (f_B o)
  replace HX_B := Lib.hid (HX_B.out.below hb)
  replace HX := Lib.hid (HX.out.below hb)
  replace HY := Lib.hid (HY.out.below hb)
  replace HB := Lib.hid (HB.out.trans (hb.mono hs0))
  replace hN : N ≤ w0.heap.size := Nat.le_trans hN hb.size
  replace hs0 : w.heap.size ≤ w0.heap.size := Nat.le_trans hs0 hb.size
  replace hl_A : w.heap.size < w0.heap.size := Nat.lt_of_lt_of_le hl_A hb.size
  replace hl_B : w.heap.size + 1 < w0.heap.size := Nat.lt_of_lt_of_le hl_B hb.size
  replace HA := Lib.hid (HA.out.below hb)
  clear hb
  have HR0 := Lib.hid (Rw.bs hl (by unfold maxLen; omega))
  clear hl
  go_wp2_with fail
  refine calls_name fun V1 hW => ?_
  have HL_V1 := Lib.hid (show Below w0.heap.size w0 V1 by rw [← hW]; exact BlA)
  have hs_V1 : w0.heap.size ≤ V1.heap.size := by rw [← hW]; (first | omega | (simp; done) | (simp; omega))
  have HK_V1 := Lib.hid (show Kp N w0 V1 by rw [← hW]; exact KpA)
  replace k_A_0 : V1.cell? ⟨w.heap.size, 0, none⟩ = some (.bool s2) := (HL_V1.out.cell (p := ⟨w.heap.size, 0, none⟩) hl_A).trans k_A_0
  replace k_A_1 : V1.cell? ⟨w.heap.size, 1, none⟩ = some (.slice a2 na2 ca2) := (HL_V1.out.cell (p := ⟨w.heap.size, 1, none⟩) hl_A).trans k_A_1
  replace k_A_2 : V1.cell? ⟨w.heap.size, 2, none⟩ = some (.slice d2 nd2 cd2) := (HL_V1.out.cell (p := ⟨w.heap.size, 2, none⟩) hl_A).trans k_A_2
  replace f_A : ∀ o, V1.frozen? ⟨w.heap.size, o, none⟩ = false := fun o => (HL_V1.out.frozen (p := ⟨w.heap.size, o, none⟩) hl_A).trans (f_A o)
  replace HX_A := Lib.hid (show Bn V1 (w.heap.size) by rw [← hW]; exact KpA)
  replace k_B_0 : V1.cell? ⟨w.heap.size + 1, 0, none⟩ = some (.bool s3) := (HL_V1.out.cell (p := ⟨w.heap.size + 1, 0, none⟩) hl_B).trans k_B_0
  replace k_B_1 : V1.cell? ⟨w.heap.size + 1, 1, none⟩ = some (.slice a3 na3 ca3) := (HL_V1.out.cell (p := ⟨w.heap.size + 1, 1, none⟩) hl_B).trans k_B_1
  replace k_B_2 : V1.cell? ⟨w.heap.size + 1, 2, none⟩ = some (.slice d3 nd3 cd3) := (HL_V1.out.cell (p := ⟨w.heap.size + 1, 2, none⟩) hl_B).trans k_B_2
  replace f_B : ∀ o, V1.frozen? ⟨w.heap.size + 1, o, none⟩ = false := fun o => (HL_V1.out.frozen (p := ⟨w.heap.size + 1, o, none⟩) hl_B).trans (f_B o)
  replace HX_B := Lib.hid (show Bn V1 (w.heap.size + 1) by rw [← hW]; exact KpA)
  replace HX := Lib.hid (HX.out.keep HK_V1.out)
  replace HY := Lib.hid (HY.out.keep HK_V1.out)
  replace HB := Lib.hid (show Below w.heap.size w V1 by rw [← hW]; exact BlA)
  replace hN : N ≤ V1.heap.size := by rw [← hW]; (first | omega | (simp; done) | (simp; omega))
  replace hs0 : w.heap.size ≤ V1.heap.size := by rw [← hW]; (first | omega | (simp; done) | (simp; omega))
  replace hl_A : w.heap.size < V1.heap.size := by rw [← hW]; (first | omega | (simp; done) | (simp; omega))
  replace hl_B : w.heap.size + 1 < V1.heap.size := by rw [← hW]; (first | omega | (simp; done) | (simp; omega))
  replace HA := Lib.hid (HA.out.below HL_V1.out)
  replace HR0 := Lib.hid (HR0.out.below HL_V1.out)
  clear HL_V1
  clear hW HK_V1
  refine (bonf_ok (N := N) _ n _ q _ _ _ _ _ _ _ L be _ hN HA.out HY.out hL HC2.out).mono ?_
  rintro e w1 ⟨b1, rfl, bl1, bh1, hl, hb⟩
  have hs_w1 : V1.heap.size ≤ w1.heap.size := hb.size
  replace k_A_0 : w1.cell? ⟨w.heap.size, 0, none⟩ = some (.bool s2) := (hb.cell (p := ⟨w.heap.size, 0, none⟩) hl_A).trans k_A_0
  replace k_A_1 : w1.cell? ⟨w.heap.size, 1, none⟩ = some (.slice a2 na2 ca2) := (hb.cell (p := ⟨w.heap.size, 1, none⟩) hl_A).trans k_A_1
  replace k_A_2 : w1.cell? ⟨w.heap.size, 2, none⟩ = some (.slice d2 nd2 cd2) := (hb.cell (p := ⟨w.heap.size, 2, none⟩) hl_A).trans k_A_2
  replace f_A : ∀ o, w1.frozen? ⟨w.heap.size, o, none⟩ = false := fun o => (hb.frozen (p := ⟨w.heap.size, o, none⟩) hl_A).trans (f_A o)
  replace HX_A := Lib.hid (HX_A.out.below hb)
  replace k_B_0 : w1.cell? ⟨w.heap.size + 1, 0, none⟩ = some (.bool s3) := (hb.cell (p := ⟨w.heap.size + 1, 0, none⟩) hl_B).trans k_B_0
  replace k_B_1 : w1.cell? ⟨w.heap.size + 1, 1, none⟩ = some (.slice a3 na3 ca3) := (hb.cell (p := ⟨w.heap.size + 1, 1, none⟩) hl_B).trans k_B_1
  replace k_B_2 : w1.cell? ⟨w.heap.size + 1, 2, none⟩ = some (.slice d3 nd3 cd3) := (hb.cell (p := ⟨w.heap.size + 1, 2, none⟩) hl_B).trans k_B_2
  replace f_B : ∀ o, w1.frozen? ⟨w.heap.size + 1, o, none⟩ = false := fun o => (hb.frozen (p := ⟨w.heap.size + 1, o, none⟩) hl_B).trans (f_B o)
  replace HX_B := Lib.hid (HX_B.out.below hb)
  replace HX := Lib.hid (HX.out.below hb)
  replace HY := Lib.hid (HY.out.below hb)
  replace HB := Lib.hid (HB.out.trans (hb.mono hs0))
  replace hN : N ≤ w1.heap.size := Nat.le_trans hN hb.size
  replace hs0 : w.heap.size ≤ w1.heap.size := Nat.le_trans hs0 hb.size
  replace hl_A : w.heap.size < w1.heap.size := Nat.lt_of_lt_of_le hl_A hb.size
  replace hl_B : w.heap.size + 1 < w1.heap.size := Nat.lt_of_lt_of_le hl_B hb.size
  replace HA := Lib.hid (HA.out.below hb)
  replace HR0 := Lib.hid (HR0.out.below hb)
  clear hb
  have HR1 := Lib.hid (Rw.bs hl (by unfold maxLen; omega))
  clear hl
  go_wp2_with fail
  refine calls_name fun V2 hW => ?_
  have HL_V2 := Lib.hid (show Below w1.heap.size w1 V2 by rw [← hW]; exact BlA)
  have hs_V2 : w1.heap.size ≤ V2.heap.size := by rw [← hW]; (first | omega | (simp; done) | (simp; omega))
  have HK_V2 := Lib.hid (show Kp N w1 V2 by rw [← hW]; exact KpA)
  replace k_A_0 : V2.cell? ⟨w.heap.size, 0, none⟩ = some (.bool s2) := (HL_V2.out.cell (p := ⟨w.heap.size, 0, none⟩) hl_A).trans k_A_0
  replace k_A_1 : V2.cell? ⟨w.heap.size, 1, none⟩ = some (.slice a2 na2 ca2) := (HL_V2.out.cell (p := ⟨w.heap.size, 1, none⟩) hl_A).trans k_A_1
  replace k_A_2 : V2.cell? ⟨w.heap.size, 2, none⟩ = some (.slice d2 nd2 cd2) := (HL_V2.out.cell (p := ⟨w.heap.size, 2, none⟩) hl_A).trans k_A_2
  replace f_A : ∀ o, V2.frozen? ⟨w.heap.size, o, none⟩ = false := fun o => (HL_V2.out.frozen (p := ⟨w.heap.size, o, none⟩) hl_A).trans (f_A o)
  replace HX_A := Lib.hid (show Bn V2 (w.heap.size) by rw [← hW]; exact KpA)
  replace k_B_0 : V2.cell? ⟨w.heap.size + 1, 0, none⟩ = some (.bool s3) := (HL_V2.out.cell (p := ⟨w.heap.size + 1, 0, none⟩) hl_B).trans k_B_0
  replace k_B_1 : V2.cell? ⟨w.heap.size + 1, 1, none⟩ = some (.slice a3 na3 ca3) := (HL_V2.out.cell (p := ⟨w.heap.size + 1, 1, none⟩) hl_B).trans k_B_1
  replace k_B_2 : V2.cell? ⟨w.heap.size + 1, 2, none⟩ = some (.slice d3 nd3 cd3) := (HL_V2.out.cell (p := ⟨w.heap.size + 1, 2, none⟩) hl_B).trans k_B_2
  replace f_B : ∀ o, V2.frozen? ⟨w.heap.size + 1, o, none⟩ = false := fun o => (HL_V2.out.frozen (p := ⟨w.heap.size + 1, o, none⟩) hl_B).trans (f_B o)
  replace HX_B := Lib.hid (show Bn V2 (w.heap.size + 1) by rw [← hW]; exact KpA)
  replace HX := Lib.hid (HX.out.keep HK_V2.out)
  replace HY := Lib.hid (HY.out.keep HK_V2.out)
  replace HB := Lib.hid (show Below w.heap.size w V2 by rw [← hW]; exact BlA)
  replace hN : N ≤ V2.heap.size := by rw [← hW]; (first | omega | (simp; done) | (simp; omega))
  replace hs0 : w.heap.size ≤ V2.heap.size := by rw [← hW]; (first | omega | (simp; done) | (simp; omega))
  replace hl_A : w.heap.size < V2.heap.size := by rw [← hW]; (first | omega | (simp; done) | (simp; omega))
  replace hl_B : w.heap.size + 1 < V2.heap.size := by rw [← hW]; (first | omega | (simp; done) | (simp; omega))
  replace HA := Lib.hid (HA.out.below HL_V2.out)
  replace HR0 := Lib.hid (HR0.out.below HL_V2.out)
  replace HR1 := Lib.hid (HR1.out.below HL_V2.out)
  clear HL_V2
  clear hW HK_V2
  refine (holm_ok (N := N) _ n _ q _ _ _ _ _ _ _ L al _ hN HA.out HX.out hL HC1.out).mono ?_
  rintro e w2 ⟨b2, rfl, bl2, bh2, hl, hb⟩
  have hs_w2 : V2.heap.size ≤ w2.heap.size := hb.size
  replace k_A_0 : w2.cell? ⟨w.heap.size, 0, none⟩ = some (.bool s2) := (hb.cell (p := ⟨w.heap.size, 0, none⟩) hl_A).trans k_A_0
  replace k_A_1 : w2.cell? ⟨w.heap.size, 1, none⟩ = some (.slice a2 na2 ca2) := (hb.cell (p := ⟨w.heap.size, 1, none⟩) hl_A).trans k_A_1
  replace k_A_2 : w2.cell? ⟨w.heap.size, 2, none⟩ = some (.slice d2 nd2 cd2) := (hb.cell (p := ⟨w.heap.size, 2, none⟩) hl_A).trans k_A_2
  replace f_A : ∀ o, w2.frozen? ⟨w.heap.size, o, none⟩ = false := fun o => (hb.frozen (p := ⟨w.heap.size, o, none⟩) hl_A).trans (f_A o)
  replace HX_A := Lib.hid (HX_A.out.below hb)
  replace k_B_0 : w2.cell? ⟨w.heap.size + 1, 0, none⟩ = some (.bool s3) := (hb.cell (p := ⟨w.heap.size + 1, 0, none⟩) hl_B).trans k_B_0
  replace k_B_1 : w2.cell? ⟨w.heap.size + 1, 1, none⟩ = some (.slice a3 na3 ca3) := (hb.cell (p := ⟨w.heap.size + 1, 1, none⟩) hl_B).trans k_B_1
  replace k_B_2 : w2.cell? ⟨w.heap.size + 1, 2, none⟩ = some (.slice d3 nd3 cd3) := (hb.cell (p := ⟨w.heap.size + 1, 2, none⟩) hl_B).trans k_B_2
  replace f_B : ∀ o, w2.frozen? ⟨w.heap.size + 1, o, none⟩ = false := fun o => (hb.frozen (p := ⟨w.heap.size + 1, o, none⟩) hl_B).trans (f_B o)
  replace HX_B := Lib.hid (HX_B.out.below hb)
  replace HX := Lib.hid (HX.out.below hb)
  replace HY := Lib.hid (HY.out.below hb)
  replace HB := Lib.hid (HB.out.trans (hb.mono hs0))
  replace hN : N ≤ w2.heap.size := Nat.le_trans hN hb.size
  replace hs0 : w.heap.size ≤ w2.heap.size := Nat.le_trans hs0 hb.size
  replace hl_A : w.heap.size < w2.heap.size := Nat.lt_of_lt_of_le hl_A hb.size
  replace hl_B : w.heap.size + 1 < w2.heap.size := Nat.lt_of_lt_of_le hl_B hb.size
  replace HA := Lib.hid (HA.out.below hb)
  replace HR0 := Lib.hid (HR0.out.below hb)
  replace HR1 := Lib.hid (HR1.out.below hb)
  clear hb
  have HR2 := Lib.hid (Rw.bs hl (by unfold maxLen; omega))
  clear hl
  go_wp2_with fail
  refine calls_name fun V3 hW => ?_
  have HL_V3 := Lib.hid (show Below w2.heap.size w2 V3 by rw [← hW]; exact BlA)
  have hs_V3 : w2.heap.size ≤ V3.heap.size := by rw [← hW]; (first | omega | (simp; done) | (simp; omega))
  have HK_V3 := Lib.hid (show Kp N w2 V3 by rw [← hW]; exact KpA)
  replace k_A_0 : V3.cell? ⟨w.heap.size, 0, none⟩ = some (.bool s2) := (HL_V3.out.cell (p := ⟨w.heap.size, 0, none⟩) hl_A).trans k_A_0
  replace k_A_1 : V3.cell? ⟨w.heap.size, 1, none⟩ = some (.slice a2 na2 ca2) := (HL_V3.out.cell (p := ⟨w.heap.size, 1, none⟩) hl_A).trans k_A_1
  replace k_A_2 : V3.cell? ⟨w.heap.size, 2, none⟩ = some (.slice d2 nd2 cd2) := (HL_V3.out.cell (p := ⟨w.heap.size, 2, none⟩) hl_A).trans k_A_2
  replace f_A : ∀ o, V3.frozen? ⟨w.heap.size, o, none⟩ = false := fun o => (HL_V3.out.frozen (p := ⟨w.heap.size, o, none⟩) hl_A).trans (f_A o)
  replace HX_A := Lib.hid (show Bn V3 (w.heap.size) by rw [← hW]; exact KpA)
  replace k_B_0 : V3.cell? ⟨w.heap.size + 1, 0, none⟩ = some (.bool s3) := (HL_V3.out.cell (p := ⟨w.heap.size + 1, 0, none⟩) hl_B).trans k_B_0
  replace k_B_1 : V3.cell? ⟨w.heap.size + 1, 1, none⟩ = some (.slice a3 na3 ca3) := (HL_V3.out.cell (p := ⟨w.heap.size + 1, 1, none⟩) hl_B).trans k_B_1
  replace k_B_2 : V3.cell? ⟨w.heap.size + 1, 2, none⟩ = some (.slice d3 nd3 cd3) := (HL_V3.out.cell (p := ⟨w.heap.size + 1, 2, none⟩) hl_B).trans k_B_2
  replace f_B : ∀ o, V3.frozen? ⟨w.heap.size + 1, o, none⟩ = false := fun o => (HL_V3.out.frozen (p := ⟨w.heap.size + 1, o, none⟩) hl_B).trans (f_B o)
  replace HX_B := Lib.hid (show Bn V3 (w.heap.size + 1) by rw [← hW]; exact KpA)
  replace HX := Lib.hid (HX.out.keep HK_V3.out)
  replace HY := Lib.hid (HY.out.keep HK_V3.out)
  replace HB := Lib.hid (show Below w.heap.size w V3 by rw [← hW]; exact BlA)
  replace hN : N ≤ V3.heap.size := by rw [← hW]; (first | omega | (simp; done) | (simp; omega))
  replace hs0 : w.heap.size ≤ V3.heap.size := by rw [← hW]; (first | omega | (simp; done) | (simp; omega))
  replace hl_A : w.heap.size < V3.heap.size := by rw [← hW]; (first | omega | (simp; done) | (simp; omega))
  replace hl_B : w.heap.size + 1 < V3.heap.size := by rw [← hW]; (first | omega | (simp; done) | (simp; omega))
  replace HA := Lib.hid (HA.out.below HL_V3.out)
  replace HR0 := Lib.hid (HR0.out.below HL_V3.out)
  replace HR1 := Lib.hid (HR1.out.below HL_V3.out)
  replace HR2 := Lib.hid (HR2.out.below HL_V3.out)
  clear HL_V3
  clear hW HK_V3
  refine (holm_ok (N := N) _ n _ q _ _ _ _ _ _ _ L be _ hN HA.out HY.out hL HC2.out).mono ?_
  rintro e w3 ⟨b3, rfl, bl3, bh3, hl, hb⟩
  have hs_w3 : V3.heap.size ≤ w3.heap.size := hb.size
  replace k_A_0 : w3.cell? ⟨w.heap.size, 0, none⟩ = some (.bool s2) := (hb.cell (p := ⟨w.heap.size, 0, none⟩) hl_A).trans k_A_0
  replace k_A_1 : w3.cell? ⟨w.heap.size, 1, none⟩ = some (.slice a2 na2 ca2) := (hb.cell (p := ⟨w.heap.size, 1, none⟩) hl_A).trans k_A_1
  replace k_A_2 : w3.cell? ⟨w.heap.size, 2, none⟩ = some (.slice d2 nd2 cd2) := (hb.cell (p := ⟨w.heap.size, 2, none⟩) hl_A).trans k_A_2
  replace f_A : ∀ o, w3.frozen? ⟨w.heap.size, o, none⟩ = false := fun o => (hb.frozen (p := ⟨w.heap.size, o, none⟩) hl_A).trans (f_A o)
  replace HX_A := Lib.hid (HX_A.out.below hb)
  replace k_B_0 : w3.cell? ⟨w.heap.size + 1, 0, none⟩ = some (.bool s3) := (hb.cell (p := ⟨w.heap.size + 1, 0, none⟩) hl_B).trans k_B_0
  replace k_B_1 : w3.cell? ⟨w.heap.size + 1, 1, none⟩ = some (.slice a3 na3 ca3) := (hb.cell (p := ⟨w.heap.size + 1, 1, none⟩) hl_B).trans k_B_1
  replace k_B_2 : w3.cell? ⟨w.heap.size + 1, 2, none⟩ = some (.slice d3 nd3 cd3) := (hb.cell (p := ⟨w.heap.size + 1, 2, none⟩) hl_B).trans k_B_2
  replace f_B : ∀ o, w3.frozen? ⟨w.heap.size + 1, o, none⟩ = false := fun o => (hb.frozen (p := ⟨w.heap.size + 1, o, none⟩) hl_B).trans (f_B o)
  replace HX_B := Lib.hid (HX_B.out.below hb)
  replace HX := Lib.hid (HX.out.below hb)
  replace HY := Lib.hid (HY.out.below hb)
  replace HB := Lib.hid (HB.out.trans (hb.mono hs0))
  replace hN : N ≤ w3.heap.size := Nat.le_trans hN hb.size
  replace hs0 : w.heap.size ≤ w3.heap.size := Nat.le_trans hs0 hb.size
  replace hl_A : w.heap.size < w3.heap.size := Nat.lt_of_lt_of_le hl_A hb.size
  replace hl_B : w.heap.size + 1 < w3.heap.size := Nat.lt_of_lt_of_le hl_B hb.size
  replace HA := Lib.hid (HA.out.below hb)
  replace HR0 := Lib.hid (HR0.out.below hb)
  replace HR1 := Lib.hid (HR1.out.below hb)
  replace HR2 := Lib.hid (HR2.out.below hb)
  clear hb
  have HR3 := Lib.hid (Rw.bs hl (by unfold maxLen; omega))
  clear hl
  go_wp2_with fail
  refine calls_name fun V4 hW => ?_
  have HL_V4 := Lib.hid (show Below w3.heap.size w3 V4 by rw [← hW]; exact BlA)
  have hs_V4 : w3.heap.size ≤ V4.heap.size := by rw [← hW]; (first | omega | (simp; done) | (simp; omega))
  have HK_V4 := Lib.hid (show Kp N w3 V4 by rw [← hW]; exact KpA)
  replace k_A_0 : V4.cell? ⟨w.heap.size, 0, none⟩ = some (.bool s2) := (HL_V4.out.cell (p := ⟨w.heap.size, 0, none⟩) hl_A).trans k_A_0
  replace k_A_1 : V4.cell? ⟨w.heap.size, 1, none⟩ = some (.slice a2 na2 ca2) := (HL_V4.out.cell (p := ⟨w.heap.size, 1, none⟩) hl_A).trans k_A_1
  replace k_A_2 : V4.cell? ⟨w.heap.size, 2, none⟩ = some (.slice d2 nd2 cd2) := (HL_V4.out.cell (p := ⟨w.heap.size, 2, none⟩) hl_A).trans k_A_2
  replace f_A : ∀ o, V4.frozen? ⟨w.heap.size, o, none⟩ = false := fun o => (HL_V4.out.frozen (p := ⟨w.heap.size, o, none⟩) hl_A).trans (f_A o)
  replace HX_A := Lib.hid (show Bn V4 (w.heap.size) by rw [← hW]; exact KpA)
  replace k_B_0 : V4.cell? ⟨w.heap.size + 1, 0, none⟩ = some (.bool s3) := (HL_V4.out.cell (p := ⟨w.heap.size + 1, 0, none⟩) hl_B).trans k_B_0
  replace k_B_1 : V4.cell? ⟨w.heap.size + 1, 1, none⟩ = some (.slice a3 na3 ca3) := (HL_V4.out.cell (p := ⟨w.heap.size + 1, 1, none⟩) hl_B).trans k_B_1
  replace k_B_2 : V4.cell? ⟨w.heap.size + 1, 2, none⟩ = some (.slice d3 nd3 cd3) := (HL_V4.out.cell (p := ⟨w.heap.size + 1, 2, none⟩) hl_B).trans k_B_2
  replace f_B : ∀ o, V4.frozen? ⟨w.heap.size + 1, o, none⟩ = false := fun o => (HL_V4.out.frozen (p := ⟨w.heap.size + 1, o, none⟩) hl_B).trans (f_B o)
  replace HX_B := Lib.hid (show Bn V4 (w.heap.size + 1) by rw [← hW]; exact KpA)
  replace HX := Lib.hid (HX.out.keep HK_V4.out)
  replace HY := Lib.hid (HY.out.keep HK_V4.out)
  replace HB := Lib.hid (show Below w.heap.size w V4 by rw [← hW]; exact BlA)
  replace hN : N ≤ V4.heap.size := by rw [← hW]; (first | omega | (simp; done) | (simp; omega))
  replace hs0 : w.heap.size ≤ V4.heap.size := by rw [← hW]; (first | omega | (simp; done) | (simp; omega))
  replace hl_A : w.heap.size < V4.heap.size := by rw [← hW]; (first | omega | (simp; done) | (simp; omega))
  replace hl_B : w.heap.size + 1 < V4.heap.size := by rw [← hW]; (first | omega | (simp; done) | (simp; omega))
  replace HA := Lib.hid (HA.out.below HL_V4.out)
  replace HR0 := Lib.hid (HR0.out.below HL_V4.out)
  replace HR1 := Lib.hid (HR1.out.below HL_V4.out)
  replace HR2 := Lib.hid (HR2.out.below HL_V4.out)
  replace HR3 := Lib.hid (HR3.out.below HL_V4.out)
  clear HL_V4
  clear hW HK_V4
  refine (lwithin_any _ _ n _ _ _ _ _ HR0.out HR1.out (fun i hi hf => bon_up HXY.out hf)).mono ?_
  rintro e w4 ⟨rfl, hb⟩
  have hs_w4 : V4.heap.size ≤ w4.heap.size := hb.size
  replace k_A_0 : w4.cell? ⟨w.heap.size, 0, none⟩ = some (.bool s2) := (hb.cell (p := ⟨w.heap.size, 0, none⟩) hl_A).trans k_A_0
  replace k_A_1 : w4.cell? ⟨w.heap.size, 1, none⟩ = some (.slice a2 na2 ca2) := (hb.cell (p := ⟨w.heap.size, 1, none⟩) hl_A).trans k_A_1
  replace k_A_2 : w4.cell? ⟨w.heap.size, 2, none⟩ = some (.slice d2 nd2 cd2) := (hb.cell (p := ⟨w.heap.size, 2, none⟩) hl_A).trans k_A_2
  replace f_A : ∀ o, w4.frozen? ⟨w.heap.size, o, none⟩ = false := fun o => (hb.frozen (p := ⟨w.heap.size, o, none⟩) hl_A).trans (f_A o)
  replace HX_A := Lib.hid (HX_A.out.below hb)
  replace k_B_0 : w4.cell? ⟨w.heap.size + 1, 0, none⟩ = some (.bool s3) := (hb.cell (p := ⟨w.heap.size + 1, 0, none⟩) hl_B).trans k_B_0
  replace k_B_1 : w4.cell? ⟨w.heap.size + 1, 1, none⟩ = some (.slice a3 na3 ca3) := (hb.cell (p := ⟨w.heap.size + 1, 1, none⟩) hl_B).trans k_B_1
  replace k_B_2 : w4.cell? ⟨w.heap.size + 1, 2, none⟩ = some (.slice d3 nd3 cd3) := (hb.cell (p := ⟨w.heap.size + 1, 2, none⟩) hl_B).trans k_B_2
  replace f_B : ∀ o, w4.frozen? ⟨w.heap.size + 1, o, none⟩ = false := fun o => (hb.frozen (p := ⟨w.heap.size + 1, o, none⟩) hl_B).trans (f_B o)
  replace HX_B := Lib.hid (HX_B.out.below hb)
  replace HX := Lib.hid (HX.out.below hb)
  replace HY := Lib.hid (HY.out.below hb)
  replace HB := Lib.hid (HB.out.trans (hb.mono hs0))
  replace hN : N ≤ w4.heap.size := Nat.le_trans hN hb.size
  replace hs0 : w.heap.size ≤ w4.heap.size := Nat.le_trans hs0 hb.size
  replace hl_A : w.heap.size < w4.heap.size := Nat.lt_of_lt_of_le hl_A hb.size
  replace hl_B : w.heap.size + 1 < w4.heap.size := Nat.lt_of_lt_of_le hl_B hb.size
  replace HA := Lib.hid (HA.out.below hb)
  replace HR0 := Lib.hid (HR0.out.below hb)
  replace HR1 := Lib.hid (HR1.out.below hb)
  replace HR2 := Lib.hid (HR2.out.below hb)
  replace HR3 := Lib.hid (HR3.out.below hb)
  clear hb
  clear HR0
  clear HR1
  go_wp2_with fail
  refine calls_name fun V5 hW => ?_
  have HL_V5 := Lib.hid (show Below w4.heap.size w4 V5 by rw [← hW]; exact BlA)
  have hs_V5 : w4.heap.size ≤ V5.heap.size := by rw [← hW]; (first | omega | (simp; done) | (simp; omega))
  have HK_V5 := Lib.hid (show Kp N w4 V5 by rw [← hW]; exact KpA)
  replace k_A_0 : V5.cell? ⟨w.heap.size, 0, none⟩ = some (.bool s2) := (HL_V5.out.cell (p := ⟨w.heap.size, 0, none⟩) hl_A).trans k_A_0
  replace k_A_1 : V5.cell? ⟨w.heap.size, 1, none⟩ = some (.slice a2 na2 ca2) := (HL_V5.out.cell (p := ⟨w.heap.size, 1, none⟩) hl_A).trans k_A_1
  replace k_A_2 : V5.cell? ⟨w.heap.size, 2, none⟩ = some (.slice d2 nd2 cd2) := (HL_V5.out.cell (p := ⟨w.heap.size, 2, none⟩) hl_A).trans k_A_2
  replace f_A : ∀ o, V5.frozen? ⟨w.heap.size, o, none⟩ = false := fun o => (HL_V5.out.frozen (p := ⟨w.heap.size, o, none⟩) hl_A).trans (f_A o)
  replace HX_A := Lib.hid (show Bn V5 (w.heap.size) by rw [← hW]; exact KpA)
  replace k_B_0 : V5.cell? ⟨w.heap.size + 1, 0, none⟩ = some (.bool s3) := (HL_V5.out.cell (p := ⟨w.heap.size + 1, 0, none⟩) hl_B).trans k_B_0
  replace k_B_1 : V5.cell? ⟨w.heap.size + 1, 1, none⟩ = some (.slice a3 na3 ca3) := (HL_V5.out.cell (p := ⟨w.heap.size + 1, 1, none⟩) hl_B).trans k_B_1
  replace k_B_2 : V5.cell? ⟨w.heap.size + 1, 2, none⟩ = some (.slice d3 nd3 cd3) := (HL_V5.out.cell (p := ⟨w.heap.size + 1, 2, none⟩) hl_B).trans k_B_2
  replace f_B : ∀ o, V5.frozen? ⟨w.heap.size + 1, o, none⟩ = false := fun o => (HL_V5.out.frozen (p := ⟨w.heap.size + 1, o, none⟩) hl_B).trans (f_B o)
  replace HX_B := Lib.hid (show Bn V5 (w.heap.size + 1) by rw [← hW]; exact KpA)
  replace HX := Lib.hid (HX.out.keep HK_V5.out)
  replace HY := Lib.hid (HY.out.keep HK_V5.out)
  replace HB := Lib.hid (show Below w.heap.size w V5 by rw [← hW]; exact BlA)
  replace hN : N ≤ V5.heap.size := by rw [← hW]; (first | omega | (simp; done) | (simp; omega))
  replace hs0 : w.heap.size ≤ V5.heap.size := by rw [← hW]; (first | omega | (simp; done) | (simp; omega))
  replace hl_A : w.heap.size < V5.heap.size := by rw [← hW]; (first | omega | (simp; done) | (simp; omega))
  replace hl_B : w.heap.size + 1 < V5.heap.size := by rw [← hW]; (first | omega | (simp; done) | (simp; omega))
  replace HA := Lib.hid (HA.out.below HL_V5.out)
  replace HR2 := Lib.hid (HR2.out.below HL_V5.out)
  replace HR3 := Lib.hid (HR3.out.below HL_V5.out)
  clear HL_V5
  clear hW HK_V5
  refine (lwithin_any _ _ n _ _ _ _ _ HR2.out HR3.out (fun i hi hf => hol_up HXY.out hf)).mono ?_
  rintro e w5 ⟨rfl, hb⟩
  have hs_w5 : V5.heap.size ≤ w5.heap.size := hb.size
  replace k_A_0 : w5.cell? ⟨w.heap.size, 0, none⟩ = some (.bool s2) := (hb.cell (p := ⟨w.heap.size, 0, none⟩) hl_A).trans k_A_0
  replace k_A_1 : w5.cell? ⟨w.heap.size, 1, none⟩ = some (.slice a2 na2 ca2) := (hb.cell (p := ⟨w.heap.size, 1, none⟩) hl_A).trans k_A_1
  replace k_A_2 : w5.cell? ⟨w.heap.size, 2, none⟩ = some (.slice d2 nd2 cd2) := (hb.cell (p := ⟨w.heap.size, 2, none⟩) hl_A).trans k_A_2
  replace f_A : ∀ o, w5.frozen? ⟨w.heap.size, o, none⟩ = false := fun o => (hb.frozen (p := ⟨w.heap.size, o, none⟩) hl_A).trans (f_A o)
  replace HX_A := Lib.hid (HX_A.out.below hb)
  replace k_B_0 : w5.cell? ⟨w.heap.size + 1, 0, none⟩ = some (.bool s3) := (hb.cell (p := ⟨w.heap.size + 1, 0, none⟩) hl_B).trans k_B_0
  replace k_B_1 : w5.cell? ⟨w.heap.size + 1, 1, none⟩ = some (.slice a3 na3 ca3) := (hb.cell (p := ⟨w.heap.size + 1, 1, none⟩) hl_B).trans k_B_1
  replace k_B_2 : w5.cell? ⟨w.heap.size + 1, 2, none⟩ = some (.slice d3 nd3 cd3) := (hb.cell (p := ⟨w.heap.size + 1, 2, none⟩) hl_B).trans k_B_2
  replace f_B : ∀ o, w5.frozen? ⟨w.heap.size + 1, o, none⟩ = false := fun o => (hb.frozen (p := ⟨w.heap.size + 1, o, none⟩) hl_B).trans (f_B o)
  replace HX_B := Lib.hid (HX_B.out.below hb)
  replace HX := Lib.hid (HX.out.below hb)
  replace HY := Lib.hid (HY.out.below hb)
  replace HB := Lib.hid (HB.out.trans (hb.mono hs0))
  replace hN : N ≤ w5.heap.size := Nat.le_trans hN hb.size
  replace hs0 : w.heap.size ≤ w5.heap.size := Nat.le_trans hs0 hb.size
  replace hl_A : w.heap.size < w5.heap.size := Nat.lt_of_lt_of_le hl_A hb.size
  replace hl_B : w.heap.size + 1 < w5.heap.size := Nat.lt_of_lt_of_le hl_B hb.size
  replace HA := Lib.hid (HA.out.below hb)
  replace HR2 := Lib.hid (HR2.out.below hb)
  replace HR3 := Lib.hid (HR3.out.below hb)
  clear hb
  clear HR3
  clear hl_B f_B HX_B k_B_0 k_B_1 k_B_2
  clear HY
  obtain ⟨i0, hi, hzz⟩ := Option.map_eq_some_iff.1 Tryd.infoRat
  simp only [Prod.mk.injEq] at hzz
  obtain ⟨hz0, hz1, hz2⟩ := hzz
  go_wp2_with fail
  have hN5 := hN
  go_loopw [15, 16] (fun v i wr => ∃ (j : Nat) (z : Int), j ≤ n ∧ i = .int .i64 z ∧ z = (n : Int) - 1 - (j : Int) ∧ Oe N w5.heap.size wr v j (fun k => q (n - 1 - k)) L ∧ Below w5.heap.size w5 wr) (fun _ i _ => (intOf i + 1).toNat)
  case atStart => exact ⟨0, _, Nat.zero_le _, rfl, by omega, Oe.start _ _ _ _ _ (Nat.le_refl _), bel1 _ _⟩
  case round =>
    obtain ⟨j, z, hj, rfl, hz, hoe, hbel⟩ := hrel
    have HOE := Lib.hid hoe
    have HBJ := Lib.hid hbel
    have hsj := hbel.size
    clear hoe
    by_cases hjn : j < n
    · obtain ⟨m, rfl⟩ : ∃ m : Nat, z = (m : Int) := ⟨z.toNat, by omega⟩
      have hmn : m < n := by omega
      have hmz : (m : Int) < (n : Int) := by omega
      have hmj : n - 1 - j = m := by omega
      have HM := Lib.hid hmj
      have HJM := Lib.hid hz
      clear hz hmj
      obtain ⟨b0, off, rfl, ho⟩ := (HA.out.below hbel).2.2 (by omega)
      obtain ⟨sk, ra, rn, rc, da, dn, dc, g0, g1, g2, hrt⟩ := ho m hmn
      have HR := Lib.hid hrt
      clear ho hrt hbel
      obtain ⟨xs, hown, hcl⟩ := HOE.out
      have HO := Lib.hid hown
      have HC := Lib.hid hcl
      clear hown hcl
      have hwm1 : IntKind.i64.wrap ((m : Int) - 1) = (m : Int) - 1 := by rw [IntKind.wrap_i64]; omega
      go_wp2_with (at_builtin; refine wpList_append_own_at _ rfl (.tmp 92) (.tmp 97) 23 rfl w5.heap.size 30 i0 (.agg #[.bool false, .slice none 0 0, .slice none 0 0]) 3 56 Tryd.underRats hi hz0 hz1 hz2 rfl (by decide) _ j xs rfl (HO.out.alloc _) ⟨wr.heap.size, 0, none⟩ 1 1 [.bool sk, .slice ra rn rc, .slice da dn dc] rfl rfl (cell_threeD wr _ _ _ _) (by intro u hu; simp at hu; rcases hu with rfl | rfl | rfl <;> rfl) (by unfold maxLen; omega) (by omega) (by simp; omega) ?_; intro v1 w1 ho1 hg1 _ _; have KP1 := Lib.hid ((Kp.refl N wr).alloc (.cells #[.bool sk, .slice ra rn rc, .slice da dn dc] 30) |>.trans (own_kpD (HO.out.alloc _) hN5 hg1)); have HB1 := Lib.hid (own_bel (HO.out.alloc _) (HBJ.out.alloc hsj _) (by simp; omega) hg1); have HO1 := Lib.hid ho1; have HC1 := Lib.hid (Cl.push (HC.out.imp fun i v0 v1 v2 _ e => e.keepD KP1.out) (show Er N w1 (fun k => q (n - 1 - k)) L j _ _ _ from ⟨_, _, _, _, _, _, _, rfl, rfl, rfl, by dsimp only; rw [HM.out]; exact HR.out.keep KP1.out⟩)); clear ho1 hg1)
      have hz := HJM.out
      go_roundw
      case rel => exact ⟨j + 1, (m : Int) - 1, by omega, by go_num, by omega, ⟨_, HO1.out, HC1.out⟩, HB1.out⟩
      case measure => (first | (simp [intOf]; done) | (simp [intOf]; omega))
    · obtain rfl : n = j := by omega
      obtain rfl : z = -1 := by omega
      obtain ⟨xs, hown, hcl⟩ := HOE.out
      obtain ⟨ao, co, rfl, hrs⟩ := Cl.rs hown hcl
      have HRs := Lib.hid hrs
      have bco := hrs.1
      have bmo := hrs.2.1
      unfold maxLen at bmo
      clear hown hcl hrs HOE hz
      have hl_A' : w.heap.size < wr.heap.size := Nat.lt_of_lt_of_le hl_A hbel.size
      have k_A_0' : wr.cell? ⟨w.heap.size, 0, none⟩ = some (.bool s2) := (hbel.cell (p := ⟨w.heap.size, 0, none⟩) hl_A).trans k_A_0
      have k_A_1' : wr.cell? ⟨w.heap.size, 1, none⟩ = some (.slice a2 na2 ca2) := (hbel.cell (p := ⟨w.heap.size, 1, none⟩) hl_A).trans k_A_1
      have k_A_2' : wr.cell? ⟨w.heap.size, 2, none⟩ = some (.slice d2 nd2 cd2) := (hbel.cell (p := ⟨w.heap.size, 2, none⟩) hl_A).trans k_A_2
      have f_A' : ∀ o, wr.frozen? ⟨w.heap.size, o, none⟩ = false := fun o => (hbel.frozen (p := ⟨w.heap.size, o, none⟩) hl_A).trans (f_A o)
      have HX_A' := Lib.hid (HX_A.out.below hbel)
      clear hl_A f_A HX_A k_A_0 k_A_1 k_A_2
      have hl_A := hl_A'
      have f_A := f_A'
      have HX_A := HX_A'
      have k_A_0 := k_A_0'
      have k_A_1 := k_A_1'
      have k_A_2 := k_A_2'
      clear hl_A' f_A' HX_A' k_A_0' k_A_1' k_A_2'
      have HA' := Lib.hid (HA.out.below hbel)
      have HR2' := Lib.hid (HR2.out.below hbel)
      have HX' := Lib.hid (HX.out.below hbel)
      clear HA HR2 HX
      have HA := HA'
      have HR2 := HR2'
      have HX := HX'
      clear HA' HR2' HX'
      have HB' := Lib.hid (HB.out.trans (hbel.mono hs0))
      have hN' : N ≤ wr.heap.size := by have := hbel.size; omega
      have hs0' : w.heap.size ≤ wr.heap.size := by have := hbel.size; omega
      clear HB hN hs0
      have HB := HB'
      have hN := hN'
      have hs0 := hs0'
      clear HB' hN' hs0'
      clear hbel
      have HCR := Lib.hid (show chkC (fun k => q (n - 1 - k)) n al = 0 by
        obtain ⟨h1, h2, h3⟩ := chk_ok HC1.out
        unfold chkC
        rw [if_neg (by omega), if_pos ⟨fun j hj => h2 _ (by omega), h3⟩])
      go_wp2_with fail
      refine (holm_ok (N := N) _ n _ (fun k => q (n - 1 - k)) _ _ _ _ _ _ _ L al _ hN HRs.out HX.out hL HCR.out).mono ?_
      rintro e w7 ⟨b7, rfl, bl7, bh7, hl, hb⟩
      have hs_w7 : wr.heap.size ≤ w7.heap.size := hb.size
      replace k_A_0 : w7.cell? ⟨w.heap.size, 0, none⟩ = some (.bool s2) := (hb.cell (p := ⟨w.heap.size, 0, none⟩) hl_A).trans k_A_0
      replace k_A_1 : w7.cell? ⟨w.heap.size, 1, none⟩ = some (.slice a2 na2 ca2) := (hb.cell (p := ⟨w.heap.size, 1, none⟩) hl_A).trans k_A_1
      replace k_A_2 : w7.cell? ⟨w.heap.size, 2, none⟩ = some (.slice d2 nd2 cd2) := (hb.cell (p := ⟨w.heap.size, 2, none⟩) hl_A).trans k_A_2
      replace f_A : ∀ o, w7.frozen? ⟨w.heap.size, o, none⟩ = false := fun o => (hb.frozen (p := ⟨w.heap.size, o, none⟩) hl_A).trans (f_A o)
      replace HX_A := Lib.hid (HX_A.out.below hb)
      replace HX := Lib.hid (HX.out.below hb)
      replace HB := Lib.hid (HB.out.trans (hb.mono hs0))
      replace hN : N ≤ w7.heap.size := Nat.le_trans hN hb.size
      replace hs0 : w.heap.size ≤ w7.heap.size := Nat.le_trans hs0 hb.size
      replace hl_A : w.heap.size < w7.heap.size := Nat.lt_of_lt_of_le hl_A hb.size
      replace HA := Lib.hid (HA.out.below hb)
      replace HR2 := Lib.hid (HR2.out.below hb)
      replace HRs := Lib.hid (HRs.out.below hb)
      clear hb
      have HR7 := Lib.hid (Rw.bs hl (by unfold maxLen; omega))
      clear hl
      clear HA
      clear HRs
      clear hl_A f_A HX_A k_A_0 k_A_1 k_A_2
      clear HX
      go_wp2_with fail
      go_loopw [18] (fun i wr => ∃ j : Nat, j ≤ n ∧ i = .int .i64 j ∧ Below w7.heap.size w7 wr) (fun i _ => n - (intOf i).toNat)
      case atStart => exact ⟨0, Nat.zero_le _, rfl, Below.refl _ _⟩
      case round =>
        obtain ⟨j, hj, rfl, hbel⟩ := hrel
        have HBJ := Lib.hid hbel
        by_cases hjn : j < n
        · obtain ⟨m, hm⟩ : ∃ m, n - 1 - j = m := ⟨_, rfl⟩
          have hmn : m < n := by omega
          obtain ⟨v, hv⟩ : ∃ v, holQ q n al j = v := ⟨_, rfl⟩
          have hv2 : holQ (fun k => q (n - 1 - k)) n al m = v := by rw [← hm, hol_rev q n al hjn]; exact hv
          obtain ⟨c1, o1, e1, k1⟩ := (HR2.out.below hbel).2.2 (by omega)
          obtain ⟨c7, o7, e7, k7⟩ := (HR7.out.below hbel).2.2 (by omega)
          simp only [Option.some.injEq, Addr.mk.injEq, and_true] at e1 e7
          obtain ⟨rfl, rfl⟩ := e1
          obtain ⟨rfl, rfl⟩ := e7
          have g1 := k1 j hjn
          have g7 := k7 m hmn
          rw [hv, Nat.zero_add] at g1
          rw [hv2, Nat.zero_add] at g7
          have hmz : (m : Int) < (n : Int) := by omega
          have hjz : (j : Int) < (n : Int) := by omega
          have hw1 : IntKind.i64.wrap ((n : Int) - 1) = (n : Int) - 1 := by rw [IntKind.wrap_i64]; omega
          have hw2 : IntKind.i64.wrap ((n : Int) - 1 - (j : Int)) = (m : Int) := by rw [IntKind.wrap_i64]; omega
          have hw3 : IntKind.i64.wrap (m : Int) = (m : Int) := by rw [IntKind.wrap_i64]; omega
          clear k1 k7 hv hv2 hm hbel
          go_wp2_with fail
          go_quiet (fail)
          go_wp2_with fail
          go_roundw
          case rel => exact ⟨j + 1, by omega, by go_num, below_drewN HBJ.out _⟩
          case measure => simp [intOf]; omega
        · obtain rfl : n = j := by omega
          have HB' := Lib.hid (HB.out.trans (hbel.mono hs0))
          have hN' : N ≤ wr.heap.size := by have := hbel.size; omega
          have hs0' : w.heap.size ≤ wr.heap.size := by have := hbel.size; omega
          clear HB hN hs0
          have HB := HB'
          have hN := hN'
          have hs0 := hs0'
          clear HB' hN' hs0'
          clear hbel
          go_wp2_with fail
          refine (dawake_any (N := N) _ hN (HTw.out.below HB.out)).mono ?_
          rintro e wh ⟨rfl, hb⟩
          have hs_wh : wr.heap.size ≤ wh.heap.size := hb.size
          replace HB := Lib.hid (HB.out.trans (hb.mono hs0))
          replace hN : N ≤ wh.heap.size := Nat.le_trans hN hb.size
          replace hs0 : w.heap.size ≤ wh.heap.size := Nat.le_trans hs0 hb.size
          clear hb
          go_wp2_with fail
          go_ret
          exact ⟨rfl, HB.out⟩

set_option maxHeartbeats 8000000 in
set_option maxRecDepth 100000 in
theorem dlev_sA {N : Nat} (a : Option Addr) (n cap : Nat) (q : Nat → Rat) (s2 s3 : Bool) (a2 d2 a3 d3 : Option Addr) (na2 ca2 nd2 cd2 na3 ca3 nd3 cd3 L : Nat) (al be : Rat) (w : World) (hN : N ≤ w.heap.size) (h : Rs N w a n cap q L) (h2 : Rt N w s2 a2 na2 ca2 d2 nd2 cd2 al L) (h3 : Rt N w s3 a3 na3 ca3 d3 nd3 cd3 be L) (hL : L ≤ 2097152) (htab : TabW w) (hsw : decide (be < al) = true) (c1 c2 : Int) (hc1 : chkC q n be = c1) (hc2 : chkC q n al = c2) (h0 : c1 ≠ 0) :
    Calls Tryd.prog 6 #[.slice a n cap, .agg #[.bool s2, .slice a2 na2 ca2, .slice d2 nd2 cd2], .agg #[.bool s3, .slice a3 na3 ca3, .slice d3 nd3 cd3]] w fun e w' => e = .returned (.bool true) ∧ Below w.heap.size w w' := by
  have HC1 := Lib.hid hc1
  have HC2 := Lib.hid hc2
  have z0 : (c1 == 0) = false := by simpa using h0
  clear hc1 hc2
  have HAw := Lib.hid h
  have HTw := Lib.hid htab
  have HX := Lib.hid h2
  have HY := Lib.hid h3
  have bc := h.1
  have bm := h.2.1
  unfold maxLen at bm
  clear h h2 h3 htab
  have hN0 := hN
  have HB := Lib.hid (Below.refl w.heap.size w)
  obtain ⟨κ, hκ⟩ : ∃ κ, cmpQ al be = κ := ⟨_, rfl⟩
  have dk : decide (0 < κ) = true := by rw [← hκ]; exact cmp_gt2 _ _ _ hsw
  have HK := Lib.hid hκ
  clear hκ hsw
  go_enter Tryd.func6, Tryd.ntmps6
  go_wp2_with fail
  refine calls_name fun W0 hW => ?_
  have hs_W0 : w.heap.size ≤ W0.heap.size := by rw [← hW]; (first | omega | (simp; done) | (simp; omega))
  have HK_W0 := Lib.hid (show Kp N w W0 by rw [← hW]; exact KpA)
  have k_A_0 : W0.cell? ⟨w.heap.size, 0, none⟩ = some (.bool s2) := by rw [← hW]; (first | (go_simp; done) | (simp; done) | (simp [go_sem]; done) | (simp [go_sem]; done))
  have k_A_1 : W0.cell? ⟨w.heap.size, 1, none⟩ = some (.slice a2 na2 ca2) := by rw [← hW]; (first | (go_simp; done) | (simp; done) | (simp [go_sem]; done) | (simp [go_sem]; done))
  have k_A_2 : W0.cell? ⟨w.heap.size, 2, none⟩ = some (.slice d2 nd2 cd2) := by rw [← hW]; (first | (go_simp; done) | (simp; done) | (simp [go_sem]; done) | (simp [go_sem]; done))
  have f_A : ∀ o, W0.frozen? ⟨w.heap.size, o, none⟩ = false := by intro o; rw [← hW]; (first | (go_simp; done) | (simp; done) | (simp [go_sem]; done) | (simp [go_sem]; done))
  have HX_A := Lib.hid (show Bn W0 (w.heap.size) by rw [← hW]; exact KpA)
  have k_B_0 : W0.cell? ⟨w.heap.size + 1, 0, none⟩ = some (.bool s3) := by rw [← hW]; (first | (go_simp; done) | (simp; done) | (simp [go_sem]; done) | (simp [go_sem]; done))
  have k_B_1 : W0.cell? ⟨w.heap.size + 1, 1, none⟩ = some (.slice a3 na3 ca3) := by rw [← hW]; (first | (go_simp; done) | (simp; done) | (simp [go_sem]; done) | (simp [go_sem]; done))
  have k_B_2 : W0.cell? ⟨w.heap.size + 1, 2, none⟩ = some (.slice d3 nd3 cd3) := by rw [← hW]; (first | (go_simp; done) | (simp; done) | (simp [go_sem]; done) | (simp [go_sem]; done))
  have f_B : ∀ o, W0.frozen? ⟨w.heap.size + 1, o, none⟩ = false := by intro o; rw [← hW]; (first | (go_simp; done) | (simp; done) | (simp [go_sem]; done) | (simp [go_sem]; done))
  have HX_B := Lib.hid (show Bn W0 (w.heap.size + 1) by rw [← hW]; exact KpA)
  replace HX := Lib.hid (HX.out.keep HK_W0.out)
  replace HY := Lib.hid (HY.out.keep HK_W0.out)
  replace HB := Lib.hid (show Below w.heap.size w W0 by rw [← hW]; exact BlA)
  replace hN : N ≤ W0.heap.size := by rw [← hW]; (first | omega | (simp; done) | (simp; omega))
  have hs0 : w.heap.size ≤ W0.heap.size := by rw [← hW]; (first | omega | (simp; done) | (simp; omega))
  have hl_A : w.heap.size < W0.heap.size := by rw [← hW]; (first | omega | (simp; done) | (simp; omega))
  have hl_B : w.heap.size + 1 < W0.heap.size := by rw [← hW]; (first | omega | (simp; done) | (simp; omega))
  clear hW HK_W0
  have hd_A_B : w.heap.size < w.heap.size + 1 := by omega
  refine (rcmp_any (N := N) _ _ _ _ _ _ _ _ _ _ _ _ _ _ L L al be _ hN HX.out HY.out (by omega) (by omega)).mono ?_
  rw [HK.out]
  rintro e wa ⟨rfl, hb⟩
  have hs_wa : W0.heap.size ≤ wa.heap.size := hb.size
  replace k_A_0 : wa.cell? ⟨w.heap.size, 0, none⟩ = some (.bool s2) := (hb.cell (p := ⟨w.heap.size, 0, none⟩) hl_A).trans k_A_0
  replace k_A_1 : wa.cell? ⟨w.heap.size, 1, none⟩ = some (.slice a2 na2 ca2) := (hb.cell (p := ⟨w.heap.size, 1, none⟩) hl_A).trans k_A_1
  replace k_A_2 : wa.cell? ⟨w.heap.size, 2, none⟩ = some (.slice d2 nd2 cd2) := (hb.cell (p := ⟨w.heap.size, 2, none⟩) hl_A).trans k_A_2
  replace f_A : ∀ o, wa.frozen? ⟨w.heap.size, o, none⟩ = false := fun o => (hb.frozen (p := ⟨w.heap.size, o, none⟩) hl_A).trans (f_A o)
  replace HX_A := Lib.hid (HX_A.out.below hb)
  replace k_B_0 : wa.cell? ⟨w.heap.size + 1, 0, none⟩ = some (.bool s3) := (hb.cell (p := ⟨w.heap.size + 1, 0, none⟩) hl_B).trans k_B_0
  replace k_B_1 : wa.cell? ⟨w.heap.size + 1, 1, none⟩ = some (.slice a3 na3 ca3) := (hb.cell (p := ⟨w.heap.size + 1, 1, none⟩) hl_B).trans k_B_1
  replace k_B_2 : wa.cell? ⟨w.heap.size + 1, 2, none⟩ = some (.slice d3 nd3 cd3) := (hb.cell (p := ⟨w.heap.size + 1, 2, none⟩) hl_B).trans k_B_2
  replace f_B : ∀ o, wa.frozen? ⟨w.heap.size + 1, o, none⟩ = false := fun o => (hb.frozen (p := ⟨w.heap.size + 1, o, none⟩) hl_B).trans (f_B o)
  replace HX_B := Lib.hid (HX_B.out.below hb)
  replace HX := Lib.hid (HX.out.below hb)
  replace HY := Lib.hid (HY.out.below hb)
  replace HB := Lib.hid (HB.out.trans (hb.mono hs0))
  replace hN : N ≤ wa.heap.size := Nat.le_trans hN hb.size
  replace hs0 : w.heap.size ≤ wa.heap.size := Nat.le_trans hs0 hb.size
  replace hl_A : w.heap.size < wa.heap.size := Nat.lt_of_lt_of_le hl_A hb.size
  replace hl_B : w.heap.size + 1 < wa.heap.size := Nat.lt_of_lt_of_le hl_B hb.size
  clear hb
  go_wp2_with fail
  refine calls_name fun W1 hW => ?_
  have hs_W1 : wa.heap.size ≤ W1.heap.size := by rw [← hW]; (first | omega | (simp; done) | (simp; omega))
  have HK_W1 := Lib.hid (show Kp N wa W1 by rw [← hW]; exact KpA)
  replace k_A_0 : W1.cell? ⟨w.heap.size, 0, none⟩ = some (.bool s3) := by rw [← hW]; (first | (go_simp; done) | (simp [go_sem, k_A_0]; done) | (simp [go_sem, k_A_0, k_A_1, k_A_2]; done) | (simp [go_sem, k_A_0, k_A_1, k_A_2, k_B_0, k_B_1, k_B_2, f_A, f_B, hl_A, hl_B]; done))
  replace k_A_1 : W1.cell? ⟨w.heap.size, 1, none⟩ = some (.slice a3 na3 ca3) := by rw [← hW]; (first | (go_simp; done) | (simp [go_sem, k_A_1]; done) | (simp [go_sem, k_A_0, k_A_1, k_A_2]; done) | (simp [go_sem, k_A_0, k_A_1, k_A_2, k_B_0, k_B_1, k_B_2, f_A, f_B, hl_A, hl_B]; done))
  replace k_A_2 : W1.cell? ⟨w.heap.size, 2, none⟩ = some (.slice d3 nd3 cd3) := by rw [← hW]; (first | (go_simp; done) | (simp [go_sem, k_A_2]; done) | (simp [go_sem, k_A_0, k_A_1, k_A_2]; done) | (simp [go_sem, k_A_0, k_A_1, k_A_2, k_B_0, k_B_1, k_B_2, f_A, f_B, hl_A, hl_B]; done))
  replace f_A : ∀ o, W1.frozen? ⟨w.heap.size, o, none⟩ = false := by intro o; rw [← hW]; (first | with_reducible exact f_A o | (simp [go_sem, f_A]; done) | (simp [go_sem, f_A, hl_A]; done) | (go_simp; done) | (simp [go_sem, k_A_0, k_A_1, k_A_2, k_B_0, k_B_1, k_B_2, f_A, f_B, hl_A, hl_B]; done))
  replace HX_A := Lib.hid (show Bn W1 (w.heap.size) by rw [← hW]; exact KpA)
  replace k_B_0 : W1.cell? ⟨w.heap.size + 1, 0, none⟩ = some (.bool s2) := by rw [← hW]; (first | (go_simp; done) | (simp [go_sem, k_B_0]; done) | (simp [go_sem, k_B_0, k_B_1, k_B_2]; done) | (simp [go_sem, k_A_0, k_A_1, k_A_2, k_B_0, k_B_1, k_B_2, f_A, f_B, hl_A, hl_B]; done))
  replace k_B_1 : W1.cell? ⟨w.heap.size + 1, 1, none⟩ = some (.slice a2 na2 ca2) := by rw [← hW]; (first | (go_simp; done) | (simp [go_sem, k_B_1]; done) | (simp [go_sem, k_B_0, k_B_1, k_B_2]; done) | (simp [go_sem, k_A_0, k_A_1, k_A_2, k_B_0, k_B_1, k_B_2, f_A, f_B, hl_A, hl_B]; done))
  replace k_B_2 : W1.cell? ⟨w.heap.size + 1, 2, none⟩ = some (.slice d2 nd2 cd2) := by rw [← hW]; (first | (go_simp; done) | (simp [go_sem, k_B_2]; done) | (simp [go_sem, k_B_0, k_B_1, k_B_2]; done) | (simp [go_sem, k_A_0, k_A_1, k_A_2, k_B_0, k_B_1, k_B_2, f_A, f_B, hl_A, hl_B]; done))
  replace f_B : ∀ o, W1.frozen? ⟨w.heap.size + 1, o, none⟩ = false := by intro o; rw [← hW]; (first | with_reducible exact f_B o | (simp [go_sem, f_B]; done) | (simp [go_sem, f_B, hl_B]; done) | (go_simp; done) | (simp [go_sem, k_A_0, k_A_1, k_A_2, k_B_0, k_B_1, k_B_2, f_A, f_B, hl_A, hl_B]; done))
  replace HX_B := Lib.hid (show Bn W1 (w.heap.size + 1) by rw [← hW]; exact KpA)
  replace HX := Lib.hid (HX.out.keep HK_W1.out)
  replace HY := Lib.hid (HY.out.keep HK_W1.out)
  replace HB := Lib.hid (show Below w.heap.size w W1 by rw [← hW]; exact BlA)
  replace hN : N ≤ W1.heap.size := by rw [← hW]; (first | omega | (simp; done) | (simp; omega))
  replace hs0 : w.heap.size ≤ W1.heap.size := by rw [← hW]; (first | omega | (simp; done) | (simp; omega))
  replace hl_A : w.heap.size < W1.heap.size := by rw [← hW]; (first | omega | (simp; done) | (simp; omega))
  replace hl_B : w.heap.size + 1 < W1.heap.size := by rw [← hW]; (first | omega | (simp; done) | (simp; omega))
  clear hW HK_W1
  have HZ := HX
  clear HX
  have HX := HY
  clear HY
  have HY := HZ
  clear HZ
  have HA := Lib.hid (HAw.out.below HB.out)
  refine (bonf_or (N := N) _ n _ q _ _ _ _ _ _ _ L be _ hN HA.out HX.out hL c1 HC1.out).mono ?_
  rintro e w0 ⟨v0, rfl, hb⟩
  have hs_w0 : W1.heap.size ≤ w0.heap.size := hb.size
  replace k_A_0 : w0.cell? ⟨w.heap.size, 0, none⟩ = some (.bool s3) := (hb.cell (p := ⟨w.heap.size, 0, none⟩) hl_A).trans k_A_0
  replace k_A_1 : w0.cell? ⟨w.heap.size, 1, none⟩ = some (.slice a3 na3 ca3) := (hb.cell (p := ⟨w.heap.size, 1, none⟩) hl_A).trans k_A_1
  replace k_A_2 : w0.cell? ⟨w.heap.size, 2, none⟩ = some (.slice d3 nd3 cd3) := (hb.cell (p := ⟨w.heap.size, 2, none⟩) hl_A).trans k_A_2
  replace f_A : ∀ o, w0.frozen? ⟨w.heap.size, o, none⟩ = false := fun o => (hb.frozen (p := ⟨w.heap.size, o, none⟩) hl_A).trans (f_A o)
  replace HX_A := Lib.hid (HX_A.out.below hb)
  replace k_B_0 : w0.cell? ⟨w.heap.size + 1, 0, none⟩ = some (.bool s2) := (hb.cell (p := ⟨w.heap.size + 1, 0, none⟩) hl_B).trans k_B_0
  replace k_B_1 : w0.cell? ⟨w.heap.size + 1, 1, none⟩ = some (.slice a2 na2 ca2) := (hb.cell (p := ⟨w.heap.size + 1, 1, none⟩) hl_B).trans k_B_1
  replace k_B_2 : w0.cell? ⟨w.heap.size + 1, 2, none⟩ = some (.slice d2 nd2 cd2) := (hb.cell (p := ⟨w.heap.size + 1, 2, none⟩) hl_B).trans k_B_2
  replace f_B : ∀ o, w0.frozen? ⟨w.heap.size + 1, o, none⟩ = false := fun o => (hb.frozen (p := ⟨w.heap.size + 1, o, none⟩) hl_B).trans (f_B o)
  replace HX_B := Lib.hid (HX_B.out.below hb)
  replace HX := Lib.hid (HX.out.below hb)
  replace HY := Lib.hid (HY.out.below hb)
  replace HB := Lib.hid (HB.out.trans (hb.mono hs0))
  replace hN : N ≤ w0.heap.size := Nat.le_trans hN hb.size
  replace hs0 : w.heap.size ≤ w0.heap.size := Nat.le_trans hs0 hb.size
  replace hl_A : w.heap.size < w0.heap.size := Nat.lt_of_lt_of_le hl_A hb.size
  replace hl_B : w.heap.size + 1 < w0.heap.size := Nat.lt_of_lt_of_le hl_B hb.size
  replace HA := Lib.hid (HA.out.below hb)
  clear hb
  go_wp2_with fail
  refine calls_name fun V1 hW => ?_
  have HL_V1 := Lib.hid (show Below w0.heap.size w0 V1 by rw [← hW]; exact BlA)
  have hs_V1 : w0.heap.size ≤ V1.heap.size := by rw [← hW]; (first | omega | (simp; done) | (simp; omega))
  have HK_V1 := Lib.hid (show Kp N w0 V1 by rw [← hW]; exact KpA)
  replace k_A_0 : V1.cell? ⟨w.heap.size, 0, none⟩ = some (.bool s3) := (HL_V1.out.cell (p := ⟨w.heap.size, 0, none⟩) hl_A).trans k_A_0
  replace k_A_1 : V1.cell? ⟨w.heap.size, 1, none⟩ = some (.slice a3 na3 ca3) := (HL_V1.out.cell (p := ⟨w.heap.size, 1, none⟩) hl_A).trans k_A_1
  replace k_A_2 : V1.cell? ⟨w.heap.size, 2, none⟩ = some (.slice d3 nd3 cd3) := (HL_V1.out.cell (p := ⟨w.heap.size, 2, none⟩) hl_A).trans k_A_2
  replace f_A : ∀ o, V1.frozen? ⟨w.heap.size, o, none⟩ = false := fun o => (HL_V1.out.frozen (p := ⟨w.heap.size, o, none⟩) hl_A).trans (f_A o)
  replace HX_A := Lib.hid (show Bn V1 (w.heap.size) by rw [← hW]; exact KpA)
  replace k_B_0 : V1.cell? ⟨w.heap.size + 1, 0, none⟩ = some (.bool s2) := (HL_V1.out.cell (p := ⟨w.heap.size + 1, 0, none⟩) hl_B).trans k_B_0
  replace k_B_1 : V1.cell? ⟨w.heap.size + 1, 1, none⟩ = some (.slice a2 na2 ca2) := (HL_V1.out.cell (p := ⟨w.heap.size + 1, 1, none⟩) hl_B).trans k_B_1
  replace k_B_2 : V1.cell? ⟨w.heap.size + 1, 2, none⟩ = some (.slice d2 nd2 cd2) := (HL_V1.out.cell (p := ⟨w.heap.size + 1, 2, none⟩) hl_B).trans k_B_2
  replace f_B : ∀ o, V1.frozen? ⟨w.heap.size + 1, o, none⟩ = false := fun o => (HL_V1.out.frozen (p := ⟨w.heap.size + 1, o, none⟩) hl_B).trans (f_B o)
  replace HX_B := Lib.hid (show Bn V1 (w.heap.size + 1) by rw [← hW]; exact KpA)
  replace HX := Lib.hid (HX.out.keep HK_V1.out)
  replace HY := Lib.hid (HY.out.keep HK_V1.out)
  replace HB := Lib.hid (show Below w.heap.size w V1 by rw [← hW]; exact BlA)
  replace hN : N ≤ V1.heap.size := by rw [← hW]; (first | omega | (simp; done) | (simp; omega))
  replace hs0 : w.heap.size ≤ V1.heap.size := by rw [← hW]; (first | omega | (simp; done) | (simp; omega))
  replace hl_A : w.heap.size < V1.heap.size := by rw [← hW]; (first | omega | (simp; done) | (simp; omega))
  replace hl_B : w.heap.size + 1 < V1.heap.size := by rw [← hW]; (first | omega | (simp; done) | (simp; omega))
  replace HA := Lib.hid (HA.out.below HL_V1.out)
  clear HL_V1
  clear hW HK_V1
  refine (bonf_or (N := N) _ n _ q _ _ _ _ _ _ _ L al _ hN HA.out HY.out hL c2 HC2.out).mono ?_
  rintro e w1 ⟨v1, rfl, hb⟩
  have hs_w1 : V1.heap.size ≤ w1.heap.size := hb.size
  replace k_A_0 : w1.cell? ⟨w.heap.size, 0, none⟩ = some (.bool s3) := (hb.cell (p := ⟨w.heap.size, 0, none⟩) hl_A).trans k_A_0
  replace k_A_1 : w1.cell? ⟨w.heap.size, 1, none⟩ = some (.slice a3 na3 ca3) := (hb.cell (p := ⟨w.heap.size, 1, none⟩) hl_A).trans k_A_1
  replace k_A_2 : w1.cell? ⟨w.heap.size, 2, none⟩ = some (.slice d3 nd3 cd3) := (hb.cell (p := ⟨w.heap.size, 2, none⟩) hl_A).trans k_A_2
  replace f_A : ∀ o, w1.frozen? ⟨w.heap.size, o, none⟩ = false := fun o => (hb.frozen (p := ⟨w.heap.size, o, none⟩) hl_A).trans (f_A o)
  replace HX_A := Lib.hid (HX_A.out.below hb)
  replace k_B_0 : w1.cell? ⟨w.heap.size + 1, 0, none⟩ = some (.bool s2) := (hb.cell (p := ⟨w.heap.size + 1, 0, none⟩) hl_B).trans k_B_0
  replace k_B_1 : w1.cell? ⟨w.heap.size + 1, 1, none⟩ = some (.slice a2 na2 ca2) := (hb.cell (p := ⟨w.heap.size + 1, 1, none⟩) hl_B).trans k_B_1
  replace k_B_2 : w1.cell? ⟨w.heap.size + 1, 2, none⟩ = some (.slice d2 nd2 cd2) := (hb.cell (p := ⟨w.heap.size + 1, 2, none⟩) hl_B).trans k_B_2
  replace f_B : ∀ o, w1.frozen? ⟨w.heap.size + 1, o, none⟩ = false := fun o => (hb.frozen (p := ⟨w.heap.size + 1, o, none⟩) hl_B).trans (f_B o)
  replace HX_B := Lib.hid (HX_B.out.below hb)
  replace HX := Lib.hid (HX.out.below hb)
  replace HY := Lib.hid (HY.out.below hb)
  replace HB := Lib.hid (HB.out.trans (hb.mono hs0))
  replace hN : N ≤ w1.heap.size := Nat.le_trans hN hb.size
  replace hs0 : w.heap.size ≤ w1.heap.size := Nat.le_trans hs0 hb.size
  replace hl_A : w.heap.size < w1.heap.size := Nat.lt_of_lt_of_le hl_A hb.size
  replace hl_B : w.heap.size + 1 < w1.heap.size := Nat.lt_of_lt_of_le hl_B hb.size
  replace HA := Lib.hid (HA.out.below hb)
  clear hb
  go_wp2_with fail
  refine calls_name fun V2 hW => ?_
  have HL_V2 := Lib.hid (show Below w1.heap.size w1 V2 by rw [← hW]; exact BlA)
  have hs_V2 : w1.heap.size ≤ V2.heap.size := by rw [← hW]; (first | omega | (simp; done) | (simp; omega))
  have HK_V2 := Lib.hid (show Kp N w1 V2 by rw [← hW]; exact KpA)
  replace k_A_0 : V2.cell? ⟨w.heap.size, 0, none⟩ = some (.bool s3) := (HL_V2.out.cell (p := ⟨w.heap.size, 0, none⟩) hl_A).trans k_A_0
  replace k_A_1 : V2.cell? ⟨w.heap.size, 1, none⟩ = some (.slice a3 na3 ca3) := (HL_V2.out.cell (p := ⟨w.heap.size, 1, none⟩) hl_A).trans k_A_1
  replace k_A_2 : V2.cell? ⟨w.heap.size, 2, none⟩ = some (.slice d3 nd3 cd3) := (HL_V2.out.cell (p := ⟨w.heap.size, 2, none⟩) hl_A).trans k_A_2
  replace f_A : ∀ o, V2.frozen? ⟨w.heap.size, o, none⟩ = false := fun o => (HL_V2.out.frozen (p := ⟨w.heap.size, o, none⟩) hl_A).trans (f_A o)
  replace HX_A := Lib.hid (show Bn V2 (w.heap.size) by rw [← hW]; exact KpA)
  replace k_B_0 : V2.cell? ⟨w.heap.size + 1, 0, none⟩ = some (.bool s2) := (HL_V2.out.cell (p := ⟨w.heap.size + 1, 0, none⟩) hl_B).trans k_B_0
  replace k_B_1 : V2.cell? ⟨w.heap.size + 1, 1, none⟩ = some (.slice a2 na2 ca2) := (HL_V2.out.cell (p := ⟨w.heap.size + 1, 1, none⟩) hl_B).trans k_B_1
  replace k_B_2 : V2.cell? ⟨w.heap.size + 1, 2, none⟩ = some (.slice d2 nd2 cd2) := (HL_V2.out.cell (p := ⟨w.heap.size + 1, 2, none⟩) hl_B).trans k_B_2
  replace f_B : ∀ o, V2.frozen? ⟨w.heap.size + 1, o, none⟩ = false := fun o => (HL_V2.out.frozen (p := ⟨w.heap.size + 1, o, none⟩) hl_B).trans (f_B o)
  replace HX_B := Lib.hid (show Bn V2 (w.heap.size + 1) by rw [← hW]; exact KpA)
  replace HX := Lib.hid (HX.out.keep HK_V2.out)
  replace HY := Lib.hid (HY.out.keep HK_V2.out)
  replace HB := Lib.hid (show Below w.heap.size w V2 by rw [← hW]; exact BlA)
  replace hN : N ≤ V2.heap.size := by rw [← hW]; (first | omega | (simp; done) | (simp; omega))
  replace hs0 : w.heap.size ≤ V2.heap.size := by rw [← hW]; (first | omega | (simp; done) | (simp; omega))
  replace hl_A : w.heap.size < V2.heap.size := by rw [← hW]; (first | omega | (simp; done) | (simp; omega))
  replace hl_B : w.heap.size + 1 < V2.heap.size := by rw [← hW]; (first | omega | (simp; done) | (simp; omega))
  replace HA := Lib.hid (HA.out.below HL_V2.out)
  clear HL_V2
  clear hW HK_V2
  refine (holm_or (N := N) _ n _ q _ _ _ _ _ _ _ L be _ hN HA.out HX.out hL c1 HC1.out).mono ?_
  rintro e w2 ⟨v2, rfl, hb⟩
  have hs_w2 : V2.heap.size ≤ w2.heap.size := hb.size
  replace k_A_0 : w2.cell? ⟨w.heap.size, 0, none⟩ = some (.bool s3) := (hb.cell (p := ⟨w.heap.size, 0, none⟩) hl_A).trans k_A_0
  replace k_A_1 : w2.cell? ⟨w.heap.size, 1, none⟩ = some (.slice a3 na3 ca3) := (hb.cell (p := ⟨w.heap.size, 1, none⟩) hl_A).trans k_A_1
  replace k_A_2 : w2.cell? ⟨w.heap.size, 2, none⟩ = some (.slice d3 nd3 cd3) := (hb.cell (p := ⟨w.heap.size, 2, none⟩) hl_A).trans k_A_2
  replace f_A : ∀ o, w2.frozen? ⟨w.heap.size, o, none⟩ = false := fun o => (hb.frozen (p := ⟨w.heap.size, o, none⟩) hl_A).trans (f_A o)
  replace HX_A := Lib.hid (HX_A.out.below hb)
  replace k_B_0 : w2.cell? ⟨w.heap.size + 1, 0, none⟩ = some (.bool s2) := (hb.cell (p := ⟨w.heap.size + 1, 0, none⟩) hl_B).trans k_B_0
  replace k_B_1 : w2.cell? ⟨w.heap.size + 1, 1, none⟩ = some (.slice a2 na2 ca2) := (hb.cell (p := ⟨w.heap.size + 1, 1, none⟩) hl_B).trans k_B_1
  replace k_B_2 : w2.cell? ⟨w.heap.size + 1, 2, none⟩ = some (.slice d2 nd2 cd2) := (hb.cell (p := ⟨w.heap.size + 1, 2, none⟩) hl_B).trans k_B_2
  replace f_B : ∀ o, w2.frozen? ⟨w.heap.size + 1, o, none⟩ = false := fun o => (hb.frozen (p := ⟨w.heap.size + 1, o, none⟩) hl_B).trans (f_B o)
  replace HX_B := Lib.hid (HX_B.out.below hb)
  replace HX := Lib.hid (HX.out.below hb)
  replace HY := Lib.hid (HY.out.below hb)
  replace HB := Lib.hid (HB.out.trans (hb.mono hs0))
  replace hN : N ≤ w2.heap.size := Nat.le_trans hN hb.size
  replace hs0 : w.heap.size ≤ w2.heap.size := Nat.le_trans hs0 hb.size
  replace hl_A : w.heap.size < w2.heap.size := Nat.lt_of_lt_of_le hl_A hb.size
  replace hl_B : w.heap.size + 1 < w2.heap.size := Nat.lt_of_lt_of_le hl_B hb.size
  replace HA := Lib.hid (HA.out.below hb)
  clear hb
  go_wp2_with fail
  refine calls_name fun V3 hW => ?_
  have HL_V3 := Lib.hid (show Below w2.heap.size w2 V3 by rw [← hW]; exact BlA)
  have hs_V3 : w2.heap.size ≤ V3.heap.size := by rw [← hW]; (first | omega | (simp; done) | (simp; omega))
  have HK_V3 := Lib.hid (show Kp N w2 V3 by rw [← hW]; exact KpA)
  replace k_A_0 : V3.cell? ⟨w.heap.size, 0, none⟩ = some (.bool s3) := (HL_V3.out.cell (p := ⟨w.heap.size, 0, none⟩) hl_A).trans k_A_0
  replace k_A_1 : V3.cell? ⟨w.heap.size, 1, none⟩ = some (.slice a3 na3 ca3) := (HL_V3.out.cell (p := ⟨w.heap.size, 1, none⟩) hl_A).trans k_A_1
  replace k_A_2 : V3.cell? ⟨w.heap.size, 2, none⟩ = some (.slice d3 nd3 cd3) := (HL_V3.out.cell (p := ⟨w.heap.size, 2, none⟩) hl_A).trans k_A_2
  replace f_A : ∀ o, V3.frozen? ⟨w.heap.size, o, none⟩ = false := fun o => (HL_V3.out.frozen (p := ⟨w.heap.size, o, none⟩) hl_A).trans (f_A o)
  replace HX_A := Lib.hid (show Bn V3 (w.heap.size) by rw [← hW]; exact KpA)
  replace k_B_0 : V3.cell? ⟨w.heap.size + 1, 0, none⟩ = some (.bool s2) := (HL_V3.out.cell (p := ⟨w.heap.size + 1, 0, none⟩) hl_B).trans k_B_0
  replace k_B_1 : V3.cell? ⟨w.heap.size + 1, 1, none⟩ = some (.slice a2 na2 ca2) := (HL_V3.out.cell (p := ⟨w.heap.size + 1, 1, none⟩) hl_B).trans k_B_1
  replace k_B_2 : V3.cell? ⟨w.heap.size + 1, 2, none⟩ = some (.slice d2 nd2 cd2) := (HL_V3.out.cell (p := ⟨w.heap.size + 1, 2, none⟩) hl_B).trans k_B_2
  replace f_B : ∀ o, V3.frozen? ⟨w.heap.size + 1, o, none⟩ = false := fun o => (HL_V3.out.frozen (p := ⟨w.heap.size + 1, o, none⟩) hl_B).trans (f_B o)
  replace HX_B := Lib.hid (show Bn V3 (w.heap.size + 1) by rw [← hW]; exact KpA)
  replace HX := Lib.hid (HX.out.keep HK_V3.out)
  replace HY := Lib.hid (HY.out.keep HK_V3.out)
  replace HB := Lib.hid (show Below w.heap.size w V3 by rw [← hW]; exact BlA)
  replace hN : N ≤ V3.heap.size := by rw [← hW]; (first | omega | (simp; done) | (simp; omega))
  replace hs0 : w.heap.size ≤ V3.heap.size := by rw [← hW]; (first | omega | (simp; done) | (simp; omega))
  replace hl_A : w.heap.size < V3.heap.size := by rw [← hW]; (first | omega | (simp; done) | (simp; omega))
  replace hl_B : w.heap.size + 1 < V3.heap.size := by rw [← hW]; (first | omega | (simp; done) | (simp; omega))
  replace HA := Lib.hid (HA.out.below HL_V3.out)
  clear HL_V3
  clear hW HK_V3
  refine (holm_or (N := N) _ n _ q _ _ _ _ _ _ _ L al _ hN HA.out HY.out hL c2 HC2.out).mono ?_
  rintro e w3 ⟨v3, rfl, hb⟩
  have hs_w3 : V3.heap.size ≤ w3.heap.size := hb.size
  replace k_A_0 : w3.cell? ⟨w.heap.size, 0, none⟩ = some (.bool s3) := (hb.cell (p := ⟨w.heap.size, 0, none⟩) hl_A).trans k_A_0
  replace k_A_1 : w3.cell? ⟨w.heap.size, 1, none⟩ = some (.slice a3 na3 ca3) := (hb.cell (p := ⟨w.heap.size, 1, none⟩) hl_A).trans k_A_1
  replace k_A_2 : w3.cell? ⟨w.heap.size, 2, none⟩ = some (.slice d3 nd3 cd3) := (hb.cell (p := ⟨w.heap.size, 2, none⟩) hl_A).trans k_A_2
  replace f_A : ∀ o, w3.frozen? ⟨w.heap.size, o, none⟩ = false := fun o => (hb.frozen (p := ⟨w.heap.size, o, none⟩) hl_A).trans (f_A o)
  replace HX_A := Lib.hid (HX_A.out.below hb)
  replace k_B_0 : w3.cell? ⟨w.heap.size + 1, 0, none⟩ = some (.bool s2) := (hb.cell (p := ⟨w.heap.size + 1, 0, none⟩) hl_B).trans k_B_0
  replace k_B_1 : w3.cell? ⟨w.heap.size + 1, 1, none⟩ = some (.slice a2 na2 ca2) := (hb.cell (p := ⟨w.heap.size + 1, 1, none⟩) hl_B).trans k_B_1
  replace k_B_2 : w3.cell? ⟨w.heap.size + 1, 2, none⟩ = some (.slice d2 nd2 cd2) := (hb.cell (p := ⟨w.heap.size + 1, 2, none⟩) hl_B).trans k_B_2
  replace f_B : ∀ o, w3.frozen? ⟨w.heap.size + 1, o, none⟩ = false := fun o => (hb.frozen (p := ⟨w.heap.size + 1, o, none⟩) hl_B).trans (f_B o)
  replace HX_B := Lib.hid (HX_B.out.below hb)
  replace HX := Lib.hid (HX.out.below hb)
  replace HY := Lib.hid (HY.out.below hb)
  replace HB := Lib.hid (HB.out.trans (hb.mono hs0))
  replace hN : N ≤ w3.heap.size := Nat.le_trans hN hb.size
  replace hs0 : w.heap.size ≤ w3.heap.size := Nat.le_trans hs0 hb.size
  replace hl_A : w.heap.size < w3.heap.size := Nat.lt_of_lt_of_le hl_A hb.size
  replace hl_B : w.heap.size + 1 < w3.heap.size := Nat.lt_of_lt_of_le hl_B hb.size
  replace HA := Lib.hid (HA.out.below hb)
  clear hb
  go_wp2_with fail
  refine calls_name fun Z9 hW => ?_
  have HL_Z9 := Lib.hid (show Below w3.heap.size w3 Z9 by rw [← hW]; exact BlA)
  have hs_Z9 : w3.heap.size ≤ Z9.heap.size := by rw [← hW]; (first | omega | (simp; done) | (simp; omega))
  have HK_Z9 := Lib.hid (show Kp N w3 Z9 by rw [← hW]; exact KpA)
  replace k_A_0 : Z9.cell? ⟨w.heap.size, 0, none⟩ = some (.bool s3) := (HL_Z9.out.cell (p := ⟨w.heap.size, 0, none⟩) hl_A).trans k_A_0
  replace k_A_1 : Z9.cell? ⟨w.heap.size, 1, none⟩ = some (.slice a3 na3 ca3) := (HL_Z9.out.cell (p := ⟨w.heap.size, 1, none⟩) hl_A).trans k_A_1
  replace k_A_2 : Z9.cell? ⟨w.heap.size, 2, none⟩ = some (.slice d3 nd3 cd3) := (HL_Z9.out.cell (p := ⟨w.heap.size, 2, none⟩) hl_A).trans k_A_2
  replace f_A : ∀ o, Z9.frozen? ⟨w.heap.size, o, none⟩ = false := fun o => (HL_Z9.out.frozen (p := ⟨w.heap.size, o, none⟩) hl_A).trans (f_A o)
  replace HX_A := Lib.hid (show Bn Z9 (w.heap.size) by rw [← hW]; exact KpA)
  replace k_B_0 : Z9.cell? ⟨w.heap.size + 1, 0, none⟩ = some (.bool s2) := (HL_Z9.out.cell (p := ⟨w.heap.size + 1, 0, none⟩) hl_B).trans k_B_0
  replace k_B_1 : Z9.cell? ⟨w.heap.size + 1, 1, none⟩ = some (.slice a2 na2 ca2) := (HL_Z9.out.cell (p := ⟨w.heap.size + 1, 1, none⟩) hl_B).trans k_B_1
  replace k_B_2 : Z9.cell? ⟨w.heap.size + 1, 2, none⟩ = some (.slice d2 nd2 cd2) := (HL_Z9.out.cell (p := ⟨w.heap.size + 1, 2, none⟩) hl_B).trans k_B_2
  replace f_B : ∀ o, Z9.frozen? ⟨w.heap.size + 1, o, none⟩ = false := fun o => (HL_Z9.out.frozen (p := ⟨w.heap.size + 1, o, none⟩) hl_B).trans (f_B o)
  replace HX_B := Lib.hid (show Bn Z9 (w.heap.size + 1) by rw [← hW]; exact KpA)
  replace HX := Lib.hid (HX.out.keep HK_Z9.out)
  replace HY := Lib.hid (HY.out.keep HK_Z9.out)
  replace HB := Lib.hid (show Below w.heap.size w Z9 by rw [← hW]; exact BlA)
  replace hN : N ≤ Z9.heap.size := by rw [← hW]; (first | omega | (simp; done) | (simp; omega))
  replace hs0 : w.heap.size ≤ Z9.heap.size := by rw [← hW]; (first | omega | (simp; done) | (simp; omega))
  replace hl_A : w.heap.size < Z9.heap.size := by rw [← hW]; (first | omega | (simp; done) | (simp; omega))
  replace hl_B : w.heap.size + 1 < Z9.heap.size := by rw [← hW]; (first | omega | (simp; done) | (simp; omega))
  replace HA := Lib.hid (HA.out.below HL_Z9.out)
  clear HL_Z9
  clear hW HK_Z9
  refine (dawake_any (N := N) _ hN (HTw.out.below HB.out)).mono ?_
  rintro e wh ⟨rfl, hb⟩
  have hs_wh : Z9.heap.size ≤ wh.heap.size := hb.size
  replace k_A_0 : wh.cell? ⟨w.heap.size, 0, none⟩ = some (.bool s3) := (hb.cell (p := ⟨w.heap.size, 0, none⟩) hl_A).trans k_A_0
  replace k_A_1 : wh.cell? ⟨w.heap.size, 1, none⟩ = some (.slice a3 na3 ca3) := (hb.cell (p := ⟨w.heap.size, 1, none⟩) hl_A).trans k_A_1
  replace k_A_2 : wh.cell? ⟨w.heap.size, 2, none⟩ = some (.slice d3 nd3 cd3) := (hb.cell (p := ⟨w.heap.size, 2, none⟩) hl_A).trans k_A_2
  replace f_A : ∀ o, wh.frozen? ⟨w.heap.size, o, none⟩ = false := fun o => (hb.frozen (p := ⟨w.heap.size, o, none⟩) hl_A).trans (f_A o)
  replace HX_A := Lib.hid (HX_A.out.below hb)
  replace k_B_0 : wh.cell? ⟨w.heap.size + 1, 0, none⟩ = some (.bool s2) := (hb.cell (p := ⟨w.heap.size + 1, 0, none⟩) hl_B).trans k_B_0
  replace k_B_1 : wh.cell? ⟨w.heap.size + 1, 1, none⟩ = some (.slice a2 na2 ca2) := (hb.cell (p := ⟨w.heap.size + 1, 1, none⟩) hl_B).trans k_B_1
  replace k_B_2 : wh.cell? ⟨w.heap.size + 1, 2, none⟩ = some (.slice d2 nd2 cd2) := (hb.cell (p := ⟨w.heap.size + 1, 2, none⟩) hl_B).trans k_B_2
  replace f_B : ∀ o, wh.frozen? ⟨w.heap.size + 1, o, none⟩ = false := fun o => (hb.frozen (p := ⟨w.heap.size + 1, o, none⟩) hl_B).trans (f_B o)
  replace HX_B := Lib.hid (HX_B.out.below hb)
  replace HX := Lib.hid (HX.out.below hb)
  replace HY := Lib.hid (HY.out.below hb)
  replace HB := Lib.hid (HB.out.trans (hb.mono hs0))
  replace hN : N ≤ wh.heap.size := Nat.le_trans hN hb.size
  replace hs0 : w.heap.size ≤ wh.heap.size := Nat.le_trans hs0 hb.size
  replace hl_A : w.heap.size < wh.heap.size := Nat.lt_of_lt_of_le hl_A hb.size
  replace hl_B : w.heap.size + 1 < wh.heap.size := Nat.lt_of_lt_of_le hl_B hb.size
  replace HA := Lib.hid (HA.out.below hb)
  clear hb
  go_wp2_with fail
  go_ret
  exact ⟨rfl, HB.out⟩

set_option maxHeartbeats 8000000 in
set_option maxRecDepth 100000 in
theorem dlev_sB {N : Nat} (a : Option Addr) (n cap : Nat) (q : Nat → Rat) (s2 s3 : Bool) (a2 d2 a3 d3 : Option Addr) (na2 ca2 nd2 cd2 na3 ca3 nd3 cd3 L : Nat) (al be : Rat) (w : World) (hN : N ≤ w.heap.size) (h : Rs N w a n cap q L) (h2 : Rt N w s2 a2 na2 ca2 d2 nd2 cd2 al L) (h3 : Rt N w s3 a3 na3 ca3 d3 nd3 cd3 be L) (hL : L ≤ 2097152) (htab : TabW w) (hsw : decide (be < al) = true) (c2 : Int) (hc1 : chkC q n be = 0) (hc2 : chkC q n al = c2) (h0 : c2 ≠ 0) :
    Calls Tryd.prog 6 #[.slice a n cap, .agg #[.bool s2, .slice a2 na2 ca2, .slice d2 nd2 cd2], .agg #[.bool s3, .slice a3 na3 ca3, .slice d3 nd3 cd3]] w fun e w' => e = .returned (.bool true) ∧ Below w.heap.size w w' := by
  have HC1 := Lib.hid hc1
  have HC2 := Lib.hid hc2
  have z0 : (c2 == 0) = false := by simpa using h0
  clear hc1 hc2
  have HAw := Lib.hid h
  have HTw := Lib.hid htab
  have HX := Lib.hid h2
  have HY := Lib.hid h3
  have bc := h.1
  have bm := h.2.1
  unfold maxLen at bm
  clear h h2 h3 htab
  have hN0 := hN
  have HB := Lib.hid (Below.refl w.heap.size w)
  obtain ⟨κ, hκ⟩ : ∃ κ, cmpQ al be = κ := ⟨_, rfl⟩
  have dk : decide (0 < κ) = true := by rw [← hκ]; exact cmp_gt2 _ _ _ hsw
  have HK := Lib.hid hκ
  clear hκ hsw
  go_enter Tryd.func6, Tryd.ntmps6
  go_wp2_with fail
  refine calls_name fun W0 hW => ?_
  have hs_W0 : w.heap.size ≤ W0.heap.size := by rw [← hW]; (first | omega | (simp; done) | (simp; omega))
  have HK_W0 := Lib.hid (show Kp N w W0 by rw [← hW]; exact KpA)
  have k_A_0 : W0.cell? ⟨w.heap.size, 0, none⟩ = some (.bool s2) := by rw [← hW]; (first | (go_simp; done) | (simp; done) | (simp [go_sem]; done) | (simp [go_sem]; done))
  have k_A_1 : W0.cell? ⟨w.heap.size, 1, none⟩ = some (.slice a2 na2 ca2) := by rw [← hW]; (first | (go_simp; done) | (simp; done) | (simp [go_sem]; done) | (simp [go_sem]; done))
  have k_A_2 : W0.cell? ⟨w.heap.size, 2, none⟩ = some (.slice d2 nd2 cd2) := by rw [← hW]; (first | (go_simp; done) | (simp; done) | (simp [go_sem]; done) | (simp [go_sem]; done))
  have f_A : ∀ o, W0.frozen? ⟨w.heap.size, o, none⟩ = false := by intro o; rw [← hW]; (first | (go_simp; done) | (simp; done) | (simp [go_sem]; done) | (simp [go_sem]; done))
  have HX_A := Lib.hid (show Bn W0 (w.heap.size) by rw [← hW]; exact KpA)
  have k_B_0 : W0.cell? ⟨w.heap.size + 1, 0, none⟩ = some (.bool s3) := by rw [← hW]; (first | (go_simp; done) | (simp; done) | (simp [go_sem]; done) | (simp [go_sem]; done))
  have k_B_1 : W0.cell? ⟨w.heap.size + 1, 1, none⟩ = some (.slice a3 na3 ca3) := by rw [← hW]; (first | (go_simp; done) | (simp; done) | (simp [go_sem]; done) | (simp [go_sem]; done))
  have k_B_2 : W0.cell? ⟨w.heap.size + 1, 2, none⟩ = some (.slice d3 nd3 cd3) := by rw [← hW]; (first | (go_simp; done) | (simp; done) | (simp [go_sem]; done) | (simp [go_sem]; done))
  have f_B : ∀ o, W0.frozen? ⟨w.heap.size + 1, o, none⟩ = false := by intro o; rw [← hW]; (first | (go_simp; done) | (simp; done) | (simp [go_sem]; done) | (simp [go_sem]; done))
  have HX_B := Lib.hid (show Bn W0 (w.heap.size + 1) by rw [← hW]; exact KpA)
  replace HX := Lib.hid (HX.out.keep HK_W0.out)
  replace HY := Lib.hid (HY.out.keep HK_W0.out)
  replace HB := Lib.hid (show Below w.heap.size w W0 by rw [← hW]; exact BlA)
  replace hN : N ≤ W0.heap.size := by rw [← hW]; (first | omega | (simp; done) | (simp; omega))
  have hs0 : w.heap.size ≤ W0.heap.size := by rw [← hW]; (first | omega | (simp; done) | (simp; omega))
  have hl_A : w.heap.size < W0.heap.size := by rw [← hW]; (first | omega | (simp; done) | (simp; omega))
  have hl_B : w.heap.size + 1 < W0.heap.size := by rw [← hW]; (first | omega | (simp; done) | (simp; omega))
  clear hW HK_W0
  have hd_A_B : w.heap.size < w.heap.size + 1 := by omega
  refine (rcmp_any (N := N) _ _ _ _ _ _ _ _ _ _ _ _ _ _ L L al be _ hN HX.out HY.out (by omega) (by omega)).mono ?_
  rw [HK.out]
  rintro e wa ⟨rfl, hb⟩
  have hs_wa : W0.heap.size ≤ wa.heap.size := hb.size
  replace k_A_0 : wa.cell? ⟨w.heap.size, 0, none⟩ = some (.bool s2) := (hb.cell (p := ⟨w.heap.size, 0, none⟩) hl_A).trans k_A_0
  replace k_A_1 : wa.cell? ⟨w.heap.size, 1, none⟩ = some (.slice a2 na2 ca2) := (hb.cell (p := ⟨w.heap.size, 1, none⟩) hl_A).trans k_A_1
  replace k_A_2 : wa.cell? ⟨w.heap.size, 2, none⟩ = some (.slice d2 nd2 cd2) := (hb.cell (p := ⟨w.heap.size, 2, none⟩) hl_A).trans k_A_2
  replace f_A : ∀ o, wa.frozen? ⟨w.heap.size, o, none⟩ = false := fun o => (hb.frozen (p := ⟨w.heap.size, o, none⟩) hl_A).trans (f_A o)
  replace HX_A := Lib.hid (HX_A.out.below hb)
  replace k_B_0 : wa.cell? ⟨w.heap.size + 1, 0, none⟩ = some (.bool s3) := (hb.cell (p := ⟨w.heap.size + 1, 0, none⟩) hl_B).trans k_B_0
  replace k_B_1 : wa.cell? ⟨w.heap.size + 1, 1, none⟩ = some (.slice a3 na3 ca3) := (hb.cell (p := ⟨w.heap.size + 1, 1, none⟩) hl_B).trans k_B_1
  replace k_B_2 : wa.cell? ⟨w.heap.size + 1, 2, none⟩ = some (.slice d3 nd3 cd3) := (hb.cell (p := ⟨w.heap.size + 1, 2, none⟩) hl_B).trans k_B_2
  replace f_B : ∀ o, wa.frozen? ⟨w.heap.size + 1, o, none⟩ = false := fun o => (hb.frozen (p := ⟨w.heap.size + 1, o, none⟩) hl_B).trans (f_B o)
  replace HX_B := Lib.hid (HX_B.out.below hb)
  replace HX := Lib.hid (HX.out.below hb)
  replace HY := Lib.hid (HY.out.below hb)
  replace HB := Lib.hid (HB.out.trans (hb.mono hs0))
  replace hN : N ≤ wa.heap.size := Nat.le_trans hN hb.size
  replace hs0 : w.heap.size ≤ wa.heap.size := Nat.le_trans hs0 hb.size
  replace hl_A : w.heap.size < wa.heap.size := Nat.lt_of_lt_of_le hl_A hb.size
  replace hl_B : w.heap.size + 1 < wa.heap.size := Nat.lt_of_lt_of_le hl_B hb.size
  clear hb
  go_wp2_with fail
  refine calls_name fun W1 hW => ?_
  have hs_W1 : wa.heap.size ≤ W1.heap.size := by rw [← hW]; (first | omega | (simp; done) | (simp; omega))
  have HK_W1 := Lib.hid (show Kp N wa W1 by rw [← hW]; exact KpA)
  replace k_A_0 : W1.cell? ⟨w.heap.size, 0, none⟩ = some (.bool s3) := by rw [← hW]; (first | (go_simp; done) | (simp [go_sem, k_A_0]; done) | (simp [go_sem, k_A_0, k_A_1, k_A_2]; done) | (simp [go_sem, k_A_0, k_A_1, k_A_2, k_B_0, k_B_1, k_B_2, f_A, f_B, hl_A, hl_B]; done))
  replace k_A_1 : W1.cell? ⟨w.heap.size, 1, none⟩ = some (.slice a3 na3 ca3) := by rw [← hW]; (first | (go_simp; done) | (simp [go_sem, k_A_1]; done) | (simp [go_sem, k_A_0, k_A_1, k_A_2]; done) | (simp [go_sem, k_A_0, k_A_1, k_A_2, k_B_0, k_B_1, k_B_2, f_A, f_B, hl_A, hl_B]; done))
  replace k_A_2 : W1.cell? ⟨w.heap.size, 2, none⟩ = some (.slice d3 nd3 cd3) := by rw [← hW]; (first | (go_simp; done) | (simp [go_sem, k_A_2]; done) | (simp [go_sem, k_A_0, k_A_1, k_A_2]; done) | (simp [go_sem, k_A_0, k_A_1, k_A_2, k_B_0, k_B_1, k_B_2, f_A, f_B, hl_A, hl_B]; done))
  replace f_A : ∀ o, W1.frozen? ⟨w.heap.size, o, none⟩ = false := by intro o; rw [← hW]; (first | with_reducible exact f_A o | (simp [go_sem, f_A]; done) | (simp [go_sem, f_A, hl_A]; done) | (go_simp; done) | (simp [go_sem, k_A_0, k_A_1, k_A_2, k_B_0, k_B_1, k_B_2, f_A, f_B, hl_A, hl_B]; done))
  replace HX_A := Lib.hid (show Bn W1 (w.heap.size) by rw [← hW]; exact KpA)
  replace k_B_0 : W1.cell? ⟨w.heap.size + 1, 0, none⟩ = some (.bool s2) := by rw [← hW]; (first | (go_simp; done) | (simp [go_sem, k_B_0]; done) | (simp [go_sem, k_B_0, k_B_1, k_B_2]; done) | (simp [go_sem, k_A_0, k_A_1, k_A_2, k_B_0, k_B_1, k_B_2, f_A, f_B, hl_A, hl_B]; done))
  replace k_B_1 : W1.cell? ⟨w.heap.size + 1, 1, none⟩ = some (.slice a2 na2 ca2) := by rw [← hW]; (first | (go_simp; done) | (simp [go_sem, k_B_1]; done) | (simp [go_sem, k_B_0, k_B_1, k_B_2]; done) | (simp [go_sem, k_A_0, k_A_1, k_A_2, k_B_0, k_B_1, k_B_2, f_A, f_B, hl_A, hl_B]; done))
  replace k_B_2 : W1.cell? ⟨w.heap.size + 1, 2, none⟩ = some (.slice d2 nd2 cd2) := by rw [← hW]; (first | (go_simp; done) | (simp [go_sem, k_B_2]; done) | (simp [go_sem, k_B_0, k_B_1, k_B_2]; done) | (simp [go_sem, k_A_0, k_A_1, k_A_2, k_B_0, k_B_1, k_B_2, f_A, f_B, hl_A, hl_B]; done))
  replace f_B : ∀ o, W1.frozen? ⟨w.heap.size + 1, o, none⟩ = false := by intro o; rw [← hW]; (first | with_reducible exact f_B o | (simp [go_sem, f_B]; done) | (simp [go_sem, f_B, hl_B]; done) | (go_simp; done) | (simp [go_sem, k_A_0, k_A_1, k_A_2, k_B_0, k_B_1, k_B_2, f_A, f_B, hl_A, hl_B]; done))
  replace HX_B := Lib.hid (show Bn W1 (w.heap.size + 1) by rw [← hW]; exact KpA)
  replace HX := Lib.hid (HX.out.keep HK_W1.out)
  replace HY := Lib.hid (HY.out.keep HK_W1.out)
  replace HB := Lib.hid (show Below w.heap.size w W1 by rw [← hW]; exact BlA)
  replace hN : N ≤ W1.heap.size := by rw [← hW]; (first | omega | (simp; done) | (simp; omega))
  replace hs0 : w.heap.size ≤ W1.heap.size := by rw [← hW]; (first | omega | (simp; done) | (simp; omega))
  replace hl_A : w.heap.size < W1.heap.size := by rw [← hW]; (first | omega | (simp; done) | (simp; omega))
  replace hl_B : w.heap.size + 1 < W1.heap.size := by rw [← hW]; (first | omega | (simp; done) | (simp; omega))
  clear hW HK_W1
  have HZ := HX
  clear HX
  have HX := HY
  clear HY
  have HY := HZ
  clear HZ
  have HA := Lib.hid (HAw.out.below HB.out)
  refine (bonf_or (N := N) _ n _ q _ _ _ _ _ _ _ L be _ hN HA.out HX.out hL 0 HC1.out).mono ?_
  rintro e w0 ⟨v0, rfl, hb⟩
  have hs_w0 : W1.heap.size ≤ w0.heap.size := hb.size
  replace k_A_0 : w0.cell? ⟨w.heap.size, 0, none⟩ = some (.bool s3) := (hb.cell (p := ⟨w.heap.size, 0, none⟩) hl_A).trans k_A_0
  replace k_A_1 : w0.cell? ⟨w.heap.size, 1, none⟩ = some (.slice a3 na3 ca3) := (hb.cell (p := ⟨w.heap.size, 1, none⟩) hl_A).trans k_A_1
  replace k_A_2 : w0.cell? ⟨w.heap.size, 2, none⟩ = some (.slice d3 nd3 cd3) := (hb.cell (p := ⟨w.heap.size, 2, none⟩) hl_A).trans k_A_2
  replace f_A : ∀ o, w0.frozen? ⟨w.heap.size, o, none⟩ = false := fun o => (hb.frozen (p := ⟨w.heap.size, o, none⟩) hl_A).trans (f_A o)
  replace HX_A := Lib.hid (HX_A.out.below hb)
  replace k_B_0 : w0.cell? ⟨w.heap.size + 1, 0, none⟩ = some (.bool s2) := (hb.cell (p := ⟨w.heap.size + 1, 0, none⟩) hl_B).trans k_B_0
  replace k_B_1 : w0.cell? ⟨w.heap.size + 1, 1, none⟩ = some (.slice a2 na2 ca2) := (hb.cell (p := ⟨w.heap.size + 1, 1, none⟩) hl_B).trans k_B_1
  replace k_B_2 : w0.cell? ⟨w.heap.size + 1, 2, none⟩ = some (.slice d2 nd2 cd2) := (hb.cell (p := ⟨w.heap.size + 1, 2, none⟩) hl_B).trans k_B_2
  replace f_B : ∀ o, w0.frozen? ⟨w.heap.size + 1, o, none⟩ = false := fun o => (hb.frozen (p := ⟨w.heap.size + 1, o, none⟩) hl_B).trans (f_B o)
  replace HX_B := Lib.hid (HX_B.out.below hb)
  replace HX := Lib.hid (HX.out.below hb)
  replace HY := Lib.hid (HY.out.below hb)
  replace HB := Lib.hid (HB.out.trans (hb.mono hs0))
  replace hN : N ≤ w0.heap.size := Nat.le_trans hN hb.size
  replace hs0 : w.heap.size ≤ w0.heap.size := Nat.le_trans hs0 hb.size
  replace hl_A : w.heap.size < w0.heap.size := Nat.lt_of_lt_of_le hl_A hb.size
  replace hl_B : w.heap.size + 1 < w0.heap.size := Nat.lt_of_lt_of_le hl_B hb.size
  replace HA := Lib.hid (HA.out.below hb)
  clear hb
  go_wp2_with fail
  refine calls_name fun V1 hW => ?_
  have HL_V1 := Lib.hid (show Below w0.heap.size w0 V1 by rw [← hW]; exact BlA)
  have hs_V1 : w0.heap.size ≤ V1.heap.size := by rw [← hW]; (first | omega | (simp; done) | (simp; omega))
  have HK_V1 := Lib.hid (show Kp N w0 V1 by rw [← hW]; exact KpA)
  replace k_A_0 : V1.cell? ⟨w.heap.size, 0, none⟩ = some (.bool s3) := (HL_V1.out.cell (p := ⟨w.heap.size, 0, none⟩) hl_A).trans k_A_0
  replace k_A_1 : V1.cell? ⟨w.heap.size, 1, none⟩ = some (.slice a3 na3 ca3) := (HL_V1.out.cell (p := ⟨w.heap.size, 1, none⟩) hl_A).trans k_A_1
  replace k_A_2 : V1.cell? ⟨w.heap.size, 2, none⟩ = some (.slice d3 nd3 cd3) := (HL_V1.out.cell (p := ⟨w.heap.size, 2, none⟩) hl_A).trans k_A_2
  replace f_A : ∀ o, V1.frozen? ⟨w.heap.size, o, none⟩ = false := fun o => (HL_V1.out.frozen (p := ⟨w.heap.size, o, none⟩) hl_A).trans (f_A o)
  replace HX_A := Lib.hid (show Bn V1 (w.heap.size) by rw [← hW]; exact KpA)
  replace k_B_0 : V1.cell? ⟨w.heap.size + 1, 0, none⟩ = some (.bool s2) := (HL_V1.out.cell (p := ⟨w.heap.size + 1, 0, none⟩) hl_B).trans k_B_0
  replace k_B_1 : V1.cell? ⟨w.heap.size + 1, 1, none⟩ = some (.slice a2 na2 ca2) := (HL_V1.out.cell (p := ⟨w.heap.size + 1, 1, none⟩) hl_B).trans k_B_1
  replace k_B_2 : V1.cell? ⟨w.heap.size + 1, 2, none⟩ = some (.slice d2 nd2 cd2) := (HL_V1.out.cell (p := ⟨w.heap.size + 1, 2, none⟩) hl_B).trans k_B_2
  replace f_B : ∀ o, V1.frozen? ⟨w.heap.size + 1, o, none⟩ = false := fun o => (HL_V1.out.frozen (p := ⟨w.heap.size + 1, o, none⟩) hl_B).trans (f_B o)
  replace HX_B := Lib.hid (show Bn V1 (w.heap.size + 1) by rw [← hW]; exact KpA)
  replace HX := Lib.hid (HX.out.keep HK_V1.out)
  replace HY := Lib.hid (HY.out.keep HK_V1.out)
  replace HB := Lib.hid (show Below w.heap.size w V1 by rw [← hW]; exact BlA)
  replace hN : N ≤ V1.heap.size := by rw [← hW]; (first | omega | (simp; done) | (simp; omega))
  replace hs0 : w.heap.size ≤ V1.heap.size := by rw [← hW]; (first | omega | (simp; done) | (simp; omega))
  replace hl_A : w.heap.size < V1.heap.size := by rw [← hW]; (first | omega | (simp; done) | (simp; omega))
  replace hl_B : w.heap.size + 1 < V1.heap.size := by rw [← hW]; (first | omega | (simp; done) | (simp; omega))
  replace HA := Lib.hid (HA.out.below HL_V1.out)
  clear HL_V1
  clear hW HK_V1
  refine (bonf_or (N := N) _ n _ q _ _ _ _ _ _ _ L al _ hN HA.out HY.out hL c2 HC2.out).mono ?_
  rintro e w1 ⟨v1, rfl, hb⟩
  have hs_w1 : V1.heap.size ≤ w1.heap.size := hb.size
  replace k_A_0 : w1.cell? ⟨w.heap.size, 0, none⟩ = some (.bool s3) := (hb.cell (p := ⟨w.heap.size, 0, none⟩) hl_A).trans k_A_0
  replace k_A_1 : w1.cell? ⟨w.heap.size, 1, none⟩ = some (.slice a3 na3 ca3) := (hb.cell (p := ⟨w.heap.size, 1, none⟩) hl_A).trans k_A_1
  replace k_A_2 : w1.cell? ⟨w.heap.size, 2, none⟩ = some (.slice d3 nd3 cd3) := (hb.cell (p := ⟨w.heap.size, 2, none⟩) hl_A).trans k_A_2
  replace f_A : ∀ o, w1.frozen? ⟨w.heap.size, o, none⟩ = false := fun o => (hb.frozen (p := ⟨w.heap.size, o, none⟩) hl_A).trans (f_A o)
  replace HX_A := Lib.hid (HX_A.out.below hb)
  replace k_B_0 : w1.cell? ⟨w.heap.size + 1, 0, none⟩ = some (.bool s2) := (hb.cell (p := ⟨w.heap.size + 1, 0, none⟩) hl_B).trans k_B_0
  replace k_B_1 : w1.cell? ⟨w.heap.size + 1, 1, none⟩ = some (.slice a2 na2 ca2) := (hb.cell (p := ⟨w.heap.size + 1, 1, none⟩) hl_B).trans k_B_1
  replace k_B_2 : w1.cell? ⟨w.heap.size + 1, 2, none⟩ = some (.slice d2 nd2 cd2) := (hb.cell (p := ⟨w.heap.size + 1, 2, none⟩) hl_B).trans k_B_2
  replace f_B : ∀ o, w1.frozen? ⟨w.heap.size + 1, o, none⟩ = false := fun o => (hb.frozen (p := ⟨w.heap.size + 1, o, none⟩) hl_B).trans (f_B o)
  replace HX_B := Lib.hid (HX_B.out.below hb)
  replace HX := Lib.hid (HX.out.below hb)
  replace HY := Lib.hid (HY.out.below hb)
  replace HB := Lib.hid (HB.out.trans (hb.mono hs0))
  replace hN : N ≤ w1.heap.size := Nat.le_trans hN hb.size
  replace hs0 : w.heap.size ≤ w1.heap.size := Nat.le_trans hs0 hb.size
  replace hl_A : w.heap.size < w1.heap.size := Nat.lt_of_lt_of_le hl_A hb.size
  replace hl_B : w.heap.size + 1 < w1.heap.size := Nat.lt_of_lt_of_le hl_B hb.size
  replace HA := Lib.hid (HA.out.below hb)
  clear hb
  go_wp2_with fail
  refine calls_name fun V2 hW => ?_
  have HL_V2 := Lib.hid (show Below w1.heap.size w1 V2 by rw [← hW]; exact BlA)
  have hs_V2 : w1.heap.size ≤ V2.heap.size := by rw [← hW]; (first | omega | (simp; done) | (simp; omega))
  have HK_V2 := Lib.hid (show Kp N w1 V2 by rw [← hW]; exact KpA)
  replace k_A_0 : V2.cell? ⟨w.heap.size, 0, none⟩ = some (.bool s3) := (HL_V2.out.cell (p := ⟨w.heap.size, 0, none⟩) hl_A).trans k_A_0
  replace k_A_1 : V2.cell? ⟨w.heap.size, 1, none⟩ = some (.slice a3 na3 ca3) := (HL_V2.out.cell (p := ⟨w.heap.size, 1, none⟩) hl_A).trans k_A_1
  replace k_A_2 : V2.cell? ⟨w.heap.size, 2, none⟩ = some (.slice d3 nd3 cd3) := (HL_V2.out.cell (p := ⟨w.heap.size, 2, none⟩) hl_A).trans k_A_2
  replace f_A : ∀ o, V2.frozen? ⟨w.heap.size, o, none⟩ = false := fun o => (HL_V2.out.frozen (p := ⟨w.heap.size, o, none⟩) hl_A).trans (f_A o)
  replace HX_A := Lib.hid (show Bn V2 (w.heap.size) by rw [← hW]; exact KpA)
  replace k_B_0 : V2.cell? ⟨w.heap.size + 1, 0, none⟩ = some (.bool s2) := (HL_V2.out.cell (p := ⟨w.heap.size + 1, 0, none⟩) hl_B).trans k_B_0
  replace k_B_1 : V2.cell? ⟨w.heap.size + 1, 1, none⟩ = some (.slice a2 na2 ca2) := (HL_V2.out.cell (p := ⟨w.heap.size + 1, 1, none⟩) hl_B).trans k_B_1
  replace k_B_2 : V2.cell? ⟨w.heap.size + 1, 2, none⟩ = some (.slice d2 nd2 cd2) := (HL_V2.out.cell (p := ⟨w.heap.size + 1, 2, none⟩) hl_B).trans k_B_2
  replace f_B : ∀ o, V2.frozen? ⟨w.heap.size + 1, o, none⟩ = false := fun o => (HL_V2.out.frozen (p := ⟨w.heap.size + 1, o, none⟩) hl_B).trans (f_B o)
  replace HX_B := Lib.hid (show Bn V2 (w.heap.size + 1) by rw [← hW]; exact KpA)
  replace HX := Lib.hid (HX.out.keep HK_V2.out)
  replace HY := Lib.hid (HY.out.keep HK_V2.out)
  replace HB := Lib.hid (show Below w.heap.size w V2 by rw [← hW]; exact BlA)
  replace hN : N ≤ V2.heap.size := by rw [← hW]; (first | omega | (simp; done) | (simp; omega))
  replace hs0 : w.heap.size ≤ V2.heap.size := by rw [← hW]; (first | omega | (simp; done) | (simp; omega))
  replace hl_A : w.heap.size < V2.heap.size := by rw [← hW]; (first | omega | (simp; done) | (simp; omega))
  replace hl_B : w.heap.size + 1 < V2.heap.size := by rw [← hW]; (first | omega | (simp; done) | (simp; omega))
  replace HA := Lib.hid (HA.out.below HL_V2.out)
  clear HL_V2
  clear hW HK_V2
  refine (holm_or (N := N) _ n _ q _ _ _ _ _ _ _ L be _ hN HA.out HX.out hL 0 HC1.out).mono ?_
  rintro e w2 ⟨v2, rfl, hb⟩
  have hs_w2 : V2.heap.size ≤ w2.heap.size := hb.size
  replace k_A_0 : w2.cell? ⟨w.heap.size, 0, none⟩ = some (.bool s3) := (hb.cell (p := ⟨w.heap.size, 0, none⟩) hl_A).trans k_A_0
  replace k_A_1 : w2.cell? ⟨w.heap.size, 1, none⟩ = some (.slice a3 na3 ca3) := (hb.cell (p := ⟨w.heap.size, 1, none⟩) hl_A).trans k_A_1
  replace k_A_2 : w2.cell? ⟨w.heap.size, 2, none⟩ = some (.slice d3 nd3 cd3) := (hb.cell (p := ⟨w.heap.size, 2, none⟩) hl_A).trans k_A_2
  replace f_A : ∀ o, w2.frozen? ⟨w.heap.size, o, none⟩ = false := fun o => (hb.frozen (p := ⟨w.heap.size, o, none⟩) hl_A).trans (f_A o)
  replace HX_A := Lib.hid (HX_A.out.below hb)
  replace k_B_0 : w2.cell? ⟨w.heap.size + 1, 0, none⟩ = some (.bool s2) := (hb.cell (p := ⟨w.heap.size + 1, 0, none⟩) hl_B).trans k_B_0
  replace k_B_1 : w2.cell? ⟨w.heap.size + 1, 1, none⟩ = some (.slice a2 na2 ca2) := (hb.cell (p := ⟨w.heap.size + 1, 1, none⟩) hl_B).trans k_B_1
  replace k_B_2 : w2.cell? ⟨w.heap.size + 1, 2, none⟩ = some (.slice d2 nd2 cd2) := (hb.cell (p := ⟨w.heap.size + 1, 2, none⟩) hl_B).trans k_B_2
  replace f_B : ∀ o, w2.frozen? ⟨w.heap.size + 1, o, none⟩ = false := fun o => (hb.frozen (p := ⟨w.heap.size + 1, o, none⟩) hl_B).trans (f_B o)
  replace HX_B := Lib.hid (HX_B.out.below hb)
  replace HX := Lib.hid (HX.out.below hb)
  replace HY := Lib.hid (HY.out.below hb)
  replace HB := Lib.hid (HB.out.trans (hb.mono hs0))
  replace hN : N ≤ w2.heap.size := Nat.le_trans hN hb.size
  replace hs0 : w.heap.size ≤ w2.heap.size := Nat.le_trans hs0 hb.size
  replace hl_A : w.heap.size < w2.heap.size := Nat.lt_of_lt_of_le hl_A hb.size
  replace hl_B : w.heap.size + 1 < w2.heap.size := Nat.lt_of_lt_of_le hl_B hb.size
  replace HA := Lib.hid (HA.out.below hb)
  clear hb
  go_wp2_with fail
  refine calls_name fun V3 hW => ?_
  have HL_V3 := Lib.hid (show Below w2.heap.size w2 V3 by rw [← hW]; exact BlA)
  have hs_V3 : w2.heap.size ≤ V3.heap.size := by rw [← hW]; (first | omega | (simp; done) | (simp; omega))
  have HK_V3 := Lib.hid (show Kp N w2 V3 by rw [← hW]; exact KpA)
  replace k_A_0 : V3.cell? ⟨w.heap.size, 0, none⟩ = some (.bool s3) := (HL_V3.out.cell (p := ⟨w.heap.size, 0, none⟩) hl_A).trans k_A_0
  replace k_A_1 : V3.cell? ⟨w.heap.size, 1, none⟩ = some (.slice a3 na3 ca3) := (HL_V3.out.cell (p := ⟨w.heap.size, 1, none⟩) hl_A).trans k_A_1
  replace k_A_2 : V3.cell? ⟨w.heap.size, 2, none⟩ = some (.slice d3 nd3 cd3) := (HL_V3.out.cell (p := ⟨w.heap.size, 2, none⟩) hl_A).trans k_A_2
  replace f_A : ∀ o, V3.frozen? ⟨w.heap.size, o, none⟩ = false := fun o => (HL_V3.out.frozen (p := ⟨w.heap.size, o, none⟩) hl_A).trans (f_A o)
  replace HX_A := Lib.hid (show Bn V3 (w.heap.size) by rw [← hW]; exact KpA)
  replace k_B_0 : V3.cell? ⟨w.heap.size + 1, 0, none⟩ = some (.bool s2) := (HL_V3.out.cell (p := ⟨w.heap.size + 1, 0, none⟩) hl_B).trans k_B_0
  replace k_B_1 : V3.cell? ⟨w.heap.size + 1, 1, none⟩ = some (.slice a2 na2 ca2) := (HL_V3.out.cell (p := ⟨w.heap.size + 1, 1, none⟩) hl_B).trans k_B_1
  replace k_B_2 : V3.cell? ⟨w.heap.size + 1, 2, none⟩ = some (.slice d2 nd2 cd2) := (HL_V3.out.cell (p := ⟨w.heap.size + 1, 2, none⟩) hl_B).trans k_B_2
  replace f_B : ∀ o, V3.frozen? ⟨w.heap.size + 1, o, none⟩ = false := fun o => (HL_V3.out.frozen (p := ⟨w.heap.size + 1, o, none⟩) hl_B).trans (f_B o)
  replace HX_B := Lib.hid (show Bn V3 (w.heap.size + 1) by rw [← hW]; exact KpA)
  replace HX := Lib.hid (HX.out.keep HK_V3.out)
  replace HY := Lib.hid (HY.out.keep HK_V3.out)
  replace HB := Lib.hid (show Below w.heap.size w V3 by rw [← hW]; exact BlA)
  replace hN : N ≤ V3.heap.size := by rw [← hW]; (first | omega | (simp; done) | (simp; omega))
  replace hs0 : w.heap.size ≤ V3.heap.size := by rw [← hW]; (first | omega | (simp; done) | (simp; omega))
  replace hl_A : w.heap.size < V3.heap.size := by rw [← hW]; (first | omega | (simp; done) | (simp; omega))
  replace hl_B : w.heap.size + 1 < V3.heap.size := by rw [← hW]; (first | omega | (simp; done) | (simp; omega))
  replace HA := Lib.hid (HA.out.below HL_V3.out)
  clear HL_V3
  clear hW HK_V3
  refine (holm_or (N := N) _ n _ q _ _ _ _ _ _ _ L al _ hN HA.out HY.out hL c2 HC2.out).mono ?_
  rintro e w3 ⟨v3, rfl, hb⟩
  have hs_w3 : V3.heap.size ≤ w3.heap.size := hb.size
  replace k_A_0 : w3.cell? ⟨w.heap.size, 0, none⟩ = some (.bool s3) := (hb.cell (p := ⟨w.heap.size, 0, none⟩) hl_A).trans k_A_0
  replace k_A_1 : w3.cell? ⟨w.heap.size, 1, none⟩ = some (.slice a3 na3 ca3) := (hb.cell (p := ⟨w.heap.size, 1, none⟩) hl_A).trans k_A_1
  replace k_A_2 : w3.cell? ⟨w.heap.size, 2, none⟩ = some (.slice d3 nd3 cd3) := (hb.cell (p := ⟨w.heap.size, 2, none⟩) hl_A).trans k_A_2
  replace f_A : ∀ o, w3.frozen? ⟨w.heap.size, o, none⟩ = false := fun o => (hb.frozen (p := ⟨w.heap.size, o, none⟩) hl_A).trans (f_A o)
  replace HX_A := Lib.hid (HX_A.out.below hb)
  replace k_B_0 : w3.cell? ⟨w.heap.size + 1, 0, none⟩ = some (.bool s2) := (hb.cell (p := ⟨w.heap.size + 1, 0, none⟩) hl_B).trans k_B_0
  replace k_B_1 : w3.cell? ⟨w.heap.size + 1, 1, none⟩ = some (.slice a2 na2 ca2) := (hb.cell (p := ⟨w.heap.size + 1, 1, none⟩) hl_B).trans k_B_1
  replace k_B_2 : w3.cell? ⟨w.heap.size + 1, 2, none⟩ = some (.slice d2 nd2 cd2) := (hb.cell (p := ⟨w.heap.size + 1, 2, none⟩) hl_B).trans k_B_2
  replace f_B : ∀ o, w3.frozen? ⟨w.heap.size + 1, o, none⟩ = false := fun o => (hb.frozen (p := ⟨w.heap.size + 1, o, none⟩) hl_B).trans (f_B o)
  replace HX_B := Lib.hid (HX_B.out.below hb)
  replace HX := Lib.hid (HX.out.below hb)
  replace HY := Lib.hid (HY.out.below hb)
  replace HB := Lib.hid (HB.out.trans (hb.mono hs0))
  replace hN : N ≤ w3.heap.size := Nat.le_trans hN hb.size
  replace hs0 : w.heap.size ≤ w3.heap.size := Nat.le_trans hs0 hb.size
  replace hl_A : w.heap.size < w3.heap.size := Nat.lt_of_lt_of_le hl_A hb.size
  replace hl_B : w.heap.size + 1 < w3.heap.size := Nat.lt_of_lt_of_le hl_B hb.size
  replace HA := Lib.hid (HA.out.below hb)
  clear hb
  go_wp2_with fail
  refine calls_name fun Z9 hW => ?_
  have HL_Z9 := Lib.hid (show Below w3.heap.size w3 Z9 by rw [← hW]; exact BlA)
  have hs_Z9 : w3.heap.size ≤ Z9.heap.size := by rw [← hW]; (first | omega | (simp; done) | (simp; omega))
  have HK_Z9 := Lib.hid (show Kp N w3 Z9 by rw [← hW]; exact KpA)
  replace k_A_0 : Z9.cell? ⟨w.heap.size, 0, none⟩ = some (.bool s3) := (HL_Z9.out.cell (p := ⟨w.heap.size, 0, none⟩) hl_A).trans k_A_0
  replace k_A_1 : Z9.cell? ⟨w.heap.size, 1, none⟩ = some (.slice a3 na3 ca3) := (HL_Z9.out.cell (p := ⟨w.heap.size, 1, none⟩) hl_A).trans k_A_1
  replace k_A_2 : Z9.cell? ⟨w.heap.size, 2, none⟩ = some (.slice d3 nd3 cd3) := (HL_Z9.out.cell (p := ⟨w.heap.size, 2, none⟩) hl_A).trans k_A_2
  replace f_A : ∀ o, Z9.frozen? ⟨w.heap.size, o, none⟩ = false := fun o => (HL_Z9.out.frozen (p := ⟨w.heap.size, o, none⟩) hl_A).trans (f_A o)
  replace HX_A := Lib.hid (show Bn Z9 (w.heap.size) by rw [← hW]; exact KpA)
  replace k_B_0 : Z9.cell? ⟨w.heap.size + 1, 0, none⟩ = some (.bool s2) := (HL_Z9.out.cell (p := ⟨w.heap.size + 1, 0, none⟩) hl_B).trans k_B_0
  replace k_B_1 : Z9.cell? ⟨w.heap.size + 1, 1, none⟩ = some (.slice a2 na2 ca2) := (HL_Z9.out.cell (p := ⟨w.heap.size + 1, 1, none⟩) hl_B).trans k_B_1
  replace k_B_2 : Z9.cell? ⟨w.heap.size + 1, 2, none⟩ = some (.slice d2 nd2 cd2) := (HL_Z9.out.cell (p := ⟨w.heap.size + 1, 2, none⟩) hl_B).trans k_B_2
  replace f_B : ∀ o, Z9.frozen? ⟨w.heap.size + 1, o, none⟩ = false := fun o => (HL_Z9.out.frozen (p := ⟨w.heap.size + 1, o, none⟩) hl_B).trans (f_B o)
  replace HX_B := Lib.hid (show Bn Z9 (w.heap.size + 1) by rw [← hW]; exact KpA)
  replace HX := Lib.hid (HX.out.keep HK_Z9.out)
  replace HY := Lib.hid (HY.out.keep HK_Z9.out)
  replace HB := Lib.hid (show Below w.heap.size w Z9 by rw [← hW]; exact BlA)
  replace hN : N ≤ Z9.heap.size := by rw [← hW]; (first | omega | (simp; done) | (simp; omega))
  replace hs0 : w.heap.size ≤ Z9.heap.size := by rw [← hW]; (first | omega | (simp; done) | (simp; omega))
  replace hl_A : w.heap.size < Z9.heap.size := by rw [← hW]; (first | omega | (simp; done) | (simp; omega))
  replace hl_B : w.heap.size + 1 < Z9.heap.size := by rw [← hW]; (first | omega | (simp; done) | (simp; omega))
  replace HA := Lib.hid (HA.out.below HL_Z9.out)
  clear HL_Z9
  clear hW HK_Z9
  refine (dawake_any (N := N) _ hN (HTw.out.below HB.out)).mono ?_
  rintro e wh ⟨rfl, hb⟩
  have hs_wh : Z9.heap.size ≤ wh.heap.size := hb.size
  replace k_A_0 : wh.cell? ⟨w.heap.size, 0, none⟩ = some (.bool s3) := (hb.cell (p := ⟨w.heap.size, 0, none⟩) hl_A).trans k_A_0
  replace k_A_1 : wh.cell? ⟨w.heap.size, 1, none⟩ = some (.slice a3 na3 ca3) := (hb.cell (p := ⟨w.heap.size, 1, none⟩) hl_A).trans k_A_1
  replace k_A_2 : wh.cell? ⟨w.heap.size, 2, none⟩ = some (.slice d3 nd3 cd3) := (hb.cell (p := ⟨w.heap.size, 2, none⟩) hl_A).trans k_A_2
  replace f_A : ∀ o, wh.frozen? ⟨w.heap.size, o, none⟩ = false := fun o => (hb.frozen (p := ⟨w.heap.size, o, none⟩) hl_A).trans (f_A o)
  replace HX_A := Lib.hid (HX_A.out.below hb)
  replace k_B_0 : wh.cell? ⟨w.heap.size + 1, 0, none⟩ = some (.bool s2) := (hb.cell (p := ⟨w.heap.size + 1, 0, none⟩) hl_B).trans k_B_0
  replace k_B_1 : wh.cell? ⟨w.heap.size + 1, 1, none⟩ = some (.slice a2 na2 ca2) := (hb.cell (p := ⟨w.heap.size + 1, 1, none⟩) hl_B).trans k_B_1
  replace k_B_2 : wh.cell? ⟨w.heap.size + 1, 2, none⟩ = some (.slice d2 nd2 cd2) := (hb.cell (p := ⟨w.heap.size + 1, 2, none⟩) hl_B).trans k_B_2
  replace f_B : ∀ o, wh.frozen? ⟨w.heap.size + 1, o, none⟩ = false := fun o => (hb.frozen (p := ⟨w.heap.size + 1, o, none⟩) hl_B).trans (f_B o)
  replace HX_B := Lib.hid (HX_B.out.below hb)
  replace HX := Lib.hid (HX.out.below hb)
  replace HY := Lib.hid (HY.out.below hb)
  replace HB := Lib.hid (HB.out.trans (hb.mono hs0))
  replace hN : N ≤ wh.heap.size := Nat.le_trans hN hb.size
  replace hs0 : w.heap.size ≤ wh.heap.size := Nat.le_trans hs0 hb.size
  replace hl_A : w.heap.size < wh.heap.size := Nat.lt_of_lt_of_le hl_A hb.size
  replace hl_B : w.heap.size + 1 < wh.heap.size := Nat.lt_of_lt_of_le hl_B hb.size
  replace HA := Lib.hid (HA.out.below hb)
  clear hb
  go_wp2_with fail
  go_ret
  exact ⟨rfl, HB.out⟩

set_option maxHeartbeats 8000000 in
set_option maxRecDepth 100000 in
theorem dlev_sok {N : Nat} (a : Option Addr) (n cap : Nat) (q : Nat → Rat) (s2 s3 : Bool) (a2 d2 a3 d3 : Option Addr) (na2 ca2 nd2 cd2 na3 ca3 nd3 cd3 L : Nat) (al be : Rat) (w : World) (hN : N ≤ w.heap.size) (h : Rs N w a n cap q L) (h2 : Rt N w s2 a2 na2 ca2 d2 nd2 cd2 al L) (h3 : Rt N w s3 a3 na3 ca3 d3 nd3 cd3 be L) (hL : L ≤ 2097152) (htab : TabW w) (hsw : decide (be < al) = true) (hc1 : chkC q n be = 0) (hc2 : chkC q n al = 0) :
    Calls Tryd.prog 6 #[.slice a n cap, .agg #[.bool s2, .slice a2 na2 ca2, .slice d2 nd2 cd2], .agg #[.bool s3, .slice a3 na3 ca3, .slice d3 nd3 cd3]] w fun e w' => e = .returned (.bool true) ∧ Below w.heap.size w w' := by
  have HXY := Lib.hid (show be ≤ al by rw [decide_eq_true_eq] at hsw; grind)
  have HC1 := Lib.hid hc1
  have HC2 := Lib.hid hc2
  obtain ⟨h60, _, _⟩ := chk_ok hc1
  clear hc1 hc2
  have HAw := Lib.hid h
  have HTw := Lib.hid htab
  have HX := Lib.hid h2
  have HY := Lib.hid h3
  have bc := h.1
  have bm := h.2.1
  unfold maxLen at bm
  clear h h2 h3 htab
  have hN0 := hN
  have HB := Lib.hid (Below.refl w.heap.size w)
  obtain ⟨κ, hκ⟩ : ∃ κ, cmpQ al be = κ := ⟨_, rfl⟩
  have dk : decide (0 < κ) = true := by rw [← hκ]; exact cmp_gt2 _ _ _ hsw
  have HK := Lib.hid hκ
  clear hκ hsw
  go_enter Tryd.func6, Tryd.ntmps6
  go_wp2_with fail
  refine calls_name fun W0 hW => ?_
  have hs_W0 : w.heap.size ≤ W0.heap.size := by rw [← hW]; (first | omega | (simp; done) | (simp; omega))
  have HK_W0 := Lib.hid (show Kp N w W0 by rw [← hW]; exact KpA)
  have k_A_0 : W0.cell? ⟨w.heap.size, 0, none⟩ = some (.bool s2) := by rw [← hW]; (first | (go_simp; done) | (simp; done) | (simp [go_sem]; done) | (simp [go_sem]; done))
  have k_A_1 : W0.cell? ⟨w.heap.size, 1, none⟩ = some (.slice a2 na2 ca2) := by rw [← hW]; (first | (go_simp; done) | (simp; done) | (simp [go_sem]; done) | (simp [go_sem]; done))
  have k_A_2 : W0.cell? ⟨w.heap.size, 2, none⟩ = some (.slice d2 nd2 cd2) := by rw [← hW]; (first | (go_simp; done) | (simp; done) | (simp [go_sem]; done) | (simp [go_sem]; done))
  have f_A : ∀ o, W0.frozen? ⟨w.heap.size, o, none⟩ = false := by intro o; rw [← hW]; (first | (go_simp; done) | (simp; done) | (simp [go_sem]; done) | (simp [go_sem]; done))
  have HX_A := Lib.hid (show Bn W0 (w.heap.size) by rw [← hW]; exact KpA)
  have k_B_0 : W0.cell? ⟨w.heap.size + 1, 0, none⟩ = some (.bool s3) := by rw [← hW]; (first | (go_simp; done) | (simp; done) | (simp [go_sem]; done) | (simp [go_sem]; done))
  have k_B_1 : W0.cell? ⟨w.heap.size + 1, 1, none⟩ = some (.slice a3 na3 ca3) := by rw [← hW]; (first | (go_simp; done) | (simp; done) | (simp [go_sem]; done) | (simp [go_sem]; done))
  have k_B_2 : W0.cell? ⟨w.heap.size + 1, 2, none⟩ = some (.slice d3 nd3 cd3) := by rw [← hW]; (first | (go_simp; done) | (simp; done) | (simp [go_sem]; done) | (simp [go_sem]; done))
  have f_B : ∀ o, W0.frozen? ⟨w.heap.size + 1, o, none⟩ = false := by intro o; rw [← hW]; (first | (go_simp; done) | (simp; done) | (simp [go_sem]; done) | (simp [go_sem]; done))
  have HX_B := Lib.hid (show Bn W0 (w.heap.size + 1) by rw [← hW]; exact KpA)
  replace HX := Lib.hid (HX.out.keep HK_W0.out)
  replace HY := Lib.hid (HY.out.keep HK_W0.out)
  replace HB := Lib.hid (show Below w.heap.size w W0 by rw [← hW]; exact BlA)
  replace hN : N ≤ W0.heap.size := by rw [← hW]; (first | omega | (simp; done) | (simp; omega))
  have hs0 : w.heap.size ≤ W0.heap.size := by rw [← hW]; (first | omega | (simp; done) | (simp; omega))
  have hl_A : w.heap.size < W0.heap.size := by rw [← hW]; (first | omega | (simp; done) | (simp; omega))
  have hl_B : w.heap.size + 1 < W0.heap.size := by rw [← hW]; (first | omega | (simp; done) | (simp; omega))
  clear hW HK_W0
  have hd_A_B : w.heap.size < w.heap.size + 1 := by omega
  refine (rcmp_any (N := N) _ _ _ _ _ _ _ _ _ _ _ _ _ _ L L al be _ hN HX.out HY.out (by omega) (by omega)).mono ?_
  rw [HK.out]
  rintro e wa ⟨rfl, hb⟩
  have hs_wa : W0.heap.size ≤ wa.heap.size := hb.size
  replace k_A_0 : wa.cell? ⟨w.heap.size, 0, none⟩ = some (.bool s2) := (hb.cell (p := ⟨w.heap.size, 0, none⟩) hl_A).trans k_A_0
  replace k_A_1 : wa.cell? ⟨w.heap.size, 1, none⟩ = some (.slice a2 na2 ca2) := (hb.cell (p := ⟨w.heap.size, 1, none⟩) hl_A).trans k_A_1
  replace k_A_2 : wa.cell? ⟨w.heap.size, 2, none⟩ = some (.slice d2 nd2 cd2) := (hb.cell (p := ⟨w.heap.size, 2, none⟩) hl_A).trans k_A_2
  replace f_A : ∀ o, wa.frozen? ⟨w.heap.size, o, none⟩ = false := fun o => (hb.frozen (p := ⟨w.heap.size, o, none⟩) hl_A).trans (f_A o)
  replace HX_A := Lib.hid (HX_A.out.below hb)
  replace k_B_0 : wa.cell? ⟨w.heap.size + 1, 0, none⟩ = some (.bool s3) := (hb.cell (p := ⟨w.heap.size + 1, 0, none⟩) hl_B).trans k_B_0
  replace k_B_1 : wa.cell? ⟨w.heap.size + 1, 1, none⟩ = some (.slice a3 na3 ca3) := (hb.cell (p := ⟨w.heap.size + 1, 1, none⟩) hl_B).trans k_B_1
  replace k_B_2 : wa.cell? ⟨w.heap.size + 1, 2, none⟩ = some (.slice d3 nd3 cd3) := (hb.cell (p := ⟨w.heap.size + 1, 2, none⟩) hl_B).trans k_B_2
  replace f_B : ∀ o, wa.frozen? ⟨w.heap.size + 1, o, none⟩ = false := fun o => (hb.frozen (p := ⟨w.heap.size + 1, o, none⟩) hl_B).trans (f_B o)
  replace HX_B := Lib.hid (HX_B.out.below hb)
  replace HX := Lib.hid (HX.out.below hb)
  replace HY := Lib.hid (HY.out.below hb)
  replace HB := Lib.hid (HB.out.trans (hb.mono hs0))
  replace hN : N ≤ wa.heap.size := Nat.le_trans hN hb.size
  replace hs0 : w.heap.size ≤ wa.heap.size := Nat.le_trans hs0 hb.size
  replace hl_A : w.heap.size < wa.heap.size := Nat.lt_of_lt_of_le hl_A hb.size
  replace hl_B : w.heap.size + 1 < wa.heap.size := Nat.lt_of_lt_of_le hl_B hb.size
  clear hb
  go_wp2_with fail
  refine calls_name fun W1 hW => ?_
  have hs_W1 : wa.heap.size ≤ W1.heap.size := by rw [← hW]; (first | omega | (simp; done) | (simp; omega))
  have HK_W1 := Lib.hid (show Kp N wa W1 by rw [← hW]; exact KpA)
  replace k_A_0 : W1.cell? ⟨w.heap.size, 0, none⟩ = some (.bool s3) := by rw [← hW]; (first | (go_simp; done) | (simp [go_sem, k_A_0]; done) | (simp [go_sem, k_A_0, k_A_1, k_A_2]; done) | (simp [go_sem, k_A_0, k_A_1, k_A_2, k_B_0, k_B_1, k_B_2, f_A, f_B, hl_A, hl_B]; done))
  replace k_A_1 : W1.cell? ⟨w.heap.size, 1, none⟩ = some (.slice a3 na3 ca3) := by rw [← hW]; (first | (go_simp; done) | (simp [go_sem, k_A_1]; done) | (simp [go_sem, k_A_0, k_A_1, k_A_2]; done) | (simp [go_sem, k_A_0, k_A_1, k_A_2, k_B_0, k_B_1, k_B_2, f_A, f_B, hl_A, hl_B]; done))
  replace k_A_2 : W1.cell? ⟨w.heap.size, 2, none⟩ = some (.slice d3 nd3 cd3) := by rw [← hW]; (first | (go_simp; done) | (simp [go_sem, k_A_2]; done) | (simp [go_sem, k_A_0, k_A_1, k_A_2]; done) | (simp [go_sem, k_A_0, k_A_1, k_A_2, k_B_0, k_B_1, k_B_2, f_A, f_B, hl_A, hl_B]; done))
  replace f_A : ∀ o, W1.frozen? ⟨w.heap.size, o, none⟩ = false := by intro o; rw [← hW]; (first | with_reducible exact f_A o | (simp [go_sem, f_A]; done) | (simp [go_sem, f_A, hl_A]; done) | (go_simp; done) | (simp [go_sem, k_A_0, k_A_1, k_A_2, k_B_0, k_B_1, k_B_2, f_A, f_B, hl_A, hl_B]; done))
  replace HX_A := Lib.hid (show Bn W1 (w.heap.size) by rw [← hW]; exact KpA)
  replace k_B_0 : W1.cell? ⟨w.heap.size + 1, 0, none⟩ = some (.bool s2) := by rw [← hW]; (first | (go_simp; done) | (simp [go_sem, k_B_0]; done) | (simp [go_sem, k_B_0, k_B_1, k_B_2]; done) | (simp [go_sem, k_A_0, k_A_1, k_A_2, k_B_0, k_B_1, k_B_2, f_A, f_B, hl_A, hl_B]; done))
  replace k_B_1 : W1.cell? ⟨w.heap.size + 1, 1, none⟩ = some (.slice a2 na2 ca2) := by rw [← hW]; (first | (go_simp; done) | (simp [go_sem, k_B_1]; done) | (simp [go_sem, k_B_0, k_B_1, k_B_2]; done) | (simp [go_sem, k_A_0, k_A_1, k_A_2, k_B_0, k_B_1, k_B_2, f_A, f_B, hl_A, hl_B]; done))
  replace k_B_2 : W1.cell? ⟨w.heap.size + 1, 2, none⟩ = some (.slice d2 nd2 cd2) := by rw [← hW]; (first | (go_simp; done) | (simp [go_sem, k_B_2]; done) | (simp [go_sem, k_B_0, k_B_1, k_B_2]; done) | (simp [go_sem, k_A_0, k_A_1, k_A_2, k_B_0, k_B_1, k_B_2, f_A, f_B, hl_A, hl_B]; done))
  replace f_B : ∀ o, W1.frozen? ⟨w.heap.size + 1, o, none⟩ = false := by intro o; rw [← hW]; (first | with_reducible exact f_B o | (simp [go_sem, f_B]; done) | (simp [go_sem, f_B, hl_B]; done) | (go_simp; done) | (simp [go_sem, k_A_0, k_A_1, k_A_2, k_B_0, k_B_1, k_B_2, f_A, f_B, hl_A, hl_B]; done))
  replace HX_B := Lib.hid (show Bn W1 (w.heap.size + 1) by rw [← hW]; exact KpA)
  replace HX := Lib.hid (HX.out.keep HK_W1.out)
  replace HY := Lib.hid (HY.out.keep HK_W1.out)
  replace HB := Lib.hid (show Below w.heap.size w W1 by rw [← hW]; exact BlA)
  replace hN : N ≤ W1.heap.size := by rw [← hW]; (first | omega | (simp; done) | (simp; omega))
  replace hs0 : w.heap.size ≤ W1.heap.size := by rw [← hW]; (first | omega | (simp; done) | (simp; omega))
  replace hl_A : w.heap.size < W1.heap.size := by rw [← hW]; (first | omega | (simp; done) | (simp; omega))
  replace hl_B : w.heap.size + 1 < W1.heap.size := by rw [← hW]; (first | omega | (simp; done) | (simp; omega))
  clear hW HK_W1
  have HZ := HX
  clear HX
  have HX := HY
  clear HY
  have HY := HZ
  clear HZ
  have HA := Lib.hid (HAw.out.below HB.out)
  refine (bonf_ok (N := N) _ n _ q _ _ _ _ _ _ _ L be _ hN HA.out HX.out hL HC1.out).mono ?_
  rintro e w0 ⟨b0, rfl, bl0, bh0, hl, hb⟩
  have hs_w0 : W1.heap.size ≤ w0.heap.size := hb.size
  replace k_A_0 : w0.cell? ⟨w.heap.size, 0, none⟩ = some (.bool s3) := (hb.cell (p := ⟨w.heap.size, 0, none⟩) hl_A).trans k_A_0
  replace k_A_1 : w0.cell? ⟨w.heap.size, 1, none⟩ = some (.slice a3 na3 ca3) := (hb.cell (p := ⟨w.heap.size, 1, none⟩) hl_A).trans k_A_1
  replace k_A_2 : w0.cell? ⟨w.heap.size, 2, none⟩ = some (.slice d3 nd3 cd3) := (hb.cell (p := ⟨w.heap.size, 2, none⟩) hl_A).trans k_A_2
  replace f_A : ∀ o, w0.frozen? ⟨w.heap.size, o, none⟩ = false := fun o => (hb.frozen (p := ⟨w.heap.size, o, none⟩) hl_A).trans (f_A o)
  replace HX_A := Lib.hid (HX_A.out.below hb)
  replace k_B_0 : w0.cell? ⟨w.heap.size + 1, 0, none⟩ = some (.bool s2) := (hb.cell (p := ⟨w.heap.size + 1, 0, none⟩) hl_B).trans k_B_0
  replace k_B_1 : w0.cell? ⟨w.heap.size + 1, 1, none⟩ = some (.slice a2 na2 ca2) := (hb.cell (p := ⟨w.heap.size + 1, 1, none⟩) hl_B).trans k_B_1
  replace k_B_2 : w0.cell? ⟨w.heap.size + 1, 2, none⟩ = some (.slice d2 nd2 cd2) := (hb.cell (p := ⟨w.heap.size + 1, 2, none⟩) hl_B).trans k_B_2
  replace f_B : ∀ o, w0.frozen? ⟨w.heap.size + 1, o, none⟩ = false := fun o => (hb.frozen (p := ⟨w.heap.size + 1, o, none⟩) hl_B).trans (f_B o)
  replace HX_B := Lib.hid (HX_B.out.below hb)
  replace HX := Lib.hid (HX.out.below hb)
  replace HY := Lib.hid (HY.out.below hb)
  replace HB := Lib.hid (HB.out.trans (hb.mono hs0))
  replace hN : N ≤ w0.heap.size := Nat.le_trans hN hb.size
  replace hs0 : w.heap.size ≤ w0.heap.size := Nat.le_trans hs0 hb.size
  replace hl_A : w.heap.size < w0.heap.size := Nat.lt_of_lt_of_le hl_A hb.size
  replace hl_B : w.heap.size + 1 < w0.heap.size := Nat.lt_of_lt_of_le hl_B hb.size
  replace HA := Lib.hid (HA.out.below hb)
  clear hb
  have HR0 := Lib.hid (Rw.bs hl (by unfold maxLen; omega))
  clear hl
  go_wp2_with fail
  refine calls_name fun V1 hW => ?_
  have HL_V1 := Lib.hid (show Below w0.heap.size w0 V1 by rw [← hW]; exact BlA)
  have hs_V1 : w0.heap.size ≤ V1.heap.size := by rw [← hW]; (first | omega | (simp; done) | (simp; omega))
  have HK_V1 := Lib.hid (show Kp N w0 V1 by rw [← hW]; exact KpA)
  replace k_A_0 : V1.cell? ⟨w.heap.size, 0, none⟩ = some (.bool s3) := (HL_V1.out.cell (p := ⟨w.heap.size, 0, none⟩) hl_A).trans k_A_0
  replace k_A_1 : V1.cell? ⟨w.heap.size, 1, none⟩ = some (.slice a3 na3 ca3) := (HL_V1.out.cell (p := ⟨w.heap.size, 1, none⟩) hl_A).trans k_A_1
  replace k_A_2 : V1.cell? ⟨w.heap.size, 2, none⟩ = some (.slice d3 nd3 cd3) := (HL_V1.out.cell (p := ⟨w.heap.size, 2, none⟩) hl_A).trans k_A_2
  replace f_A : ∀ o, V1.frozen? ⟨w.heap.size, o, none⟩ = false := fun o => (HL_V1.out.frozen (p := ⟨w.heap.size, o, none⟩) hl_A).trans (f_A o)
  replace HX_A := Lib.hid (show Bn V1 (w.heap.size) by rw [← hW]; exact KpA)
  replace k_B_0 : V1.cell? ⟨w.heap.size + 1, 0, none⟩ = some (.bool s2) := (HL_V1.out.cell (p := ⟨w.heap.size + 1, 0, none⟩) hl_B).trans k_B_0
  replace k_B_1 : V1.cell? ⟨w.heap.size + 1, 1, none⟩ = some (.slice a2 na2 ca2) := (HL_V1.out.cell (p := ⟨w.heap.size + 1, 1, none⟩) hl_B).trans k_B_1
  replace k_B_2 : V1.cell? ⟨w.heap.size + 1, 2, none⟩ = some (.slice d2 nd2 cd2) := (HL_V1.out.cell (p := ⟨w.heap.size + 1, 2, none⟩) hl_B).trans k_B_2
  replace f_B : ∀ o, V1.frozen? ⟨w.heap.size + 1, o, none⟩ = false := fun o => (HL_V1.out.frozen (p := ⟨w.heap.size + 1, o, none⟩) hl_B).trans (f_B o)
  replace HX_B := Lib.hid (show Bn V1 (w.heap.size + 1) by rw [← hW]; exact KpA)
  replace HX := Lib.hid (HX.out.keep HK_V1.out)
  replace HY := Lib.hid (HY.out.keep HK_V1.out)
  replace HB := Lib.hid (show Below w.heap.size w V1 by rw [← hW]; exact BlA)
  replace hN : N ≤ V1.heap.size := by rw [← hW]; (first | omega | (simp; done) | (simp; omega))
  replace hs0 : w.heap.size ≤ V1.heap.size := by rw [← hW]; (first | omega | (simp; done) | (simp; omega))
  replace hl_A : w.heap.size < V1.heap.size := by rw [← hW]; (first | omega | (simp; done) | (simp; omega))
  replace hl_B : w.heap.size + 1 < V1.heap.size := by rw [← hW]; (first | omega | (simp; done) | (simp; omega))
  replace HA := Lib.hid (HA.out.below HL_V1.out)
  replace HR0 := Lib.hid (HR0.out.below HL_V1.out)
  clear HL_V1
  clear hW HK_V1
  refine (bonf_ok (N := N) _ n _ q _ _ _ _ _ _ _ L al _ hN HA.out HY.out hL HC2.out).mono ?_
  rintro e w1 ⟨b1, rfl, bl1, bh1, hl, hb⟩
  have hs_w1 : V1.heap.size ≤ w1.heap.size := hb.size
  replace k_A_0 : w1.cell? ⟨w.heap.size, 0, none⟩ = some (.bool s3) := (hb.cell (p := ⟨w.heap.size, 0, none⟩) hl_A).trans k_A_0
  replace k_A_1 : w1.cell? ⟨w.heap.size, 1, none⟩ = some (.slice a3 na3 ca3) := (hb.cell (p := ⟨w.heap.size, 1, none⟩) hl_A).trans k_A_1
  replace k_A_2 : w1.cell? ⟨w.heap.size, 2, none⟩ = some (.slice d3 nd3 cd3) := (hb.cell (p := ⟨w.heap.size, 2, none⟩) hl_A).trans k_A_2
  replace f_A : ∀ o, w1.frozen? ⟨w.heap.size, o, none⟩ = false := fun o => (hb.frozen (p := ⟨w.heap.size, o, none⟩) hl_A).trans (f_A o)
  replace HX_A := Lib.hid (HX_A.out.below hb)
  replace k_B_0 : w1.cell? ⟨w.heap.size + 1, 0, none⟩ = some (.bool s2) := (hb.cell (p := ⟨w.heap.size + 1, 0, none⟩) hl_B).trans k_B_0
  replace k_B_1 : w1.cell? ⟨w.heap.size + 1, 1, none⟩ = some (.slice a2 na2 ca2) := (hb.cell (p := ⟨w.heap.size + 1, 1, none⟩) hl_B).trans k_B_1
  replace k_B_2 : w1.cell? ⟨w.heap.size + 1, 2, none⟩ = some (.slice d2 nd2 cd2) := (hb.cell (p := ⟨w.heap.size + 1, 2, none⟩) hl_B).trans k_B_2
  replace f_B : ∀ o, w1.frozen? ⟨w.heap.size + 1, o, none⟩ = false := fun o => (hb.frozen (p := ⟨w.heap.size + 1, o, none⟩) hl_B).trans (f_B o)
  replace HX_B := Lib.hid (HX_B.out.below hb)
  replace HX := Lib.hid (HX.out.below hb)
  replace HY := Lib.hid (HY.out.below hb)
  replace HB := Lib.hid (HB.out.trans (hb.mono hs0))
  replace hN : N ≤ w1.heap.size := Nat.le_trans hN hb.size
  replace hs0 : w.heap.size ≤ w1.heap.size := Nat.le_trans hs0 hb.size
  replace hl_A : w.heap.size < w1.heap.size := Nat.lt_of_lt_of_le hl_A hb.size
  replace hl_B : w.heap.size + 1 < w1.heap.size := Nat.lt_of_lt_of_le hl_B hb.size
  replace HA := Lib.hid (HA.out.below hb)
  replace HR0 := Lib.hid (HR0.out.below hb)
  clear hb
  have HR1 := Lib.hid (Rw.bs hl (by unfold maxLen; omega))
  clear hl
  go_wp2_with fail
  refine calls_name fun V2 hW => ?_
  have HL_V2 := Lib.hid (show Below w1.heap.size w1 V2 by rw [← hW]; exact BlA)
  have hs_V2 : w1.heap.size ≤ V2.heap.size := by rw [← hW]; (first | omega | (simp; done) | (simp; omega))
  have HK_V2 := Lib.hid (show Kp N w1 V2 by rw [← hW]; exact KpA)
  replace k_A_0 : V2.cell? ⟨w.heap.size, 0, none⟩ = some (.bool s3) := (HL_V2.out.cell (p := ⟨w.heap.size, 0, none⟩) hl_A).trans k_A_0
  replace k_A_1 : V2.cell? ⟨w.heap.size, 1, none⟩ = some (.slice a3 na3 ca3) := (HL_V2.out.cell (p := ⟨w.heap.size, 1, none⟩) hl_A).trans k_A_1
  replace k_A_2 : V2.cell? ⟨w.heap.size, 2, none⟩ = some (.slice d3 nd3 cd3) := (HL_V2.out.cell (p := ⟨w.heap.size, 2, none⟩) hl_A).trans k_A_2
  replace f_A : ∀ o, V2.frozen? ⟨w.heap.size, o, none⟩ = false := fun o => (HL_V2.out.frozen (p := ⟨w.heap.size, o, none⟩) hl_A).trans (f_A o)
  replace HX_A := Lib.hid (show Bn V2 (w.heap.size) by rw [← hW]; exact KpA)
  replace k_B_0 : V2.cell? ⟨w.heap.size + 1, 0, none⟩ = some (.bool s2) := (HL_V2.out.cell (p := ⟨w.heap.size + 1, 0, none⟩) hl_B).trans k_B_0
  replace k_B_1 : V2.cell? ⟨w.heap.size + 1, 1, none⟩ = some (.slice a2 na2 ca2) := (HL_V2.out.cell (p := ⟨w.heap.size + 1, 1, none⟩) hl_B).trans k_B_1
  replace k_B_2 : V2.cell? ⟨w.heap.size + 1, 2, none⟩ = some (.slice d2 nd2 cd2) := (HL_V2.out.cell (p := ⟨w.heap.size + 1, 2, none⟩) hl_B).trans k_B_2
  replace f_B : ∀ o, V2.frozen? ⟨w.heap.size + 1, o, none⟩ = false := fun o => (HL_V2.out.frozen (p := ⟨w.heap.size + 1, o, none⟩) hl_B).trans (f_B o)
  replace HX_B := Lib.hid (show Bn V2 (w.heap.size + 1) by rw [← hW]; exact KpA)
  replace HX := Lib.hid (HX.out.keep HK_V2.out)
  replace HY := Lib.hid (HY.out.keep HK_V2.out)
  replace HB := Lib.hid (show Below w.heap.size w V2 by rw [← hW]; exact BlA)
  replace hN : N ≤ V2.heap.size := by rw [← hW]; (first | omega | (simp; done) | (simp; omega))
  replace hs0 : w.heap.size ≤ V2.heap.size := by rw [← hW]; (first | omega | (simp; done) | (simp; omega))
  replace hl_A : w.heap.size < V2.heap.size := by rw [← hW]; (first | omega | (simp; done) | (simp; omega))
  replace hl_B : w.heap.size + 1 < V2.heap.size := by rw [← hW]; (first | omega | (simp; done) | (simp; omega))
  replace HA := Lib.hid (HA.out.below HL_V2.out)
  replace HR0 := Lib.hid (HR0.out.below HL_V2.out)
  replace HR1 := Lib.hid (HR1.out.below HL_V2.out)
  clear HL_V2
  clear hW HK_V2
  refine (holm_ok (N := N) _ n _ q _ _ _ _ _ _ _ L be _ hN HA.out HX.out hL HC1.out).mono ?_
  rintro e w2 ⟨b2, rfl, bl2, bh2, hl, hb⟩
  have hs_w2 : V2.heap.size ≤ w2.heap.size := hb.size
  replace k_A_0 : w2.cell? ⟨w.heap.size, 0, none⟩ = some (.bool s3) := (hb.cell (p := ⟨w.heap.size, 0, none⟩) hl_A).trans k_A_0
  replace k_A_1 : w2.cell? ⟨w.heap.size, 1, none⟩ = some (.slice a3 na3 ca3) := (hb.cell (p := ⟨w.heap.size, 1, none⟩) hl_A).trans k_A_1
  replace k_A_2 : w2.cell? ⟨w.heap.size, 2, none⟩ = some (.slice d3 nd3 cd3) := (hb.cell (p := ⟨w.heap.size, 2, none⟩) hl_A).trans k_A_2
  replace f_A : ∀ o, w2.frozen? ⟨w.heap.size, o, none⟩ = false := fun o => (hb.frozen (p := ⟨w.heap.size, o, none⟩) hl_A).trans (f_A o)
  replace HX_A := Lib.hid (HX_A.out.below hb)
  replace k_B_0 : w2.cell? ⟨w.heap.size + 1, 0, none⟩ = some (.bool s2) := (hb.cell (p := ⟨w.heap.size + 1, 0, none⟩) hl_B).trans k_B_0
  replace k_B_1 : w2.cell? ⟨w.heap.size + 1, 1, none⟩ = some (.slice a2 na2 ca2) := (hb.cell (p := ⟨w.heap.size + 1, 1, none⟩) hl_B).trans k_B_1
  replace k_B_2 : w2.cell? ⟨w.heap.size + 1, 2, none⟩ = some (.slice d2 nd2 cd2) := (hb.cell (p := ⟨w.heap.size + 1, 2, none⟩) hl_B).trans k_B_2
  replace f_B : ∀ o, w2.frozen? ⟨w.heap.size + 1, o, none⟩ = false := fun o => (hb.frozen (p := ⟨w.heap.size + 1, o, none⟩) hl_B).trans (f_B o)
  replace HX_B := Lib.hid (HX_B.out.below hb)
  replace HX := Lib.hid (HX.out.below hb)
  replace HY := Lib.hid (HY.out.below hb)
  replace HB := Lib.hid (HB.out.trans (hb.mono hs0))
  replace hN : N ≤ w2.heap.size := Nat.le_trans hN hb.size
  replace hs0 : w.heap.size ≤ w2.heap.size := Nat.le_trans hs0 hb.size
  replace hl_A : w.heap.size < w2.heap.size := Nat.lt_of_lt_of_le hl_A hb.size
  replace hl_B : w.heap.size + 1 < w2.heap.size := Nat.lt_of_lt_of_le hl_B hb.size
  replace HA := Lib.hid (HA.out.below hb)
  replace HR0 := Lib.hid (HR0.out.below hb)
  replace HR1 := Lib.hid (HR1.out.below hb)
  clear hb
  have HR2 := Lib.hid (Rw.bs hl (by unfold maxLen; omega))
  clear hl
  go_wp2_with fail
  refine calls_name fun V3 hW => ?_
  have HL_V3 := Lib.hid (show Below w2.heap.size w2 V3 by rw [← hW]; exact BlA)
  have hs_V3 : w2.heap.size ≤ V3.heap.size := by rw [← hW]; (first | omega | (simp; done) | (simp; omega))
  have HK_V3 := Lib.hid (show Kp N w2 V3 by rw [← hW]; exact KpA)
  replace k_A_0 : V3.cell? ⟨w.heap.size, 0, none⟩ = some (.bool s3) := (HL_V3.out.cell (p := ⟨w.heap.size, 0, none⟩) hl_A).trans k_A_0
  replace k_A_1 : V3.cell? ⟨w.heap.size, 1, none⟩ = some (.slice a3 na3 ca3) := (HL_V3.out.cell (p := ⟨w.heap.size, 1, none⟩) hl_A).trans k_A_1
  replace k_A_2 : V3.cell? ⟨w.heap.size, 2, none⟩ = some (.slice d3 nd3 cd3) := (HL_V3.out.cell (p := ⟨w.heap.size, 2, none⟩) hl_A).trans k_A_2
  replace f_A : ∀ o, V3.frozen? ⟨w.heap.size, o, none⟩ = false := fun o => (HL_V3.out.frozen (p := ⟨w.heap.size, o, none⟩) hl_A).trans (f_A o)
  replace HX_A := Lib.hid (show Bn V3 (w.heap.size) by rw [← hW]; exact KpA)
  replace k_B_0 : V3.cell? ⟨w.heap.size + 1, 0, none⟩ = some (.bool s2) := (HL_V3.out.cell (p := ⟨w.heap.size + 1, 0, none⟩) hl_B).trans k_B_0
  replace k_B_1 : V3.cell? ⟨w.heap.size + 1, 1, none⟩ = some (.slice a2 na2 ca2) := (HL_V3.out.cell (p := ⟨w.heap.size + 1, 1, none⟩) hl_B).trans k_B_1
  replace k_B_2 : V3.cell? ⟨w.heap.size + 1, 2, none⟩ = some (.slice d2 nd2 cd2) := (HL_V3.out.cell (p := ⟨w.heap.size + 1, 2, none⟩) hl_B).trans k_B_2
  replace f_B : ∀ o, V3.frozen? ⟨w.heap.size + 1, o, none⟩ = false := fun o => (HL_V3.out.frozen (p := ⟨w.heap.size + 1, o, none⟩) hl_B).trans (f_B o)
  replace HX_B := Lib.hid (show Bn V3 (w.heap.size + 1) by rw [← hW]; exact KpA)
  replace HX := Lib.hid (HX.out.keep HK_V3.out)
  replace HY := Lib.hid (HY.out.keep HK_V3.out)
  replace HB := Lib.hid (show Below w.heap.size w V3 by rw [← hW]; exact BlA)
  replace hN : N ≤ V3.heap.size := by rw [← hW]; (first | omega | (simp; done) | (simp; omega))
  replace hs0 : w.heap.size ≤ V3.heap.size := by rw [← hW]; (first | omega | (simp; done) | (simp; omega))
  replace hl_A : w.heap.size < V3.heap.size := by rw [← hW]; (first | omega | (simp; done) | (simp; omega))
  replace hl_B : w.heap.size + 1 < V3.heap.size := by rw [← hW]; (first | omega | (simp; done) | (simp; omega))
  replace HA := Lib.hid (HA.out.below HL_V3.out)
  replace HR0 := Lib.hid (HR0.out.below HL_V3.out)
  replace HR1 := Lib.hid (HR1.out.below HL_V3.out)
  replace HR2 := Lib.hid (HR2.out.below HL_V3.out)
  clear HL_V3
  clear hW HK_V3
  refine (holm_ok (N := N) _ n _ q _ _ _ _ _ _ _ L al _ hN HA.out HY.out hL HC2.out).mono ?_
  rintro e w3 ⟨b3, rfl, bl3, bh3, hl, hb⟩
  have hs_w3 : V3.heap.size ≤ w3.heap.size := hb.size
  replace k_A_0 : w3.cell? ⟨w.heap.size, 0, none⟩ = some (.bool s3) := (hb.cell (p := ⟨w.heap.size, 0, none⟩) hl_A).trans k_A_0
  replace k_A_1 : w3.cell? ⟨w.heap.size, 1, none⟩ = some (.slice a3 na3 ca3) := (hb.cell (p := ⟨w.heap.size, 1, none⟩) hl_A).trans k_A_1
  replace k_A_2 : w3.cell? ⟨w.heap.size, 2, none⟩ = some (.slice d3 nd3 cd3) := (hb.cell (p := ⟨w.heap.size, 2, none⟩) hl_A).trans k_A_2
  replace f_A : ∀ o, w3.frozen? ⟨w.heap.size, o, none⟩ = false := fun o => (hb.frozen (p := ⟨w.heap.size, o, none⟩) hl_A).trans (f_A o)
  replace HX_A := Lib.hid (HX_A.out.below hb)
  replace k_B_0 : w3.cell? ⟨w.heap.size + 1, 0, none⟩ = some (.bool s2) := (hb.cell (p := ⟨w.heap.size + 1, 0, none⟩) hl_B).trans k_B_0
  replace k_B_1 : w3.cell? ⟨w.heap.size + 1, 1, none⟩ = some (.slice a2 na2 ca2) := (hb.cell (p := ⟨w.heap.size + 1, 1, none⟩) hl_B).trans k_B_1
  replace k_B_2 : w3.cell? ⟨w.heap.size + 1, 2, none⟩ = some (.slice d2 nd2 cd2) := (hb.cell (p := ⟨w.heap.size + 1, 2, none⟩) hl_B).trans k_B_2
  replace f_B : ∀ o, w3.frozen? ⟨w.heap.size + 1, o, none⟩ = false := fun o => (hb.frozen (p := ⟨w.heap.size + 1, o, none⟩) hl_B).trans (f_B o)
  replace HX_B := Lib.hid (HX_B.out.below hb)
  replace HX := Lib.hid (HX.out.below hb)
  replace HY := Lib.hid (HY.out.below hb)
  replace HB := Lib.hid (HB.out.trans (hb.mono hs0))
  replace hN : N ≤ w3.heap.size := Nat.le_trans hN hb.size
  replace hs0 : w.heap.size ≤ w3.heap.size := Nat.le_trans hs0 hb.size
  replace hl_A : w.heap.size < w3.heap.size := Nat.lt_of_lt_of_le hl_A hb.size
  replace hl_B : w.heap.size + 1 < w3.heap.size := Nat.lt_of_lt_of_le hl_B hb.size
  replace HA := Lib.hid (HA.out.below hb)
  replace HR0 := Lib.hid (HR0.out.below hb)
  replace HR1 := Lib.hid (HR1.out.below hb)
  replace HR2 := Lib.hid (HR2.out.below hb)
  clear hb
  have HR3 := Lib.hid (Rw.bs hl (by unfold maxLen; omega))
  clear hl
  go_wp2_with fail
  refine calls_name fun V4 hW => ?_
  have HL_V4 := Lib.hid (show Below w3.heap.size w3 V4 by rw [← hW]; exact BlA)
  have hs_V4 : w3.heap.size ≤ V4.heap.size := by rw [← hW]; (first | omega | (simp; done) | (simp; omega))
  have HK_V4 := Lib.hid (show Kp N w3 V4 by rw [← hW]; exact KpA)
  replace k_A_0 : V4.cell? ⟨w.heap.size, 0, none⟩ = some (.bool s3) := (HL_V4.out.cell (p := ⟨w.heap.size, 0, none⟩) hl_A).trans k_A_0
  replace k_A_1 : V4.cell? ⟨w.heap.size, 1, none⟩ = some (.slice a3 na3 ca3) := (HL_V4.out.cell (p := ⟨w.heap.size, 1, none⟩) hl_A).trans k_A_1
  replace k_A_2 : V4.cell? ⟨w.heap.size, 2, none⟩ = some (.slice d3 nd3 cd3) := (HL_V4.out.cell (p := ⟨w.heap.size, 2, none⟩) hl_A).trans k_A_2
  replace f_A : ∀ o, V4.frozen? ⟨w.heap.size, o, none⟩ = false := fun o => (HL_V4.out.frozen (p := ⟨w.heap.size, o, none⟩) hl_A).trans (f_A o)
  replace HX_A := Lib.hid (show Bn V4 (w.heap.size) by rw [← hW]; exact KpA)
  replace k_B_0 : V4.cell? ⟨w.heap.size + 1, 0, none⟩ = some (.bool s2) := (HL_V4.out.cell (p := ⟨w.heap.size + 1, 0, none⟩) hl_B).trans k_B_0
  replace k_B_1 : V4.cell? ⟨w.heap.size + 1, 1, none⟩ = some (.slice a2 na2 ca2) := (HL_V4.out.cell (p := ⟨w.heap.size + 1, 1, none⟩) hl_B).trans k_B_1
  replace k_B_2 : V4.cell? ⟨w.heap.size + 1, 2, none⟩ = some (.slice d2 nd2 cd2) := (HL_V4.out.cell (p := ⟨w.heap.size + 1, 2, none⟩) hl_B).trans k_B_2
  replace f_B : ∀ o, V4.frozen? ⟨w.heap.size + 1, o, none⟩ = false := fun o => (HL_V4.out.frozen (p := ⟨w.heap.size + 1, o, none⟩) hl_B).trans (f_B o)
  replace HX_B := Lib.hid (show Bn V4 (w.heap.size + 1) by rw [← hW]; exact KpA)
  replace HX := Lib.hid (HX.out.keep HK_V4.out)
  replace HY := Lib.hid (HY.out.keep HK_V4.out)
  replace HB := Lib.hid (show Below w.heap.size w V4 by rw [← hW]; exact BlA)
  replace hN : N ≤ V4.heap.size := by rw [← hW]; (first | omega | (simp; done) | (simp; omega))
  replace hs0 : w.heap.size ≤ V4.heap.size := by rw [← hW]; (first | omega | (simp; done) | (simp; omega))
  replace hl_A : w.heap.size < V4.heap.size := by rw [← hW]; (first | omega | (simp; done) | (simp; omega))
  replace hl_B : w.heap.size + 1 < V4.heap.size := by rw [← hW]; (first | omega | (simp; done) | (simp; omega))
  replace HA := Lib.hid (HA.out.below HL_V4.out)
  replace HR0 := Lib.hid (HR0.out.below HL_V4.out)
  replace HR1 := Lib.hid (HR1.out.below HL_V4.out)
  replace HR2 := Lib.hid (HR2.out.below HL_V4.out)
  replace HR3 := Lib.hid (HR3.out.below HL_V4.out)
  clear HL_V4
  clear hW HK_V4
  refine (lwithin_any _ _ n _ _ _ _ _ HR0.out HR1.out (fun i hi hf => bon_up HXY.out hf)).mono ?_
  rintro e w4 ⟨rfl, hb⟩
  have hs_w4 : V4.heap.size ≤ w4.heap.size := hb.size
  replace k_A_0 : w4.cell? ⟨w.heap.size, 0, none⟩ = some (.bool s3) := (hb.cell (p := ⟨w.heap.size, 0, none⟩) hl_A).trans k_A_0
  replace k_A_1 : w4.cell? ⟨w.heap.size, 1, none⟩ = some (.slice a3 na3 ca3) := (hb.cell (p := ⟨w.heap.size, 1, none⟩) hl_A).trans k_A_1
  replace k_A_2 : w4.cell? ⟨w.heap.size, 2, none⟩ = some (.slice d3 nd3 cd3) := (hb.cell (p := ⟨w.heap.size, 2, none⟩) hl_A).trans k_A_2
  replace f_A : ∀ o, w4.frozen? ⟨w.heap.size, o, none⟩ = false := fun o => (hb.frozen (p := ⟨w.heap.size, o, none⟩) hl_A).trans (f_A o)
  replace HX_A := Lib.hid (HX_A.out.below hb)
  replace k_B_0 : w4.cell? ⟨w.heap.size + 1, 0, none⟩ = some (.bool s2) := (hb.cell (p := ⟨w.heap.size + 1, 0, none⟩) hl_B).trans k_B_0
  replace k_B_1 : w4.cell? ⟨w.heap.size + 1, 1, none⟩ = some (.slice a2 na2 ca2) := (hb.cell (p := ⟨w.heap.size + 1, 1, none⟩) hl_B).trans k_B_1
  replace k_B_2 : w4.cell? ⟨w.heap.size + 1, 2, none⟩ = some (.slice d2 nd2 cd2) := (hb.cell (p := ⟨w.heap.size + 1, 2, none⟩) hl_B).trans k_B_2
  replace f_B : ∀ o, w4.frozen? ⟨w.heap.size + 1, o, none⟩ = false := fun o => (hb.frozen (p := ⟨w.heap.size + 1, o, none⟩) hl_B).trans (f_B o)
  replace HX_B := Lib.hid (HX_B.out.below hb)
  replace HX := Lib.hid (HX.out.below hb)
  replace HY := Lib.hid (HY.out.below hb)
  replace HB := Lib.hid (HB.out.trans (hb.mono hs0))
  replace hN : N ≤ w4.heap.size := Nat.le_trans hN hb.size
  replace hs0 : w.heap.size ≤ w4.heap.size := Nat.le_trans hs0 hb.size
  replace hl_A : w.heap.size < w4.heap.size := Nat.lt_of_lt_of_le hl_A hb.size
  replace hl_B : w.heap.size + 1 < w4.heap.size := Nat.lt_of_lt_of_le hl_B hb.size
  replace HA := Lib.hid (HA.out.below hb)
  replace HR0 := Lib.hid (HR0.out.below hb)
  replace HR1 := Lib.hid (HR1.out.below hb)
  replace HR2 := Lib.hid (HR2.out.below hb)
  replace HR3 := Lib.hid (HR3.out.below hb)
  clear hb
  clear HR0
  clear HR1
  go_wp2_with fail
  refine calls_name fun V5 hW => ?_
  have HL_V5 := Lib.hid (show Below w4.heap.size w4 V5 by rw [← hW]; exact BlA)
  have hs_V5 : w4.heap.size ≤ V5.heap.size := by rw [← hW]; (first | omega | (simp; done) | (simp; omega))
  have HK_V5 := Lib.hid (show Kp N w4 V5 by rw [← hW]; exact KpA)
  replace k_A_0 : V5.cell? ⟨w.heap.size, 0, none⟩ = some (.bool s3) := (HL_V5.out.cell (p := ⟨w.heap.size, 0, none⟩) hl_A).trans k_A_0
  replace k_A_1 : V5.cell? ⟨w.heap.size, 1, none⟩ = some (.slice a3 na3 ca3) := (HL_V5.out.cell (p := ⟨w.heap.size, 1, none⟩) hl_A).trans k_A_1
  replace k_A_2 : V5.cell? ⟨w.heap.size, 2, none⟩ = some (.slice d3 nd3 cd3) := (HL_V5.out.cell (p := ⟨w.heap.size, 2, none⟩) hl_A).trans k_A_2
  replace f_A : ∀ o, V5.frozen? ⟨w.heap.size, o, none⟩ = false := fun o => (HL_V5.out.frozen (p := ⟨w.heap.size, o, none⟩) hl_A).trans (f_A o)
  replace HX_A := Lib.hid (show Bn V5 (w.heap.size) by rw [← hW]; exact KpA)
  replace k_B_0 : V5.cell? ⟨w.heap.size + 1, 0, none⟩ = some (.bool s2) := (HL_V5.out.cell (p := ⟨w.heap.size + 1, 0, none⟩) hl_B).trans k_B_0
  replace k_B_1 : V5.cell? ⟨w.heap.size + 1, 1, none⟩ = some (.slice a2 na2 ca2) := (HL_V5.out.cell (p := ⟨w.heap.size + 1, 1, none⟩) hl_B).trans k_B_1
  replace k_B_2 : V5.cell? ⟨w.heap.size + 1, 2, none⟩ = some (.slice d2 nd2 cd2) := (HL_V5.out.cell (p := ⟨w.heap.size + 1, 2, none⟩) hl_B).trans k_B_2
  replace f_B : ∀ o, V5.frozen? ⟨w.heap.size + 1, o, none⟩ = false := fun o => (HL_V5.out.frozen (p := ⟨w.heap.size + 1, o, none⟩) hl_B).trans (f_B o)
  replace HX_B := Lib.hid (show Bn V5 (w.heap.size + 1) by rw [← hW]; exact KpA)
  replace HX := Lib.hid (HX.out.keep HK_V5.out)
  replace HY := Lib.hid (HY.out.keep HK_V5.out)
  replace HB := Lib.hid (show Below w.heap.size w V5 by rw [← hW]; exact BlA)
  replace hN : N ≤ V5.heap.size := by rw [← hW]; (first | omega | (simp; done) | (simp; omega))
  replace hs0 : w.heap.size ≤ V5.heap.size := by rw [← hW]; (first | omega | (simp; done) | (simp; omega))
  replace hl_A : w.heap.size < V5.heap.size := by rw [← hW]; (first | omega | (simp; done) | (simp; omega))
  replace hl_B : w.heap.size + 1 < V5.heap.size := by rw [← hW]; (first | omega | (simp; done) | (simp; omega))
  replace HA := Lib.hid (HA.out.below HL_V5.out)
  replace HR2 := Lib.hid (HR2.out.below HL_V5.out)
  replace HR3 := Lib.hid (HR3.out.below HL_V5.out)
  clear HL_V5
  clear hW HK_V5
  refine (lwithin_any _ _ n _ _ _ _ _ HR2.out HR3.out (fun i hi hf => hol_up HXY.out hf)).mono ?_
  rintro e w5 ⟨rfl, hb⟩
  have hs_w5 : V5.heap.size ≤ w5.heap.size := hb.size
  replace k_A_0 : w5.cell? ⟨w.heap.size, 0, none⟩ = some (.bool s3) := (hb.cell (p := ⟨w.heap.size, 0, none⟩) hl_A).trans k_A_0
  replace k_A_1 : w5.cell? ⟨w.heap.size, 1, none⟩ = some (.slice a3 na3 ca3) := (hb.cell (p := ⟨w.heap.size, 1, none⟩) hl_A).trans k_A_1
  replace k_A_2 : w5.cell? ⟨w.heap.size, 2, none⟩ = some (.slice d3 nd3 cd3) := (hb.cell (p := ⟨w.heap.size, 2, none⟩) hl_A).trans k_A_2
  replace f_A : ∀ o, w5.frozen? ⟨w.heap.size, o, none⟩ = false := fun o => (hb.frozen (p := ⟨w.heap.size, o, none⟩) hl_A).trans (f_A o)
  replace HX_A := Lib.hid (HX_A.out.below hb)
  replace k_B_0 : w5.cell? ⟨w.heap.size + 1, 0, none⟩ = some (.bool s2) := (hb.cell (p := ⟨w.heap.size + 1, 0, none⟩) hl_B).trans k_B_0
  replace k_B_1 : w5.cell? ⟨w.heap.size + 1, 1, none⟩ = some (.slice a2 na2 ca2) := (hb.cell (p := ⟨w.heap.size + 1, 1, none⟩) hl_B).trans k_B_1
  replace k_B_2 : w5.cell? ⟨w.heap.size + 1, 2, none⟩ = some (.slice d2 nd2 cd2) := (hb.cell (p := ⟨w.heap.size + 1, 2, none⟩) hl_B).trans k_B_2
  replace f_B : ∀ o, w5.frozen? ⟨w.heap.size + 1, o, none⟩ = false := fun o => (hb.frozen (p := ⟨w.heap.size + 1, o, none⟩) hl_B).trans (f_B o)
  replace HX_B := Lib.hid (HX_B.out.below hb)
  replace HX := Lib.hid (HX.out.below hb)
  replace HY := Lib.hid (HY.out.below hb)
  replace HB := Lib.hid (HB.out.trans (hb.mono hs0))
  replace hN : N ≤ w5.heap.size := Nat.le_trans hN hb.size
  replace hs0 : w.heap.size ≤ w5.heap.size := Nat.le_trans hs0 hb.size
  replace hl_A : w.heap.size < w5.heap.size := Nat.lt_of_lt_of_le hl_A hb.size
  replace hl_B : w.heap.size + 1 < w5.heap.size := Nat.lt_of_lt_of_le hl_B hb.size
  replace HA := Lib.hid (HA.out.below hb)
  replace HR2 := Lib.hid (HR2.out.below hb)
  replace HR3 := Lib.hid (HR3.out.below hb)
  clear hb
  clear HR3
  clear hl_B f_B HX_B k_B_0 k_B_1 k_B_2
  clear HY
  obtain ⟨i0, hi, hzz⟩ := Option.map_eq_some_iff.1 Tryd.infoRat
  simp only [Prod.mk.injEq] at hzz
  obtain ⟨hz0, hz1, hz2⟩ := hzz
  go_wp2_with fail
  have hN5 := hN
  go_loopw [15, 16] (fun v i wr => ∃ (j : Nat) (z : Int), j ≤ n ∧ i = .int .i64 z ∧ z = (n : Int) - 1 - (j : Int) ∧ Oe N w5.heap.size wr v j (fun k => q (n - 1 - k)) L ∧ Below w5.heap.size w5 wr) (fun _ i _ => (intOf i + 1).toNat)
  case atStart => exact ⟨0, _, Nat.zero_le _, rfl, by omega, Oe.start _ _ _ _ _ (Nat.le_refl _), bel1 _ _⟩
  case round =>
    obtain ⟨j, z, hj, rfl, hz, hoe, hbel⟩ := hrel
    have HOE := Lib.hid hoe
    have HBJ := Lib.hid hbel
    have hsj := hbel.size
    clear hoe
    by_cases hjn : j < n
    · obtain ⟨m, rfl⟩ : ∃ m : Nat, z = (m : Int) := ⟨z.toNat, by omega⟩
      have hmn : m < n := by omega
      have hmz : (m : Int) < (n : Int) := by omega
      have hmj : n - 1 - j = m := by omega
      have HM := Lib.hid hmj
      have HJM := Lib.hid hz
      clear hz hmj
      obtain ⟨b0, off, rfl, ho⟩ := (HA.out.below hbel).2.2 (by omega)
      obtain ⟨sk, ra, rn, rc, da, dn, dc, g0, g1, g2, hrt⟩ := ho m hmn
      have HR := Lib.hid hrt
      clear ho hrt hbel
      obtain ⟨xs, hown, hcl⟩ := HOE.out
      have HO := Lib.hid hown
      have HC := Lib.hid hcl
      clear hown hcl
      have hwm1 : IntKind.i64.wrap ((m : Int) - 1) = (m : Int) - 1 := by rw [IntKind.wrap_i64]; omega
      go_wp2_with (at_builtin; refine wpList_append_own_at _ rfl (.tmp 92) (.tmp 97) 23 rfl w5.heap.size 30 i0 (.agg #[.bool false, .slice none 0 0, .slice none 0 0]) 3 56 Tryd.underRats hi hz0 hz1 hz2 rfl (by decide) _ j xs rfl (HO.out.alloc _) ⟨wr.heap.size, 0, none⟩ 1 1 [.bool sk, .slice ra rn rc, .slice da dn dc] rfl rfl (cell_threeD wr _ _ _ _) (by intro u hu; simp at hu; rcases hu with rfl | rfl | rfl <;> rfl) (by unfold maxLen; omega) (by omega) (by simp; omega) ?_; intro v1 w1 ho1 hg1 _ _; have KP1 := Lib.hid ((Kp.refl N wr).alloc (.cells #[.bool sk, .slice ra rn rc, .slice da dn dc] 30) |>.trans (own_kpD (HO.out.alloc _) hN5 hg1)); have HB1 := Lib.hid (own_bel (HO.out.alloc _) (HBJ.out.alloc hsj _) (by simp; omega) hg1); have HO1 := Lib.hid ho1; have HC1 := Lib.hid (Cl.push (HC.out.imp fun i v0 v1 v2 _ e => e.keepD KP1.out) (show Er N w1 (fun k => q (n - 1 - k)) L j _ _ _ from ⟨_, _, _, _, _, _, _, rfl, rfl, rfl, by dsimp only; rw [HM.out]; exact HR.out.keep KP1.out⟩)); clear ho1 hg1)
      have hz := HJM.out
      go_roundw
      case rel => exact ⟨j + 1, (m : Int) - 1, by omega, by go_num, by omega, ⟨_, HO1.out, HC1.out⟩, HB1.out⟩
      case measure => (first | (simp [intOf]; done) | (simp [intOf]; omega))
    · obtain rfl : n = j := by omega
      obtain rfl : z = -1 := by omega
      obtain ⟨xs, hown, hcl⟩ := HOE.out
      obtain ⟨ao, co, rfl, hrs⟩ := Cl.rs hown hcl
      have HRs := Lib.hid hrs
      have bco := hrs.1
      have bmo := hrs.2.1
      unfold maxLen at bmo
      clear hown hcl hrs HOE hz
      have hl_A' : w.heap.size < wr.heap.size := Nat.lt_of_lt_of_le hl_A hbel.size
      have k_A_0' : wr.cell? ⟨w.heap.size, 0, none⟩ = some (.bool s3) := (hbel.cell (p := ⟨w.heap.size, 0, none⟩) hl_A).trans k_A_0
      have k_A_1' : wr.cell? ⟨w.heap.size, 1, none⟩ = some (.slice a3 na3 ca3) := (hbel.cell (p := ⟨w.heap.size, 1, none⟩) hl_A).trans k_A_1
      have k_A_2' : wr.cell? ⟨w.heap.size, 2, none⟩ = some (.slice d3 nd3 cd3) := (hbel.cell (p := ⟨w.heap.size, 2, none⟩) hl_A).trans k_A_2
      have f_A' : ∀ o, wr.frozen? ⟨w.heap.size, o, none⟩ = false := fun o => (hbel.frozen (p := ⟨w.heap.size, o, none⟩) hl_A).trans (f_A o)
      have HX_A' := Lib.hid (HX_A.out.below hbel)
      clear hl_A f_A HX_A k_A_0 k_A_1 k_A_2
      have hl_A := hl_A'
      have f_A := f_A'
      have HX_A := HX_A'
      have k_A_0 := k_A_0'
      have k_A_1 := k_A_1'
      have k_A_2 := k_A_2'
      clear hl_A' f_A' HX_A' k_A_0' k_A_1' k_A_2'
      have HA' := Lib.hid (HA.out.below hbel)
      have HR2' := Lib.hid (HR2.out.below hbel)
      have HX' := Lib.hid (HX.out.below hbel)
      clear HA HR2 HX
      have HA := HA'
      have HR2 := HR2'
      have HX := HX'
      clear HA' HR2' HX'
      have HB' := Lib.hid (HB.out.trans (hbel.mono hs0))
      have hN' : N ≤ wr.heap.size := by have := hbel.size; omega
      have hs0' : w.heap.size ≤ wr.heap.size := by have := hbel.size; omega
      clear HB hN hs0
      have HB := HB'
      have hN := hN'
      have hs0 := hs0'
      clear HB' hN' hs0'
      clear hbel
      have HCR := Lib.hid (show chkC (fun k => q (n - 1 - k)) n be = 0 by
        obtain ⟨h1, h2, h3⟩ := chk_ok HC1.out
        unfold chkC
        rw [if_neg (by omega), if_pos ⟨fun j hj => h2 _ (by omega), h3⟩])
      go_wp2_with fail
      refine (holm_ok (N := N) _ n _ (fun k => q (n - 1 - k)) _ _ _ _ _ _ _ L be _ hN HRs.out HX.out hL HCR.out).mono ?_
      rintro e w7 ⟨b7, rfl, bl7, bh7, hl, hb⟩
      have hs_w7 : wr.heap.size ≤ w7.heap.size := hb.size
      replace k_A_0 : w7.cell? ⟨w.heap.size, 0, none⟩ = some (.bool s3) := (hb.cell (p := ⟨w.heap.size, 0, none⟩) hl_A).trans k_A_0
      replace k_A_1 : w7.cell? ⟨w.heap.size, 1, none⟩ = some (.slice a3 na3 ca3) := (hb.cell (p := ⟨w.heap.size, 1, none⟩) hl_A).trans k_A_1
      replace k_A_2 : w7.cell? ⟨w.heap.size, 2, none⟩ = some (.slice d3 nd3 cd3) := (hb.cell (p := ⟨w.heap.size, 2, none⟩) hl_A).trans k_A_2
      replace f_A : ∀ o, w7.frozen? ⟨w.heap.size, o, none⟩ = false := fun o => (hb.frozen (p := ⟨w.heap.size, o, none⟩) hl_A).trans (f_A o)
      replace HX_A := Lib.hid (HX_A.out.below hb)
      replace HX := Lib.hid (HX.out.below hb)
      replace HB := Lib.hid (HB.out.trans (hb.mono hs0))
      replace hN : N ≤ w7.heap.size := Nat.le_trans hN hb.size
      replace hs0 : w.heap.size ≤ w7.heap.size := Nat.le_trans hs0 hb.size
      replace hl_A : w.heap.size < w7.heap.size := Nat.lt_of_lt_of_le hl_A hb.size
      replace HA := Lib.hid (HA.out.below hb)
      replace HR2 := Lib.hid (HR2.out.below hb)
      replace HRs := Lib.hid (HRs.out.below hb)
      clear hb
      have HR7 := Lib.hid (Rw.bs hl (by unfold maxLen; omega))
      clear hl
      clear HA
      clear HRs
      clear hl_A f_A HX_A k_A_0 k_A_1 k_A_2
      clear HX
      go_wp2_with fail
      go_loopw [18] (fun i wr => ∃ j : Nat, j ≤ n ∧ i = .int .i64 j ∧ Below w7.heap.size w7 wr) (fun i _ => n - (intOf i).toNat)
      case atStart => exact ⟨0, Nat.zero_le _, rfl, Below.refl _ _⟩
      case round =>
        obtain ⟨j, hj, rfl, hbel⟩ := hrel
        have HBJ := Lib.hid hbel
        by_cases hjn : j < n
        · obtain ⟨m, hm⟩ : ∃ m, n - 1 - j = m := ⟨_, rfl⟩
          have hmn : m < n := by omega
          obtain ⟨v, hv⟩ : ∃ v, holQ q n be j = v := ⟨_, rfl⟩
          have hv2 : holQ (fun k => q (n - 1 - k)) n be m = v := by rw [← hm, hol_rev q n be hjn]; exact hv
          obtain ⟨c1, o1, e1, k1⟩ := (HR2.out.below hbel).2.2 (by omega)
          obtain ⟨c7, o7, e7, k7⟩ := (HR7.out.below hbel).2.2 (by omega)
          simp only [Option.some.injEq, Addr.mk.injEq, and_true] at e1 e7
          obtain ⟨rfl, rfl⟩ := e1
          obtain ⟨rfl, rfl⟩ := e7
          have g1 := k1 j hjn
          have g7 := k7 m hmn
          rw [hv, Nat.zero_add] at g1
          rw [hv2, Nat.zero_add] at g7
          have hmz : (m : Int) < (n : Int) := by omega
          have hjz : (j : Int) < (n : Int) := by omega
          have hw1 : IntKind.i64.wrap ((n : Int) - 1) = (n : Int) - 1 := by rw [IntKind.wrap_i64]; omega
          have hw2 : IntKind.i64.wrap ((n : Int) - 1 - (j : Int)) = (m : Int) := by rw [IntKind.wrap_i64]; omega
          have hw3 : IntKind.i64.wrap (m : Int) = (m : Int) := by rw [IntKind.wrap_i64]; omega
          clear k1 k7 hv hv2 hm hbel
          go_wp2_with fail
          go_quiet (fail)
          go_wp2_with fail
          go_roundw
          case rel => exact ⟨j + 1, by omega, by go_num, below_drewN HBJ.out _⟩
          case measure => simp [intOf]; omega
        · obtain rfl : n = j := by omega
          have HB' := Lib.hid (HB.out.trans (hbel.mono hs0))
          have hN' : N ≤ wr.heap.size := by have := hbel.size; omega
          have hs0' : w.heap.size ≤ wr.heap.size := by have := hbel.size; omega
          clear HB hN hs0
          have HB := HB'
          have hN := hN'
          have hs0 := hs0'
          clear HB' hN' hs0'
          clear hbel
          go_wp2_with fail
          refine (dawake_any (N := N) _ hN (HTw.out.below HB.out)).mono ?_
          rintro e wh ⟨rfl, hb⟩
          have hs_wh : wr.heap.size ≤ wh.heap.size := hb.size
          replace HB := Lib.hid (HB.out.trans (hb.mono hs0))
          replace hN : N ≤ wh.heap.size := Nat.le_trans hN hb.size
          replace hs0 : w.heap.size ≤ wh.heap.size := Nat.le_trans hs0 hb.size
          clear hb
          go_wp2_with fail
          go_ret
          exact ⟨rfl, HB.out⟩


end Go.Proofs.YtnillajhhimeiaaDoor
