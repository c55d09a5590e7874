/- ClassicalCounted returns true for every input: every person is counted once, and two groups differ by at most 1. No condition. -/
import Derived.Test.YtjlefaojlngbiaaLawGrp
import Derived.Test.YtjlefaojlngbiaaCtdP
import Derived.Maps.AppendAt
namespace Go.Proofs.Ytjlefaojlngbiaa
open Go.RowKit Go.ChangeShapes Go.WideShapes Go.ChangeAt Go.Deep

set_option maxHeartbeats 2000000 in
theorem small_any (a : Option Addr) (n cap : Nat) (z : Nat → Int) (w : World) (h : Is w a n cap z) :
    Calls Try.prog 8 #[.slice a n cap] w fun e w' => e = .returned (.bool (inRb z n)) ∧ Below w.heap.size w w' := by
  obtain ⟨h0, h1, h2⟩ := h
  have HZ := Lib.hid h2
  have HT := Lib.hid (fun (h : InR z n) => inRb_true h)
  have HF := Lib.hid (fun k (hk : k < n) (h : ¬ (-1000000 ≤ z k ∧ z k ≤ 1000000)) => inRb_false hk h)
  unfold maxLen at h1
  clear h2
  obtain ⟨r, hr⟩ : ∃ r, inRb z n = r := ⟨_, rfl⟩
  rw [hr] at HT HF ⊢
  clear hr
  go_enter Try.func8, Try.ntmps8
  go_wp2
  go_loopw [3] (fun i wr => ∃ k : Nat, k ≤ n ∧ i = .int .i64 k ∧ Hid (∀ j, j < k → -1000000 ≤ z j ∧ z j ≤ 1000000) ∧ wr = w) (fun i _ => n - (intOf i).toNat)
  case atStart => exact ⟨0, Nat.zero_le _, rfl, Lib.hid (fun j hj => by omega), rfl⟩
  case round =>
    obtain ⟨k, hk, rfl, HK, rfl⟩ := hrel
    by_cases hkn : k < n
    · have hkz : (k : Int) < (n : Int) := by omega
      obtain ⟨b, off, rfl, hc⟩ := HZ.out (by omega)
      have c1 := hc k hkn
      clear hc
      obtain ⟨u, hu⟩ : ∃ u, z k = u := ⟨_, rfl⟩
      rw [hu] at c1
      have HU := Lib.hid hu
      clear hu
      by_cases g1 : u < -1000000
      · have HR := Lib.hid (HF.out k hkn (by rw [HU.out]; omega))
        go_wp2
        go_ret
        refine ⟨?_, Below.refl _ _⟩
        simp [HR.out]
      · by_cases g2 : 1000000 < u
        · have HR := Lib.hid (HF.out k hkn (by rw [HU.out]; omega))
          go_wp2
          go_ret
          refine ⟨?_, Below.refl _ _⟩
          simp [HR.out]
        · go_wp2
          go_roundw
          case rel => exact ⟨k + 1, by omega, by go_num, Lib.hid (fun j hj => by
            by_cases e : j = k
            · rw [e, HU.out]; omega
            · exact HK.out j (by omega)), by first | trivial | rfl⟩
          case measure => (first | (simp [intOf]; done) | (simp [intOf]; omega))
    · have hkz : ¬ (k : Int) < (n : Int) := by omega
      have HR := Lib.hid (HT.out (fun j hj => HK.out j (by omega)))
      go_wp2
      go_ret
      refine ⟨?_, Below.refl _ _⟩
      simp [HR.out]

set_option maxHeartbeats 8000000 in
set_option maxRecDepth 100000 in
/-- what Groups refuses, it refuses for one of the reasons -/
theorem counted_bad (a b : Option Addr) (no co nt ct : Nat) (opt tot : Nat → Int) (n most : Int) (w : World) (hA : Is w a no co opt) (hB : Is w b nt ct tot) (m1 : ¬ (40 < no ∧ no ≤ 200)) (m2 : ¬ (40 < nt ∧ nt ≤ 200)) (hc : gC no nt tot n most ≠ 0) :
    Calls Try.prog 4 #[.slice a no co, .slice b nt ct, .int .i64 n, .int .i64 most] w fun e w' => e = .returned (.bool true) ∧ Below w.heap.size w w' := by
  have HM1 := Lib.hid (many_any a no co opt w hA)
  have HM2 := Lib.hid (many_any b nt ct tot w hB)
  have HA := Lib.hid hA
  have HB := Lib.hid hB
  clear hA hB
  rw [decide_eq_false m1] at HM1
  rw [decide_eq_false m2] at HM2
  have G := Lib.hid (groups_bad a b no co nt ct opt tot n most w HA.out HB.out hc)
  have HIN := Lib.hid (fun (a1 : ¬ n < 1) (a2 : ¬ 5 < n) (a3 : ¬ most < 1) (a4 : ¬ 10 < most) (a5 : ¬ no = 0) (a6 : no = nt) (a7 : ¬ 200 < no) => show inRb tot nt = false from by
    refine Classical.byContradiction fun hh => hc ?_
    unfold gC
    rw [if_neg (by omega), if_neg (by omega), if_neg hh, if_neg (by omega), if_neg a5])
  obtain ⟨c, ec⟩ : ∃ c, gC no nt tot n most = c := ⟨_, rfl⟩
  rw [ec] at G hc
  clear ec m1 m2
  have l1 := HA.out.1
  have l2 := HA.out.2.1
  have l3 := HB.out.1
  have l4 := HB.out.2.1
  unfold maxLen at l2 l4
  by_cases a1 : n < 1
  · go_enter Try.func4, Try.ntmps4
    go_wp2_with (first | (go_at_call 5; with_reducible refine HM1.out.mono ?_; rintro e w1 ⟨rfl, rfl⟩) | (go_at_call 5; with_reducible refine HM2.out.mono ?_; rintro e w1 ⟨rfl, rfl⟩))
    refine G.out.mono ?_
    rintro e w1 ⟨rfl, hb⟩
    have BL1 := Lib.hid hb
    clear hb G
    go_wp2_with fail
    go_ret
    exact ⟨rfl, BL1.out⟩
  · by_cases a2 : 5 < n
    · go_enter Try.func4, Try.ntmps4
      go_wp2_with (first | (go_at_call 5; with_reducible refine HM1.out.mono ?_; rintro e w1 ⟨rfl, rfl⟩) | (go_at_call 5; with_reducible refine HM2.out.mono ?_; rintro e w1 ⟨rfl, rfl⟩))
      refine G.out.mono ?_
      rintro e w1 ⟨rfl, hb⟩
      have BL1 := Lib.hid hb
      clear hb G
      go_wp2_with fail
      go_ret
      exact ⟨rfl, BL1.out⟩
    · by_cases a3 : most < 1
      · go_enter Try.func4, Try.ntmps4
        go_wp2_with (first | (go_at_call 5; with_reducible refine HM1.out.mono ?_; rintro e w1 ⟨rfl, rfl⟩) | (go_at_call 5; with_reducible refine HM2.out.mono ?_; rintro e w1 ⟨rfl, rfl⟩))
        refine G.out.mono ?_
        rintro e w1 ⟨rfl, hb⟩
        have BL1 := Lib.hid hb
        clear hb G
        go_wp2_with fail
        go_ret
        exact ⟨rfl, BL1.out⟩
      · by_cases a4 : 10 < most
        · go_enter Try.func4, Try.ntmps4
          go_wp2_with (first | (go_at_call 5; with_reducible refine HM1.out.mono ?_; rintro e w1 ⟨rfl, rfl⟩) | (go_at_call 5; with_reducible refine HM2.out.mono ?_; rintro e w1 ⟨rfl, rfl⟩))
          refine G.out.mono ?_
          rintro e w1 ⟨rfl, hb⟩
          have BL1 := Lib.hid hb
          clear hb G
          go_wp2_with fail
          go_ret
          exact ⟨rfl, BL1.out⟩
        · by_cases a5 : no = 0
          · have a5z : ((no : Int) == 0) = true := by simp; omega
            clear a5 HIN
            go_enter Try.func4, Try.ntmps4
            go_wp2_with (first | (go_at_call 5; with_reducible refine HM1.out.mono ?_; rintro e w1 ⟨rfl, rfl⟩) | (go_at_call 5; with_reducible refine HM2.out.mono ?_; rintro e w1 ⟨rfl, rfl⟩))
            refine G.out.mono ?_
            rintro e w1 ⟨rfl, hb⟩
            have BL1 := Lib.hid hb
            clear hb G
            go_wp2_with fail
            go_ret
            exact ⟨rfl, BL1.out⟩
          · by_cases a6 : no = nt
            · subst a6
              by_cases a7 : 200 < no
              · have a5z : ((no : Int) == 0) = false := by simp; omega
                have a7z : 200 < (no : Int) := by omega
                clear HIN
                go_enter Try.func4, Try.ntmps4
                go_wp2_with (first | (go_at_call 5; with_reducible refine HM1.out.mono ?_; rintro e w1 ⟨rfl, rfl⟩) | (go_at_call 5; with_reducible refine HM2.out.mono ?_; rintro e w1 ⟨rfl, rfl⟩))
                refine G.out.mono ?_
                rintro e w1 ⟨rfl, hb⟩
                have BL1 := Lib.hid hb
                clear hb G
                go_wp2_with fail
                go_ret
                exact ⟨rfl, BL1.out⟩
              · have hin := HIN.out a1 a2 a3 a4 a5 rfl a7
                have a5z : ((no : Int) == 0) = false := by simp; omega
                have a7z : ¬ 200 < (no : Int) := by omega
                go_enter Try.func4, Try.ntmps4
                go_wp2_with (first | (go_at_call 5; with_reducible refine HM1.out.mono ?_; rintro e w1 ⟨rfl, rfl⟩) | (go_at_call 5; with_reducible refine HM2.out.mono ?_; rintro e w1 ⟨rfl, rfl⟩))
                refine G.out.mono ?_
                rintro e w1 ⟨rfl, hb⟩
                have BL1 := Lib.hid hb
                clear hb G
                have SM := Lib.hid (small_any b no ct tot w1 (HB.out.below BL1.out))
                rw [hin] at SM
                go_wp2_with (go_at_call 8; with_reducible refine SM.out.mono ?_; rintro e w2 ⟨rfl, hb2⟩)
                go_ret
                exact ⟨rfl, BL1.out.trans (hb2.mono BL1.out.size)⟩
            · have a5z : ((no : Int) == 0) = false := by simp; omega
              have a6z : ((no : Int) == (nt : Int)) = false := by simp; omega
              have a6y : ¬ (no : Int) = (nt : Int) := by omega
              clear a5 HIN
              go_enter Try.func4, Try.ntmps4
              go_wp2_with (first | (go_at_call 5; with_reducible refine HM1.out.mono ?_; rintro e w1 ⟨rfl, rfl⟩) | (go_at_call 5; with_reducible refine HM2.out.mono ?_; rintro e w1 ⟨rfl, rfl⟩))
              refine G.out.mono ?_
              rintro e w1 ⟨rfl, hb⟩
              have BL1 := Lib.hid hb
              clear hb G
              go_wp2_with fail
              go_ret
              exact ⟨rfl, BL1.out⟩

theorem sumC_le (f : Nat → Nat) (B : Nat) (h : ∀ i, f i ≤ B) : ∀ k, sumC f k ≤ k * B
  | 0 => by simp [sumC]
  | k + 1 => by unfold sumC; have := sumC_le f B h k; have := h k; rw [Nat.succ_mul]; omega
theorem Is.of_zeros {w : World} {B n : Nat} {v : Value} (h : w.ownsRow B 3 1 v n (List.replicate n (.int .i64 0))) : ∃ a cap, v = .slice a n cap ∧ Is w a n cap (fun _ => 0) := by
  obtain ⟨_, ⟨rfl, rfl⟩ | ⟨g, cap, cur, rfl, hg, hh, h1, h2, h3, h4⟩⟩ := h
  · exact ⟨_, _, rfl, Nat.le_refl _, Nat.zero_le _, fun h => by omega⟩
  · refine ⟨_, _, rfl, h1, h2, fun _ => ⟨g, 0, rfl, fun i hi => ?_⟩⟩
    have h5 : cur.toList[i]? = some (.int .i64 0) := by
      have : (cur.toList.take (n * 1))[i]? = some (.int .i64 0) := by rw [h4]; simp [hi]
      rwa [List.getElem?_take_of_lt (by omega)] at this
    rw [Nat.zero_add]
    simp [World.cell?, hh]
    simpa using h5
/-- the least and the greatest so far -/
structure MM (len k lo hi : Nat) (sz : Nat → Nat) : Prop where
  all : ∀ g, g < k → lo ≤ sz g ∧ sz g ≤ hi
  top : 0 < k → ∃ g, g < k ∧ hi = sz g
  bot : 0 < k → ∃ g, g < k ∧ lo = sz g
  zero : k = 0 → lo = len ∧ hi = 0
  le : lo ≤ len ∧ hi ≤ len
theorem MM.step {len k lo hi : Nat} {sz : Nat → Nat} (h : MM len k lo hi sz) (hs : sz k ≤ len) : MM len (k + 1) (min lo (sz k)) (max hi (sz k)) sz := by
  obtain ⟨h1, h2, h3, h4, h5⟩ := h
  refine ⟨fun g hg => ?_, fun _ => ?_, fun _ => ?_, fun e => by omega, by omega⟩
  · by_cases e : g = k
    · subst e; omega
    · have := h1 g (by omega); omega
  · by_cases e : sz k ≤ hi
    · by_cases e0 : k = 0
      · exact ⟨k, by omega, by have := h4 e0; omega⟩
      · obtain ⟨g, g1, g2⟩ := h2 (by omega)
        exact ⟨g, by omega, by omega⟩
    · exact ⟨k, by omega, by omega⟩
  · by_cases e : lo ≤ sz k
    · by_cases e0 : k = 0
      · exact ⟨k, by omega, by have := h4 e0; omega⟩
      · obtain ⟨g, g1, g2⟩ := h3 (by omega)
        exact ⟨g, by omega, by omega⟩
    · exact ⟨k, by omega, by omega⟩
theorem MM.end {len n lo hi : Nat} (h : MM len n lo hi (szG len n)) (hn : 0 < n) (hl : 0 < len) : hi ≤ lo + 1 ∧ 0 < hi ∧ lo ≤ hi := by
  obtain ⟨g1, a1, a2⟩ := h.top hn
  obtain ⟨g2, b1, b2⟩ := h.bot hn
  have h1 := szG_diff len n g1 g2 hn hl a1 b1
  have h2 := h.all 0 hn
  have h3 := szG_pos len n hl
  omega

set_option maxHeartbeats 8000000 in
set_option maxRecDepth 100000 in
theorem counted_ok (a b : Option Addr) (len co ct n most : Nat) (opt tot : Nat → Int) (w : World) (hA : Is w a len co opt) (hB : Is w b len ct tot) (hr : inRb tot len = true) (hl : 0 < len) (hl2 : len ≤ 40) (hn1 : 1 ≤ n) (hn2 : n ≤ 5) (hm1 : 1 ≤ most) (hm2 : most ≤ 10) :
    Calls Try.prog 4 #[.slice a len co, .slice b len ct, .int .i64 n, .int .i64 most] w fun e w' => e = .returned (.bool true) ∧ Below w.heap.size w w' := by
  have HM1 := Lib.hid (many_any a len co opt w hA)
  have HM2 := Lib.hid (many_any b len ct tot w hB)
  rw [decide_eq_false (by omega)] at HM1 HM2
  have G := Lib.hid (groups_ok a b len co ct n most opt tot w hA hB hr hl (by omega) hn1 hn2 hm1 hm2)
  have G2 := Lib.hid (fun (a' : Option Addr) (co' : Nat) (w' : World) (hz : Is w' a' len co' (fun _ => 0)) (hb : Below w.heap.size w w') => groups_ok a' b len co' ct n 1 (fun _ => 0) tot w' hz (hB.below hb) hr hl (by omega) hn1 hn2 (by omega) (by omega))
  rw [show ((1 : Nat) : Int) = (1 : Int) from rfl] at G2
  have HA := Lib.hid hA
  have h1 := hA.1
  have h2 := hA.2.1
  have h3 := hB.1
  have h4 := hB.2.1
  unfold maxLen at h2 h4
  clear hA hB hr
  obtain ⟨i0, hi, hzz⟩ := Option.map_eq_some_iff.1 Try.infoIntG
  simp only [Prod.mk.injEq] at hzz
  obtain ⟨hz0, hz1, hz2⟩ := hzz
  obtain ⟨C, hC⟩ : ∃ C : Nat → Nat → Nat, C = fun g o => cG tot opt len n g o := ⟨_, rfl⟩
  obtain ⟨S, hS⟩ : ∃ S : Nat → Nat, S = fun g => sumC (C g) most := ⟨_, rfl⟩
  obtain ⟨F, hF⟩ : ∃ F : Nat → Bool, F = fun i => decide (0 ≤ opt i ∧ opt i < (most : Int)) := ⟨_, rfl⟩
  have HSUM := Lib.hid (show sumC S n = cntP len F by rw [hS, hF, hC]; exact cG_sum tot opt len n most (by omega))
  have HCL := Lib.hid (show ∀ g o, C g o ≤ 40 from fun g o => by rw [hC]; exact Nat.le_trans (cntP_le _ _) hl2)
  have HSS := Lib.hid (show ∀ g, S g = sumC (C g) most from fun g => by rw [hS])
  have HSL := Lib.hid (show ∀ g, S g ≤ 400 from fun g => by
    rw [HSS.out]; exact Nat.le_trans (sumC_le _ 40 (HCL.out g) most) (Nat.mul_le_mul_right 40 hm2))
  have HFF := Lib.hid (show ∀ i, F i = decide (0 ≤ opt i ∧ opt i < (most : Int)) from fun i => by rw [hF])
  have HCC := Lib.hid (show ∀ g o, cG tot opt len n g o = C g o from fun g o => by rw [hC])
  clear hC hS hF
  have mixed : Try.prog.follows Departure.mixedOrders = true := by kernel_rfl
  go_enter Try.func4, Try.ntmps4
  go_wp2_with (first | (go_at_call 5; with_reducible refine HM1.out.mono ?_; rintro e w1 ⟨rfl, rfl⟩) | (go_at_call 5; with_reducible refine HM2.out.mono ?_; rintro e w1 ⟨rfl, rfl⟩))
  refine G.out.mono ?_
  rintro e w1 ⟨p, rfl, htb, hb⟩
  have T1 := Lib.hid htb
  have BL1 := Lib.hid hb
  clear htb hb G HM1 HM2
  go_wp2_with fail
  go_loopw [11, 13] (fun s i wr => ∃ k : Nat, k ≤ len ∧ s = .int .i64 (cntP k F : Nat) ∧ i = .int .i64 k ∧ Below w1.heap.size w1 wr) (fun _ i _ => len - (intOf i).toNat)
  case atStart => exact ⟨0, Nat.zero_le _, by first | rfl | (rw [cntP_zero]; rfl), rfl, Below.refl _ _⟩
  case round =>
    obtain ⟨k, hk, rfl, rfl, hbel⟩ := hrel
    have HW := Lib.hid hbel
    clear hbel
    have hq := cntP_le k F
    have HST := Lib.hid (cntP_succ k F)
    obtain ⟨wt, eq⟩ : ∃ q, cntP k F = q := ⟨_, rfl⟩
    rw [eq] at hq HST ⊢
    have EQ := Lib.hid eq
    clear eq
    by_cases hkl : k < len
    · have hkz : (k : Int) < (len : Int) := by omega
      obtain ⟨ab, off, rfl, ho⟩ := HA.out.2.2 (by omega)
      have c2 := cell_keep (ho k hkl) (BL1.out.trans (HW.out.mono BL1.out.size))
      clear ho
      rw [HFF.out] at HST
      obtain ⟨u, eu⟩ : ∃ u, opt k = u := ⟨_, rfl⟩
      rw [eu] at c2 HST
      clear eu
      by_cases u0 : 0 ≤ u
      · by_cases u1 : u < (most : Int)
        · rw [decide_eq_true (And.intro u0 u1), if_pos rfl] at HST
          go_wp2_with fail
          go_roundw
          case rel => exact ⟨k + 1, by omega, by rw [HST.out]; first | rfl | go_num, by go_num, HW.out⟩
          case measure => (first | (simp [intOf]; done) | (simp [intOf]; omega))
        · rw [decide_eq_false (fun h => u1 h.2), if_neg (by decide)] at HST
          go_wp2_with fail
          go_roundw
          case rel => exact ⟨k + 1, by omega, by rw [HST.out]; first | rfl | simp, by go_num, HW.out⟩
          case measure => (first | (simp [intOf]; done) | (simp [intOf]; omega))
      · rw [decide_eq_false (fun h => u0 h.1), if_neg (by decide)] at HST
        go_wp2_with fail
        go_roundw
        case rel => exact ⟨k + 1, by omega, by rw [HST.out]; first | rfl | simp, by go_num, HW.out⟩
        case measure => (first | (simp [intOf]; done) | (simp [intOf]; omega))
    · have hkz : ¬ (k : Int) < (len : Int) := by omega
      obtain rfl : k = len := by omega
      rw [EQ.out] at HSUM
      clear HST EQ
      have T2 := Lib.hid (T1.out.below HW.out)
      have BL2 := Lib.hid (BL1.out.trans (HW.out.mono BL1.out.size))
      clear T1 BL1 HW
      generalize wr = w2 at T2 BL2 ⊢
      go_wp2_with fail
      go_loopw [12, 14, 15] (fun s i _ wr => ∃ g : Nat, g ≤ n ∧ s = .int .i64 (sumC S g : Nat) ∧ i = .int .i64 g ∧ Below w2.heap.size w2 wr) (fun _ i _ _ => n - (intOf i).toNat)
      case atStart => exact ⟨0, Nat.zero_le _, rfl, rfl, Below.refl _ _⟩
      case round =>
        obtain ⟨g, hg, rfl, rfl, hbel⟩ := hrel
        have HW := Lib.hid hbel
        clear hbel
        have hsg : sumC S g ≤ 2000 := Nat.le_trans (sumC_le S 400 HSL.out g) (Nat.mul_le_mul (show g ≤ 5 by omega) (Nat.le_refl 400))
        obtain ⟨q, eq⟩ : ∃ q, sumC S g = q := ⟨_, rfl⟩
        rw [eq] at hsg ⊢
        have EQ := Lib.hid eq
        clear eq
        by_cases hgn : g < n
        · have hgz : (g : Int) < (n : Int) := by omega
          have A := Lib.hid (T2.out.below HW.out)
          obtain ⟨tb, rb, rfl, hA⟩ := A.out.2.2 (by omega)
          have a1 := (hA g hgn).1
          have FA := Lib.hid (hA g hgn).2
          clear hA A
          go_wp2_with fail
          go_loopw [12, 15] (fun s j wq => ∃ o : Nat, o ≤ most ∧ s = .int .i64 (q + sumC (C g) o : Nat) ∧ j = .int .i64 o ∧ Below wr.heap.size wr wq) (fun _ j _ => most - (intOf j).toNat)
          case atStart => exact ⟨0, Nat.zero_le _, rfl, rfl, Below.refl _ _⟩
          case round =>
            obtain ⟨o, ho, rfl, rfl, hbel⟩ := hrel
            have HQ := Lib.hid hbel
            have c1 := cell_keep a1 hbel
            clear hbel
            have hso : sumC (C g) o ≤ 400 := Nat.le_trans (sumC_le _ 40 (HCL.out g) o) (Nat.mul_le_mul (show o ≤ 10 by omega) (Nat.le_refl 40))
            obtain ⟨x, ex⟩ : ∃ x, sumC (C g) o = x := ⟨_, rfl⟩
            rw [ex] at hso ⊢
            have EX := Lib.hid ex
            clear ex
            obtain ⟨y, ey⟩ : ∃ y, q + x = y := ⟨_, rfl⟩
            have hy : y ≤ 2400 := by omega
            rw [ey]
            have EY := Lib.hid ey
            clear ey
            by_cases hom : o < most
            · have hoz : (o : Int) < (most : Int) := by omega
              have c3 := cell_keep (FA.out o hom) HQ.out
              rw [HCC.out] at c3
              have hcl := HCL.out g o
              obtain ⟨v, ev⟩ : ∃ v, C g o = v := ⟨_, rfl⟩
              rw [ev] at c3 hcl
              have EV := Lib.hid ev
              clear ev
              go_wp2_with fail
              go_roundw
              case rel => exact ⟨o + 1, by omega, by
                have e1 : q + sumC (C g) (o + 1) = y + v := by unfold sumC; rw [EX.out, EV.out, ← EY.out]; omega
                rw [e1]; first | rfl | go_num, by go_num, HQ.out⟩
              case measure => (first | (simp [intOf]; done) | (simp [intOf]; omega))
            · have hoz : ¬ (o : Int) < (most : Int) := by omega
              obtain rfl : o = most := by omega
              have HN := Lib.hid (show sumC S (g + 1) = y by unfold sumC; rw [EQ.out, HSS.out, EX.out]; exact EY.out)
              have HW2 := Lib.hid (HW.out.trans (HQ.out.mono HW.out.size))
              clear hso
              go_wp2_with fail
              go_roundw
              case rel => exact ⟨g + 1, by omega, by rw [HN.out], by go_num, HW2.out⟩
              case measure => (first | (simp [intOf]; done) | (simp [intOf]; omega))
        · have hgz : ¬ (g : Int) < (n : Int) := by omega
          obtain rfl : n = g := by omega
          obtain rfl : q = wt := by rw [← EQ.out]; exact HSUM.out
          clear HSUM EQ
          have T3 := Lib.hid (T2.out.below HW.out)
          have BL3 := Lib.hid (BL2.out.trans (HW.out.mono BL2.out.size))
          clear T2 BL2 HW
          generalize wr = w3 at T3 BL3 ⊢
          have hs3 := BL3.out.size
          go_wp2_with fail
          go_loopw [16, 17] (fun v i wr => ∃ m : Nat, m ≤ k ∧ i = .int .i64 m ∧ wr.ownsRow w3.heap.size 3 1 v m (List.replicate m (.int .i64 0)) ∧ Below w3.heap.size w3 wr) (fun _ i _ => k - (intOf i).toNat)
          case atStart => exact ⟨0, Nat.zero_le _, rfl, ⟨rfl, .inl ⟨rfl, rfl⟩⟩, Below.refl _ _⟩
          case round =>
            obtain ⟨m, hm, rfl, hown, hbel⟩ := hrel
            have HO := Lib.hid hown
            have HW := Lib.hid hbel
            have hs4 := hbel.size
            clear hown hbel
            by_cases hmk : m < k
            · have hmz : (m : Int) < (k : Int) := by omega
              go_wp2_with (at_builtin; refine wpList_append_own_at _ rfl (.tmp 143) (.tmp 144) 22 rfl w3.heap.size 3 i0 (.int .i64 0) 1 8 Try.underIntsG hi hz0 hz1 hz2 rfl (by decide) _ m (List.replicate m (.int .i64 0)) rfl (HO.out.alloc _) ⟨wr.heap.size, 0, none⟩ 1 1 [.int .i64 0] (by first | rfl | simp) rfl (by intro j u hj; rcases j with _ | j; (· simp at hj; subst hj; simp [Addr.add]); (· simp at hj)) (by intro u hu; simp at hu; subst hu; rfl) (by unfold maxLen; omega) (by omega) (by simp; omega) ?_; intro v2 wn hm2 hg2 _ _; have HO2 := Lib.hid hm2; have HW2 := Lib.hid ((HW.out.alloc hs4 _).grown hg2 (by simp; omega) (fun q hq => (HO.out.lt q hq).1)); clear hm2 hg2)
              go_roundw
              case rel => exact ⟨m + 1, by omega, by go_num, by rw [List.replicate_succ']; exact HO2.out, HW2.out⟩
              case measure => (first | (simp [intOf]; done) | (simp [intOf]; omega))
            · have hmz : ¬ (m : Int) < (k : Int) := by omega
              obtain rfl : m = k := by omega
              obtain ⟨az, cz, rfl, hz⟩ := Is.of_zeros HO.out
              have BL4 := Lib.hid (BL3.out.trans (HW.out.mono BL3.out.size))
              have GG := Lib.hid (G2.out az cz wr hz BL4.out)
              clear HO HW hz G2 BL3 T3
              go_wp2_with fail
              refine GG.out.mono ?_
              rintro e w5 ⟨pz, rfl, htb, hb⟩
              have TZ := Lib.hid htb
              have BL5 := Lib.hid (BL4.out.trans (hb.mono BL4.out.size))
              clear htb hb GG BL4
              go_wp2_with fail
              go_loopw [19, 20, 21] (fun lo hi i wr => ∃ g l h : Nat, g ≤ n ∧ lo = .int .i64 l ∧ hi = .int .i64 h ∧ i = .int .i64 g ∧ Hid (MM m g l h (szG m n)) ∧ Below w5.heap.size w5 wr) (fun _ _ i _ => n - (intOf i).toNat)
              case atStart => exact ⟨0, m, 0, Nat.zero_le _, rfl, rfl, rfl, Lib.hid ⟨fun g hg => by omega, fun h => by omega, fun h => by omega, fun _ => ⟨rfl, rfl⟩, by omega⟩, Below.refl _ _⟩
              case round =>
                obtain ⟨g, l, h, hg, rfl, rfl, rfl, HM, hbel⟩ := hrel
                have HW := Lib.hid hbel
                have hle := HM.out.le
                clear hbel
                by_cases hgn : g < n
                · have hgz : (g : Int) < (n : Int) := by omega
                  have A := Lib.hid (TZ.out.below HW.out)
                  obtain ⟨tb, rb, rfl, hA⟩ := A.out.2.2 (by omega)
                  have a1 := (hA g hgn).1
                  have a2 := (hA g hgn).2 0 (by omega)
                  rw [cG_sz] at a2
                  clear hA A
                  have HS2 := Lib.hid (HM.out.step (szG_le m n g))
                  have hsz := szG_le m n g
                  obtain ⟨x, ex⟩ : ∃ x, szG m n g = x := ⟨_, rfl⟩
                  rw [ex] at a2 HS2 hsz
                  clear ex
                  obtain ⟨l2, hl2'⟩ : ∃ q, min l x = q := ⟨_, rfl⟩
                  obtain ⟨h2', hh2'⟩ : ∃ q, max h x = q := ⟨_, rfl⟩
                  rw [hl2', hh2'] at HS2
                  have e1 : min (l : Int) (x : Int) = (l2 : Int) := by omega
                  have e2 : max (h : Int) (x : Int) = (h2' : Int) := by omega
                  clear hl2' hh2'
                  go_wp2_with fail
                  go_big_region_o
                  go_wp2_with fail
                  go_roundw
                  case rel => exact ⟨g + 1, l2, h2', by omega, by first | rfl | (congr 1; split <;> omega), by first | rfl | (congr 1; split <;> omega), by go_num, HS2, by first | exact HW.out | exact HW.out.drew⟩
                  case measure => (first | (simp [intOf]; done) | (simp [intOf]; omega))
                · have hgz : ¬ (g : Int) < (n : Int) := by omega
                  obtain rfl : g = n := by omega
                  obtain ⟨q1, q2, q3⟩ := HM.out.end (by omega) hl
                  have z1 : (h : Int) - (l : Int) ≤ 1 := by omega
                  have z2 : 0 < (h : Int) := by omega
                  go_wp2_with fail
                  go_ret
                  exact ⟨by simp [*], BL5.out.trans (HW.out.mono BL5.out.size)⟩

set_option maxHeartbeats 4000000 in
set_option maxRecDepth 100000 in
theorem counted_walk (a b : Option Addr) (no co nt ct : Nat) (opt tot : Nat → Int) (n most : Int) (w : World) (hA : Is w a no co opt) (hB : Is w b nt ct tot) :
    Calls Try.prog 4 #[.slice a no co, .slice b nt ct, .int .i64 n, .int .i64 most] w fun e w' => e = .returned (.bool true) ∧ Below w.heap.size w w' := by
  by_cases m1 : 40 < no ∧ no ≤ 200
  · have HM1 := Lib.hid (many_any a no co opt w hA)
    rw [decide_eq_true m1] at HM1
    clear m1 hA hB
    go_enter Try.func4, Try.ntmps4
    go_wp2_with (go_at_call 5; with_reducible refine HM1.out.mono ?_; rintro e w1 ⟨rfl, rfl⟩)
    go_ret
    exact ⟨rfl, Below.refl _ _⟩
  by_cases m2 : 40 < nt ∧ nt ≤ 200
  · have HM1 := Lib.hid (many_any a no co opt w hA)
    have HM2 := Lib.hid (many_any b nt ct tot w hB)
    rw [decide_eq_false m1] at HM1
    rw [decide_eq_true m2] at HM2
    clear m1 m2 hA hB
    go_enter Try.func4, Try.ntmps4
    go_wp2_with (first | (go_at_call 5; with_reducible refine HM1.out.mono ?_; rintro e w1 ⟨rfl, rfl⟩) | (go_at_call 5; with_reducible refine HM2.out.mono ?_; rintro e w1 ⟨rfl, rfl⟩))
    go_ret
    exact ⟨rfl, Below.refl _ _⟩
  by_cases hc : gC no nt tot n most = 0
  · obtain ⟨z1, z2, z3, z4, rfl, z6, z7, z8⟩ := gC_zero hc
    obtain ⟨n, rfl⟩ : ∃ k : Nat, n = (k : Int) := ⟨n.toNat, by omega⟩
    obtain ⟨most, rfl⟩ : ∃ k : Nat, most = (k : Int) := ⟨most.toNat, by omega⟩
    exact counted_ok a b no co ct n most opt tot w hA hB z8 z6 (by omega) (by omega) (by omega) (by omega) (by omega)
  · exact counted_bad a b no co nt ct opt tot n most w hA hB m1 m2 hc

set_option maxRecDepth 100000 in
theorem classicalCounted_lifted (os : Os) (started : os.Started) (H : Type) (enc : TypeId × Value → H) :
    ReturnsInHanded {} Try.checked os 4 .any (Rows.classicalCountedSpec.pre6 enc Try.prog Try.f4 Rows.classicalCountedRow.domain false) (Rows.classicalCountedSpec.post enc Try.prog Try.f4 false true false false) := by
  refine returnsInHanded_of_change (C := Try.checked) Try.own started (by kernel_rfl) Try.func4
    (ChangeSpec.witness6 (enc := enc) (C := Try.checked) false ⟨#[], #[.slice none 0 0, .slice none 0 0, .int .i64 0, .int .i64 0], []⟩ 8 (by kernel_rfl) (by kernel_rfl) (by kernel_rfl) (by kernel_rfl)) ?_
  intro W base args ds gs before hval0 hW hcnd _
  have hval : ∀ (j : Nat) t v, Try.f4.params[j]? = some t → args[j]? = some v → Value.okWide Try.prog W .any base t v := hval0
  have hW' := hW
  obtain ⟨p, q, hA0, hV, rfl, hfz, hnd⟩ := hW
  have hA : DataW.TrodAll enc Try.prog W 0 (fun _ => true) true Try.f4.params.toList args.toList ds p := hA0
  rw [Try.params4] at hA hval
  obtain ⟨v0, vs0, x0, ds0, p0, q0, hargs, rfl, rfl, h0, r0⟩ := trodAll_cons hA
  obtain ⟨v1, vs1, x1, ds1, p1, q1, rfl, rfl, rfl, h1, r1⟩ := trodAll_cons r0
  obtain ⟨v2, vs2, x2, ds2, p2, q2, rfl, rfl, rfl, h2, r2⟩ := trodAll_cons r1
  obtain ⟨v3, vs3, x3, ds3, p3, q3, rfl, rfl, rfl, h3, r3⟩ := trodAll_cons r2
  obtain ⟨rfl, rfl, rfl⟩ := trodAll_nil r3
  obtain rfl : args = #[v0, v1, v2, v3] := by cases args; simp_all
  obtain ⟨rfl, rfl⟩ := trodVars_none hV
  have k0 := h0
  have lt0 : ∀ x ∈ p0, x.block < W.heap.size := by obtain ⟨m, hm⟩ := k0; exact DataW.trod_lt m _ _ _ hm
  obtain ⟨a0, n0, c0, rfl⟩ := okWide_slice Try.underlying22 (hval 0 22 v0 rfl rfl); obtain ⟨z0, hz0⟩ := open_ints1 h0
  have k1 := h1
  have lt1 : ∀ x ∈ p1, x.block < W.heap.size := by obtain ⟨m, hm⟩ := k1; exact DataW.trod_lt m _ _ _ hm
  obtain ⟨a1, n1, c1, rfl⟩ := okWide_slice Try.underlying22 (hval 1 22 v1 rfl rfl); obtain ⟨z1, hz1⟩ := open_ints1 h1
  obtain ⟨a2, rfl, rfl, rfl, w2⟩ := open_int Try.underlying3 (hval 2 3 v2 rfl rfl) h2
  obtain ⟨a3, rfl, rfl, rfl, w3⟩ := open_int Try.underlying3 (hval 3 3 v3 rfl rfl) h3
  clear hA0 hval0
  refine (counted_walk a0 a1 n0 c0 n1 c1 z0 z1 a2 a3 W hz0 hz1).mono fun e W' ⟨he, bel⟩ => ?_
  subst he
  exact ⟨_, rfl, _, _, _, [], _, [], hW', trodAll_mk1 (shut_bool Try.underlying4 _), (trodAll_cons_mk (Below.trod Try.laidOut (by kernel_rfl) (of_decide_eq_true (by kernel_rfl)) k0 bel lt0) (trodAll_cons_mk (Below.trod Try.laidOut (by kernel_rfl) (of_decide_eq_true (by kernel_rfl)) k1 bel lt1) (trodAll_cons_mk (shut_int Try.underlying3 w2) (trodAll_cons_mk (shut_int Try.underlying3 w3) trodAll_mk0)))), rfl, bel.frame _, fun h => by cases h⟩

theorem classicalCounted_holds : Rows.ClassicalCountedSaid :=
  OpenClaim.holds_of_wide 4 Try.f4 rfl rfl rfl rfl rfl rfl rfl ⟨rfl, rfl, rfl, rfl, rfl⟩ rfl rfl rfl rfl rfl (by kernel_rfl) Try.func4 (by kernel_rfl)
    (of_decide_eq_true (by kernel_rfl)) (by unfold Func.isWrapper; first | (rw [if_pos (by decide +kernel)]; kernel_rfl) | (rw [if_neg (by decide +kernel)]; exact ⟨rfl, rfl⟩))
    (fun os started H enc _ => classicalCounted_lifted os started H enc)
#print axioms classicalCounted_holds

end Go.Proofs.Ytjlefaojlngbiaa
