import Derived.Test.YtjobopafcgnljaaGreatClsB
namespace Go.Proofs.YtjobopafcgnljaaGreat
open Go.RowKit
def fstC (f : Nat → Int) : Nat → Int
 | 0 => 0
 | n + 1 => if fstC f n = 0 then f n else fstC f n
theorem fstC_step {f : Nat → Int} {k : Nat} (h : fstC f k = 0) (h2 : f k = 0) : fstC f (k + 1) = 0 := by show (if _ then _ else _) = _; rw [if_pos h]; exact h2
theorem fstC_hit {f : Nat → Int} {k : Nat} (h : fstC f k = 0) (h2 : f k ≠ 0) : ∀ n, k < n → fstC f n = f k
 | 0, hn => by omega
 | n + 1, hn => by
  show (if fstC f n = 0 then f n else fstC f n) = _
  by_cases e : k = n
  ·subst e; rw [if_pos h]
  ·rw [fstC_hit h h2 n (by omega), if_neg h2]
theorem fstC_zero {f : Nat → Int} : ∀ {n : Nat}, fstC f n = 0 → ∀ i, i < n → f i = 0
 | 0, _, i, hi => by omega
 | n + 1, h, i, hi => by
  have h' : (if fstC f n = 0 then f n else fstC f n) = 0 := h
  by_cases e : fstC f n = 0
  ·rw [if_pos e] at h'
   by_cases e2 : i = n
   ·subst e2; exact h'
   ·exact fstC_zero e i (by omega)
  ·rw [if_neg e] at h'; exact absurd h' e
def okW (z : Nat → Int) (n : Nat) : Prop := ∀ i, i < n → 1 ≤ z i ∧ z i ≤ 1000
open Classical in
noncomputable def rowMd (cats len : Nat) (z : Nat → Int) : Int := if len ≠ cats then 1 else if ¬ okW z len then 3 else if sumZ z len ≠ 1000 then 19 else 0
noncomputable def vldC (R n : Nat) (rn : Nat → Nat) (z : Nat → Nat → Int) : Int := if n < 1 ∨ 21 < n ∨ R ≠ n then 1 else if rn 0 < 2 ∨ 6 < rn 0 then 3 else fstC (fun i => rowMd (rn 0) (rn i) (z i)) R
theorem okW_sum {z : Nat → Int} : ∀ {k : Nat}, okW z k → 0 ≤ sumZ z k ∧ sumZ z k ≤ 1000 * (k : Int)
 | 0, _ => by simp [sumZ]
 | k + 1, h => by
  have h1 := okW_sum (k := k) (fun i hi => h i (by omega))
  have h2 := h k (by omega)
  simp only [sumZ]; omega
theorem okW_succ {z : Nat → Int} {k : Nat} (h : okW z k) (h1 : 1 ≤ z k) (h2 : z k ≤ 1000) : okW z (k + 1) := fun i hi => by
 by_cases e : i = k
 ·subst e; exact ⟨h1, h2⟩
 ·exact h i (by omega)
theorem rowMd_len {cats len : Nat} {z : Nat → Int} (h : len ≠ cats) : rowMd cats len z = 1 := by unfold rowMd; rw [if_pos h]
theorem rowMd_bad {cats len k : Nat} {z : Nat → Int} (h : len = cats) (hk : k < len) (h2 : ¬ (1 ≤ z k ∧ z k ≤ 1000)) : rowMd cats len z = 3 := by
 unfold rowMd; rw [if_neg (fun hh => hh h), if_pos (fun hh => h2 (hh k hk))]
theorem rowMd_sum {cats len : Nat} {z : Nat → Int} (h : len = cats) (h1 : okW z len) (h2 : sumZ z len ≠ 1000) : rowMd cats len z = 19 := by
 unfold rowMd; rw [if_neg (fun hh => hh h), if_neg (fun hh => hh h1), if_pos h2]
theorem rowMd_ok {cats len : Nat} {z : Nat → Int} (h : len = cats) (h1 : okW z len) (h2 : sumZ z len = 1000) : rowMd cats len z = 0 := by
 unfold rowMd; rw [if_neg (fun hh => hh h), if_neg (fun hh => hh h1), if_neg (fun hh => hh h2)]
set_option maxHeartbeats 2000000 in
theorem row19_any (a : Option Addr) (n cap k : Nat) (z : Nat → Int) (w : World) (h : Is w a n cap z) (hk : k ≤ 6) :
  Calls Tryz.prog 55 #[.slice a n cap, .int .i64 k] w fun e w' => e = .returned (.int .i64 (rowMd k n z)) ∧ w = w' := by
 have HA := Lib.hid h
 have bc := h.1
 have bm := h.2.1
 unfold maxLen at bm
 clear h
 by_cases hl : n = k
 ·subst hl
  go_enter Tryz.func55, Tryz.ntmps55
  go_wp2_with fail
  go_loop [5, 6] (fun s i => ∃ (j : Nat) (S : Int), j ≤ n ∧ i = .int .i64 j ∧ s = .int .i64 S ∧ sumZ z j = S ∧ Hid (okW z j)) (fun _ i => n - (intOf i).toNat)
  case atStart => exact ⟨0, 0, Nat.zero_le _, rfl, rfl, rfl, Lib.hid (fun i hi => by omega)⟩
  case round =>
   obtain ⟨j, S, hj, rfl, rfl, hS, hin⟩ := hrel
   have HS := Lib.hid hS
   obtain ⟨hs0, hs1⟩ := okW_sum hin.out
   rw [hS] at hs0 hs1
   clear hS
   by_cases hjn : j < n
   ·obtain ⟨b, off, rfl, hc⟩ := HA.out.2.2 (by omega)
    have hcell := hc j hjn
    obtain ⟨v, hv⟩ : ∃ v, z j = v := ⟨_, rfl⟩
    rw [hv] at hcell
    have HV := Lib.hid hv
    clear hc hv
    have hix0 : (0 : Int) ≤ (j : Int) := by omega
    have hix1 : (j : Int) < (n : Int) := by omega
    by_cases h1 : 1 ≤ v
    ·by_cases h2 : v ≤ 1000
     ·have hin2 := okW_succ hin.out (by rw [HV.out]; exact h1) (by rw [HV.out]; exact h2)
      have HIN2 := Lib.hid hin2
      have hj6 : j < 1000000000000 := by omega
      clear hin2
      go_wp2_with fail
      go_round
      case rel => exact ⟨j + 1, S + v, by omega, by go_num, by go_num, by show sumZ z j + z j = _; rw [HS.out, HV.out], HIN2⟩
      case measure => simp [intOf]; omega
     ·have HE := Lib.hid (show rowMd n n z = 3 from rowMd_bad rfl hjn (by rw [HV.out]; omega))
      go_wp2_with fail
      go_ret
      rw [HE.out]
      exact ⟨rfl, rfl⟩
    ·have HE := Lib.hid (show rowMd n n z = 3 from rowMd_bad rfl hjn (by rw [HV.out]; omega))
     go_wp2_with fail
     go_ret
     rw [HE.out]
     exact ⟨rfl, rfl⟩
   ·obtain rfl : j = n := by omega
    by_cases hs : S = 1000
    ·have HE := Lib.hid (show rowMd j j z = 0 from rowMd_ok rfl hin.out (HS.out.trans hs))
     go_wp2_with fail
     go_ret
     rw [HE.out]
     exact ⟨rfl, rfl⟩
    ·have HE := Lib.hid (show rowMd j j z = 19 from rowMd_sum rfl hin.out (by rw [HS.out]; exact hs))
     go_wp2_with fail
     go_ret
     rw [HE.out]
     exact ⟨rfl, rfl⟩
 ·have HE := Lib.hid (show rowMd k n z = 1 from rowMd_len hl)
  have d1 : ¬ (n : Int) = (k : Int) := by omega
  go_enter Tryz.func55, Tryz.ntmps55
  go_wp2_with fail
  go_ret
  rw [HE.out]
  exact ⟨rfl, rfl⟩
set_option maxRecDepth 20000 in
set_option maxHeartbeats 4000000 in
theorem mvalid_any (a : Option Addr) (R cap n : Nat) (ra : Nat → Option Addr) (rn rc : Nat → Nat) (z : Nat → Nat → Int) (w : World) (h : Rw w a R cap ra rn rc z) :
  Calls Tryz.prog 18 #[.agg #[.slice a R cap], .int .i64 n] w fun e w' => e = .returned (.int .i64 (vldC R n rn z)) ∧ Below w.heap.size w w' := by
 have HA := Lib.hid (h.alloc (.cells #[.slice a R cap] 42))
 have bc := h.1
 have bm := h.2.1
 unfold maxLen at bm
 clear h
 by_cases h1 : n < 1
 ·have HE := Lib.hid (show vldC R n rn z = 1 by unfold vldC; rw [if_pos (by omega)])
  go_enter Tryz.func18, Tryz.ntmps18
  go_wp2_with fail
  go_ret
  rw [HE.out]
  exact ⟨rfl, bel1 _ _⟩
 by_cases h2 : 21 < n
 ·have HE := Lib.hid (show vldC R n rn z = 1 by unfold vldC; rw [if_pos (by omega)])
  go_enter Tryz.func18, Tryz.ntmps18
  go_wp2_with fail
  go_ret
  rw [HE.out]
  exact ⟨rfl, bel1 _ _⟩
 by_cases h3 : R = n
 ·subst h3
  obtain ⟨b, off, rfl, hc⟩ := HA.out.2.2 (by omega)
  obtain ⟨hc0, hi0⟩ := hc 0 (by omega)
  rw [Nat.add_zero] at hc0
  have HC := Lib.hid hc
  obtain ⟨K, hK⟩ : ∃ K, rn 0 = K := ⟨_, rfl⟩
  rw [hK] at hc0 hi0
  have HKK := Lib.hid hK
  have k1 := hi0.1
  have k2 := hi0.2.1
  unfold maxLen at k2
  have hR0 : (0 : Int) < (R : Int) := by omega
  clear hc hi0
  by_cases h4 : K < 2
  ·rw [← hK] at h4
   have HE := Lib.hid (show vldC R R rn z = 3 by unfold vldC; rw [if_neg (by omega), if_pos (by omega)])
   rw [hK] at h4
   clear hK
   go_enter Tryz.func18, Tryz.ntmps18
   go_wp2_with fail
   go_ret
   rw [HE.out]
   exact ⟨rfl, bel1 _ _⟩
  by_cases h5 : 6 < K
  ·rw [← hK] at h5
   have HE := Lib.hid (show vldC R R rn z = 3 by unfold vldC; rw [if_neg (by omega), if_pos (by omega)])
   rw [hK] at h5
   clear hK
   go_enter Tryz.func18, Tryz.ntmps18
   go_wp2_with fail
   go_ret
   rw [HE.out]
   exact ⟨rfl, bel1 _ _⟩
  clear hK
  go_enter Tryz.func18, Tryz.ntmps18
  go_wp2_with fail
  go_loopw [38] (fun i wr => ∃ k : Nat, k ≤ R ∧ i = .int .i64 k ∧ Hid (fstC (fun i => rowMd (rn 0) (rn i) (z i)) k = 0) ∧ (w.alloc (.cells #[.slice (some ⟨b, off, none⟩) R cap] 42)) = wr) (fun i _ => R - (intOf i).toNat)
  case atStart => exact ⟨0, Nat.zero_le _, rfl, Lib.hid rfl, rfl⟩
  case round =>
   obtain ⟨k, hk, rfl, hin, rfl⟩ := hrel
   by_cases hkR : k < R
   ·obtain ⟨hcell, hrow⟩ := HC.out k hkR
    obtain ⟨l, hl⟩ : ∃ l, rn k = l := ⟨_, rfl⟩
    rw [hl] at hcell hrow
    have HL := Lib.hid hl
    have HROW := Lib.hid hrow
    have l1 := hrow.1
    have l2 := hrow.2.1
    unfold maxLen at l2
    have hkz : (k : Int) < (R : Int) := by omega
    have hk0 : (0 : Int) ≤ (k : Int) := by omega
    clear hl hrow
    by_cases hlK : l = K
    ·subst hlK
     go_wp2_with fail
     go_loopw [8, 48] (fun s i wr => ∃ (j : Nat) (S : Int), j ≤ l ∧ i = .int .i64 j ∧ s = .int .i64 S ∧ sumZ (z k) j = S ∧ Hid (okW (z k) j) ∧ (w.alloc (.cells #[.slice (some ⟨b, off, none⟩) R cap] 42)) = wr) (fun _ i _ => l - (intOf i).toNat)
     case atStart => exact ⟨0, 0, Nat.zero_le _, rfl, rfl, rfl, Lib.hid (fun i hi => by omega), rfl⟩
     case round =>
      obtain ⟨j, S, hj, rfl, rfl, hS, hiw, rfl⟩ := hrel
      have HS := Lib.hid hS
      obtain ⟨hs0, hs1⟩ := okW_sum hiw.out
      rw [hS] at hs0 hs1
      clear hS
      by_cases hjl : j < l
      ·obtain ⟨b2, off2, hra, hc2⟩ := HROW.out.2.2 (by omega)
       rw [hra] at hcell
       have hcell2 := hc2 j hjl
       obtain ⟨v, hv⟩ : ∃ v, z k j = v := ⟨_, rfl⟩
       rw [hv] at hcell2
       have HV := Lib.hid hv
       clear hc2 hv
       have hjz : (j : Int) < (l : Int) := by omega
       have hj0 : (0 : Int) ≤ (j : Int) := by omega
       have HRA := Lib.hid hra
       rw [hra]
       clear hra
       by_cases h1 : 1 ≤ v
       ·by_cases h2' : v ≤ 1000
        ·have HIN2 := Lib.hid (okW_succ hiw.out (by rw [HV.out]; exact h1) (by rw [HV.out]; exact h2'))
         go_wp2_with fail
         go_roundw
         case rel => exact ⟨j + 1, S + v, by omega, by go_num, by go_num, by show sumZ (z k) j + z k j = _; rw [HS.out, HV.out], HIN2, by first | rfl | trivial⟩
         case measure => simp [intOf]; omega
        ·have HE := Lib.hid (show vldC R R rn z = 3 by unfold vldC; rw [if_neg (by omega), if_neg (by rw [HKK.out]; omega)]; rw [fstC_hit hin.out (by show rowMd (rn 0) (rn k) (z k) ≠ 0; rw [HL.out, HKK.out, rowMd_bad (k := j) rfl hjl (by rw [HV.out]; omega)]; decide) R hkR]; show rowMd (rn 0) (rn k) (z k) = _; rw [HL.out, HKK.out, rowMd_bad (k := j) rfl hjl (by rw [HV.out]; omega)])
         go_wp2_with fail
         go_ret
         rw [HE.out]
         exact ⟨rfl, bel1 _ _⟩
       ·have HE := Lib.hid (show vldC R R rn z = 3 by unfold vldC; rw [if_neg (by omega), if_neg (by rw [HKK.out]; omega)]; rw [fstC_hit hin.out (by show rowMd (rn 0) (rn k) (z k) ≠ 0; rw [HL.out, HKK.out, rowMd_bad (k := j) rfl hjl (by rw [HV.out]; omega)]; decide) R hkR]; show rowMd (rn 0) (rn k) (z k) = _; rw [HL.out, HKK.out, rowMd_bad (k := j) rfl hjl (by rw [HV.out]; omega)])
        go_wp2_with fail
        go_ret
        rw [HE.out]
        exact ⟨rfl, bel1 _ _⟩
      ·obtain rfl : j = l := by omega
       by_cases hs : S = 1000
       ·have HIN3 := Lib.hid (fstC_step hin.out (show rowMd (rn 0) (rn k) (z k) = 0 by rw [HL.out, HKK.out]; exact rowMd_ok rfl hiw.out (HS.out.trans hs)))
        go_wp2_with fail
        go_roundw
        case rel => exact ⟨k + 1, by omega, by go_num, HIN3, by first | rfl | trivial⟩
        case measure => simp [intOf]; omega
       ·have HE := Lib.hid (show vldC R R rn z = 19 by unfold vldC; rw [if_neg (by omega), if_neg (by rw [HKK.out]; omega)]; rw [fstC_hit hin.out (by show rowMd (rn 0) (rn k) (z k) ≠ 0; rw [HL.out, HKK.out, rowMd_sum rfl hiw.out (by rw [HS.out]; exact hs)]; decide) R hkR]; show rowMd (rn 0) (rn k) (z k) = _; rw [HL.out, HKK.out, rowMd_sum rfl hiw.out (by rw [HS.out]; exact hs)])
        go_wp2_with fail
        go_ret
        rw [HE.out]
        exact ⟨rfl, bel1 _ _⟩
    ·have d5 : ¬ (l : Int) = (K : Int) := by omega
     have HE := Lib.hid (show vldC R R rn z = 1 by unfold vldC; rw [if_neg (by omega), if_neg (by rw [HKK.out]; omega)]; rw [fstC_hit hin.out (by show rowMd (rn 0) (rn k) (z k) ≠ 0; rw [HL.out, HKK.out, rowMd_len hlK]; decide) R hkR]; show rowMd (rn 0) (rn k) (z k) = _; rw [HL.out, HKK.out, rowMd_len hlK])
     go_wp2_with fail
     go_ret
     rw [HE.out]
     exact ⟨rfl, bel1 _ _⟩
   ·obtain rfl : k = R := by omega
    have HE := Lib.hid (show vldC k k rn z = 0 by unfold vldC; rw [if_neg (by omega), if_neg (by rw [HKK.out]; omega)]; exact hin.out)
    go_wp2_with fail
    go_ret
    rw [HE.out]
    exact ⟨rfl, bel1 _ _⟩
 ·have d3 : ¬ (R : Int) = (n : Int) := by omega
  have d3a : decide (R = n) = false := by simp; omega
  have d3b : ((R : Int) == (n : Int)) = false := by simp; omega
  have d3c : (R == n) = false := by simp; omega
  have d3d : ((R : Int) != (n : Int)) = true := by simp; omega
  have HE := Lib.hid (show vldC R n rn z = 1 by unfold vldC; rw [if_pos (by omega)])
  go_enter Tryz.func18, Tryz.ntmps18
  go_wp2_with fail
  go_ret
  rw [HE.out]
  exact ⟨rfl, bel1 _ _⟩
set_option maxRecDepth 20000 in
set_option maxHeartbeats 4000000 in
theorem xmvalid_any (a : Option Addr) (R cap n : Nat) (ra : Nat → Option Addr) (rn rc : Nat → Nat) (z : Nat → Nat → Int) (w : World) (h : Rw w a R cap ra rn rc z) :
  Calls Tryz.prog 29 #[.agg #[.slice a R cap], .int .i64 n] w fun e w' => e = .returned (.int .i64 (vldC R n rn z)) ∧ Below w.heap.size w w' := by
 have HA := Lib.hid (h.alloc (.cells #[.slice a R cap] 42))
 have bc := h.1
 have bm := h.2.1
 unfold maxLen at bm
 clear h
 by_cases h1 : n < 1
 ·have HE := Lib.hid (show vldC R n rn z = 1 by unfold vldC; rw [if_pos (by omega)])
  go_enter Tryz.func29, Tryz.ntmps29
  go_wp2_with fail
  go_ret
  rw [HE.out]
  exact ⟨rfl, bel1 _ _⟩
 by_cases h2 : 21 < n
 ·have HE := Lib.hid (show vldC R n rn z = 1 by unfold vldC; rw [if_pos (by omega)])
  go_enter Tryz.func29, Tryz.ntmps29
  go_wp2_with fail
  go_ret
  rw [HE.out]
  exact ⟨rfl, bel1 _ _⟩
 by_cases h3 : R = n
 ·subst h3
  obtain ⟨b, off, rfl, hc⟩ := HA.out.2.2 (by omega)
  obtain ⟨hc0, hi0⟩ := hc 0 (by omega)
  rw [Nat.add_zero] at hc0
  have HC := Lib.hid hc
  obtain ⟨K, hK⟩ : ∃ K, rn 0 = K := ⟨_, rfl⟩
  rw [hK] at hc0 hi0
  have HKK := Lib.hid hK
  have k1 := hi0.1
  have k2 := hi0.2.1
  unfold maxLen at k2
  have hR0 : (0 : Int) < (R : Int) := by omega
  clear hc hi0
  by_cases h4 : K < 2
  ·rw [← hK] at h4
   have HE := Lib.hid (show vldC R R rn z = 3 by unfold vldC; rw [if_neg (by omega), if_pos (by omega)])
   rw [hK] at h4
   clear hK
   go_enter Tryz.func29, Tryz.ntmps29
   go_wp2_with fail
   go_ret
   rw [HE.out]
   exact ⟨rfl, bel1 _ _⟩
  by_cases h5 : 6 < K
  ·rw [← hK] at h5
   have HE := Lib.hid (show vldC R R rn z = 3 by unfold vldC; rw [if_neg (by omega), if_pos (by omega)])
   rw [hK] at h5
   clear hK
   go_enter Tryz.func29, Tryz.ntmps29
   go_wp2_with fail
   go_ret
   rw [HE.out]
   exact ⟨rfl, bel1 _ _⟩
  clear hK
  go_enter Tryz.func29, Tryz.ntmps29
  go_wp2_with fail
  go_loopw [6] (fun i wr => ∃ k : Nat, k ≤ R ∧ i = .int .i64 k ∧ Hid (fstC (fun i => rowMd (rn 0) (rn i) (z i)) k = 0) ∧ (w.alloc (.cells #[.slice (some ⟨b, off, none⟩) R cap] 42)) = wr) (fun i _ => R - (intOf i).toNat)
  case atStart => exact ⟨0, Nat.zero_le _, rfl, Lib.hid rfl, rfl⟩
  case round =>
   obtain ⟨k, hk, rfl, hin, rfl⟩ := hrel
   by_cases hkR : k < R
   ·obtain ⟨hcell, hrow⟩ := HC.out k hkR
    have HROW := Lib.hid hrow
    have hkz : (k : Int) < (R : Int) := by omega
    have hk0 : (0 : Int) ≤ (k : Int) := by omega
    obtain ⟨c, hc⟩ : ∃ c, rowMd K (rn k) (z k) = c := ⟨_, rfl⟩
    have HCC := Lib.hid hc
    clear hrow hc
    go_wp2_with fail
    refine (row19_any _ _ _ K (z k) _ HROW.out (by omega)).mono ?_
    rw [HCC.out]
    rintro e w' ⟨rfl, rfl⟩
    by_cases hc0 : c = 0
    ·subst hc0
     have HIN3 := Lib.hid (fstC_step hin.out (show rowMd (rn 0) (rn k) (z k) = 0 by rw [HKK.out]; exact HCC.out))
     go_wp2_with fail
     go_roundw
     case rel => exact ⟨k + 1, by omega, by go_num, HIN3, by first | rfl | trivial⟩
     case measure => simp [intOf]; omega
    ·have z0 : (c == 0) = false := by simpa using hc0
     have HE := Lib.hid (show vldC R R rn z = c by unfold vldC; rw [if_neg (by omega), if_neg (by rw [HKK.out]; omega)]; rw [fstC_hit hin.out (by show rowMd (rn 0) (rn k) (z k) ≠ 0; rw [HKK.out, HCC.out]; exact hc0) R hkR]; show rowMd (rn 0) (rn k) (z k) = _; rw [HKK.out]; exact HCC.out)
     go_wp2_with fail
     go_ret
     rw [HE.out]
     exact ⟨rfl, bel1 _ _⟩
   ·obtain rfl : k = R := by omega
    have HE := Lib.hid (show vldC k k rn z = 0 by unfold vldC; rw [if_neg (by omega), if_neg (by rw [HKK.out]; omega)]; exact hin.out)
    go_wp2_with fail
    go_ret
    rw [HE.out]
    exact ⟨rfl, bel1 _ _⟩
 ·have d3 : ¬ (R : Int) = (n : Int) := by omega
  have d3a : decide (R = n) = false := by simp; omega
  have d3b : ((R : Int) == (n : Int)) = false := by simp; omega
  have d3c : (R == n) = false := by simp; omega
  have d3d : ((R : Int) != (n : Int)) = true := by simp; omega
  have HE := Lib.hid (show vldC R n rn z = 1 by unfold vldC; rw [if_pos (by omega)])
  go_enter Tryz.func29, Tryz.ntmps29
  go_wp2_with fail
  go_ret
  rw [HE.out]
  exact ⟨rfl, bel1 _ _⟩
set_option maxHeartbeats 1000000 in
theorem mcats_any (a : Option Addr) (R cap : Nat) (ra : Nat → Option Addr) (rn rc : Nat → Nat) (z : Nat → Nat → Int) (w : World) (h : Rw w a R cap ra rn rc z) (hR : 0 < R) :
  Calls Tryz.prog 19 #[.agg #[.slice a R cap]] w fun e w' => e = .returned (.int .i64 (rn 0)) ∧ Below w.heap.size w w' := by
 have HA := Lib.hid (h.alloc (.cells #[.slice a R cap] 42))
 clear h
 obtain ⟨b, off, rfl, hc⟩ := HA.out.2.2 hR
 obtain ⟨hc0, hi0⟩ := hc 0 hR
 rw [Nat.add_zero] at hc0
 have k1 := hi0.1
 have hR0 : (0 : Int) < (R : Int) := by omega
 have bc := HA.out.1
 have bm := HA.out.2.1
 unfold maxLen at bm
 clear hc hi0
 go_enter Tryz.func19, Tryz.ntmps19
 go_wp2_with fail
 go_ret
 exact ⟨rfl, bel1 _ _⟩
set_option maxHeartbeats 1000000 in
theorem xmcats_any (a : Option Addr) (R cap : Nat) (ra : Nat → Option Addr) (rn rc : Nat → Nat) (z : Nat → Nat → Int) (w : World) (h : Rw w a R cap ra rn rc z) (hR : 0 < R) :
  Calls Tryz.prog 30 #[.agg #[.slice a R cap]] w fun e w' => e = .returned (.int .i64 (rn 0)) ∧ Below w.heap.size w w' := by
 have HA := Lib.hid (h.alloc (.cells #[.slice a R cap] 42))
 clear h
 obtain ⟨b, off, rfl, hc⟩ := HA.out.2.2 hR
 obtain ⟨hc0, hi0⟩ := hc 0 hR
 rw [Nat.add_zero] at hc0
 have k1 := hi0.1
 have hR0 : (0 : Int) < (R : Int) := by omega
 have bc := HA.out.1
 have bm := HA.out.2.1
 unfold maxLen at bm
 clear hc hi0
 go_enter Tryz.func30, Tryz.ntmps30
 go_wp2_with fail
 go_ret
 exact ⟨rfl, bel1 _ _⟩
end Go.Proofs.YtjobopafcgnljaaGreat
