/- Contract of nat.estimate: the next limb of a quotient, or one more. -/
import Derived.Test.YtnillajhhimeiaaDoorNatF
import Derived.Test.YtnillajhhimeiaaDoorNatD
namespace Go.Proofs.YtnillajhhimeiaaDoor
open Go.RowKit

/-- what the loop keeps -/
structure Est (T v1 v2 u2 q Q R : Nat) : Prop where
  sum : Q * v1 + R = T
  rlt : R < 4294967296
  low : q ≤ Q

theorem est_dec {T v1 v2 u2 q Q R : Nat} (h : Est T v1 v2 u2 q Q R) (hq : q < Q) : (Q - 1) * v1 + (R + v1) = T := by
  have h1 := h.sum
  obtain ⟨k, rfl⟩ : ∃ k, Q = k + 1 := ⟨Q - 1, by omega⟩
  rw [Nat.add_mul] at h1
  simp only [Nat.add_sub_cancel]
  omega

/-- U, V: the top three limbs of the part and the top two of the divisor. More than the quotient: a product above U. -/
theorem est_gt {p d q n U V Q : Nat} (hq : q = p / d) (_hd : 0 < d) (hV : V * B ^ n ≤ d) (hU : p < (U + 1) * B ^ n) (h : U < Q * V) : q < Q := by
  rcases Nat.lt_or_ge q Q with h1 | h1
  · exact h1
  · exfalso
    have h2 : Q * d ≤ p := by
      have := Nat.mul_le_mul_right d h1
      have h3 : q * d ≤ p := by rw [hq]; exact Nat.div_mul_le_self p d
      omega
    have h3 : Q * V * B ^ n ≤ Q * d := by rw [Nat.mul_assoc]; exact Nat.mul_le_mul_left _ hV
    have h4 : Q * V * B ^ n < (U + 1) * B ^ n := by omega
    have := Nat.lt_of_mul_lt_mul_right h4
    omega
theorem est_le {p d q n U V Q : Nat} (hq : q = p / d) (hd : 0 < d) (hV : d < (V + 1) * B ^ n) (hU : U * B ^ n ≤ p) (h : Q * V ≤ U) (hQ : Q ≤ V) : Q ≤ q + 1 := by
  rcases Nat.lt_or_ge (q + 1) Q with h1 | h1
  · exfalso
    have h2 : p < (q + 1) * d := by rw [hq, Nat.mul_comm]; exact Nat.lt_mul_div_succ p hd
    have h3 : (q + 1) * d ≤ (Q - 1) * d := Nat.mul_le_mul_right _ (by omega)
    have h4 : (Q - 1) * d ≤ (Q - 1) * ((V + 1) * B ^ n) := Nat.mul_le_mul_left _ (Nat.le_of_lt hV)
    have h5 : U * B ^ n < (Q - 1) * (V + 1) * B ^ n := by rw [Nat.mul_assoc]; omega
    have h6 := Nat.lt_of_mul_lt_mul_right h5
    obtain ⟨k, rfl⟩ : ∃ k, Q = k + 1 := ⟨Q - 1, by omega⟩
    simp only [Nat.add_sub_cancel] at h6
    rw [Nat.mul_add] at h6
    rw [Nat.add_mul] at h
    omega
  · exact h1
theorem est_test {T v1 v2 u2 q Q R : Nat} (h : Est T v1 v2 u2 q Q R) : (T * 4294967296 + u2 < Q * (v1 * 4294967296 + v2)) ↔ (R * 4294967296 + u2 < Q * v2) := by
  have h1 := h.sum
  have e : Q * (v1 * 4294967296 + v2) = Q * v1 * 4294967296 + Q * v2 := by rw [Nat.mul_add, Nat.mul_assoc]
  rw [e, ← h1, Nat.add_mul]
  omega


def EstPost (q0 : Nat) (w : World) (e : Ending) (w' : World) : Prop := ∃ Q q : Nat, e = .returned (.int .u64 Q) ∧ q0 ≤ Q ∧ Q ≤ q0 + 1 ∧ Q < 4294967296 ∧ w' = w.drewN q

theorem top_of (p n : Nat) (hp : p < B ^ (n + 2)) : dig p (n + 1) * 4294967296 + dig p n = p / B ^ n := by
  have h1 := div_top p n
  have h2 : dig p (n + 1) = p / B ^ (n + 1) := by
    unfold dig
    exact Nat.mod_eq_of_lt ((Nat.div_lt_iff_lt_mul (pB _)).2 (by rw [Nat.mul_comm, ← pB_succ]; exact hp))
  rw [h2, h1]
  simp only [B]
  omega

theorem top3_of (p n : Nat) (hp : p < B ^ (n + 3)) : (dig p (n + 2) * 4294967296 + dig p (n + 1)) * 4294967296 + dig p n = p / B ^ n := by
  rw [top_of p (n + 1) hp, div_top p n, Nat.mul_comm B]; rfl

set_option maxHeartbeats 2000000 in
set_option maxRecDepth 100000 in
theorem estimate_any (rb j cap db n cd p d : Nat) (w : World) (hpc : ∀ i, i ≤ n → w.cell? ⟨rb, j + i, none⟩ = some (.int .u32 (dig p i)))
    (hdc : ∀ i, i < n → w.cell? ⟨db, i, none⟩ = some (.int .u32 (dig d i))) (hd : d < B ^ n) (hd1 : 2147483648 ≤ dig d (n - 1)) (hp : p < d * B) (hn : n ≤ 1099511627776) (hn2 : 2 ≤ n) :
    Calls Tryd.prog 93 #[.slice (some ⟨rb, j, none⟩) (n + 1) cap, .slice (some ⟨db, 0, none⟩) n cd] w (EstPost (p / d) w) := by
  have c1 := hpc n (Nat.le_refl _)
  have c2 := hpc (n - 1) (by omega)
  have c3 := hpc (n - 2) (by omega)
  have c4 := hdc (n - 1) (by omega)
  have c5 := hdc (n - 2) (by omega)
  clear hpc hdc
  -- the numbers
  have hpn : p < B ^ (n + 1) := by rw [pB_succ]; exact Nat.lt_trans hp (Nat.mul_lt_mul_of_pos_right hd B_pos)
  have eT : dig p n * 4294967296 + dig p (n - 1) = p / B ^ (n - 1) := by
    have := top_of p (n - 1) (by rw [show n - 1 + 2 = n + 1 by omega]; exact hpn)
    rwa [show n - 1 + 1 = n by omega] at this
  have eV : dig d (n - 1) * 4294967296 + dig d (n - 2) = d / B ^ (n - 2) := by
    have := top_of d (n - 2) (by rw [show n - 2 + 2 = n by omega]; exact hd)
    rwa [show n - 2 + 1 = n - 1 by omega] at this
  have eU : (dig p n * 4294967296 + dig p (n - 1)) * 4294967296 + dig p (n - 2) = p / B ^ (n - 2) := by
    have := top3_of p (n - 2) (by rw [show n - 2 + 3 = n + 1 by omega]; exact hpn)
    rwa [show n - 2 + 2 = n by omega, show n - 2 + 1 = n - 1 by omega] at this
  have hd0 : 0 < d := by
    rcases Nat.eq_zero_or_pos d with h | h
    · subst h; rw [dig_zero] at hd1; omega
    · exact h
  have hV1 : (dig d (n - 1) * 4294967296 + dig d (n - 2)) * B ^ (n - 2) ≤ d := by rw [eV]; exact Nat.div_mul_le_self _ _
  have hV2 : d < (dig d (n - 1) * 4294967296 + dig d (n - 2) + 1) * B ^ (n - 2) := by rw [eV, Nat.mul_comm]; exact Nat.lt_mul_div_succ d (pB _)
  have hU1 : ((dig p n * 4294967296 + dig p (n - 1)) * 4294967296 + dig p (n - 2)) * B ^ (n - 2) ≤ p := by rw [eU]; exact Nat.div_mul_le_self _ _
  have hU2 : p < ((dig p n * 4294967296 + dig p (n - 1)) * 4294967296 + dig p (n - 2) + 1) * B ^ (n - 2) := by rw [eU, Nat.mul_comm]; exact Nat.lt_mul_div_succ p (pB _)
  have hTv : dig p n * 4294967296 + dig p (n - 1) < (dig d (n - 1) + 1) * 4294967296 := by
    rw [eT]
    refine (Nat.div_lt_iff_lt_mul (pB _)).2 (Nat.lt_of_lt_of_le hp ?_)
    have h1 : d ≤ (dig d (n - 1) + 1) * B ^ (n - 1) := by
      have h2 := div_top d (n - 1)
      rw [show n - 1 + 1 = n by omega, Nat.div_eq_of_lt hd, Nat.mul_zero, Nat.zero_add] at h2
      rw [← h2, Nat.mul_comm]
      exact Nat.le_of_lt (Nat.lt_mul_div_succ d (pB _))
    have h3 := Nat.mul_le_mul_right B h1
    have e : (dig d (n - 1) + 1) * B ^ (n - 1) * B = (dig d (n - 1) + 1) * 4294967296 * B ^ (n - 1) := by
      rw [Nat.mul_assoc, Nat.mul_comm (B ^ (n - 1)), ← Nat.mul_assoc]; rfl
    omega
  have hq1 : p / d ≤ (dig p n * 4294967296 + dig p (n - 1)) / dig d (n - 1) := by
    rw [eT]
    refine (Nat.le_div_iff_mul_le (by omega)).2 ((Nat.le_div_iff_mul_le (pB _)).2 ?_)
    have h2 := div_top d (n - 1)
    rw [show n - 1 + 1 = n by omega, Nat.div_eq_of_lt hd, Nat.mul_zero, Nat.zero_add] at h2
    rw [← h2, Nat.mul_assoc]
    exact Nat.le_trans (Nat.mul_le_mul_left _ (Nat.div_mul_le_self d _)) (Nat.div_mul_le_self p d)
  have d1 := dig_lt' p n
  have d2 := dig_lt' p (n - 1)
  have d3 := dig_lt' p (n - 2)
  have d4 := dig_lt' d (n - 1)
  have d5 := dig_lt' d (n - 2)
  have hpd : p < d * 4294967296 := hp
  clear eT eV eU hpn hd hp
  generalize dig p n = u0 at *
  generalize dig p (n - 1) = u1 at *
  generalize dig p (n - 2) = u2 at *
  generalize dig d (n - 1) = v1 at *
  generalize dig d (n - 2) = v2 at *
  have z1 : ((n : Int) - 1).toNat = n - 1 := by omega
  have z2 : ((n : Int) - 2).toNat = n - 2 := by omega
  have g1 : (0 : Int) ≤ (n : Int) - 1 := by omega
  have g2 : (0 : Int) ≤ (n : Int) - 2 := by omega
  have hor := or_u64 u0 u1 d1 d2
  have HV1 := Lib.hid hV1
  have HV2 := Lib.hid hV2
  have HU1 := Lib.hid hU1
  have HU2 := Lib.hid hU2
  have HQ1 := Lib.hid hq1
  have hqb : p / d < 4294967296 := (Nat.div_lt_iff_lt_mul hd0).2 (by rw [Nat.mul_comm]; exact hpd)
  have HQB := Lib.hid hqb
  clear hqb hpd
  have HQE : ∃ q0, Hid (q0 = p / d) := ⟨_, rfl⟩
  obtain ⟨q0, HQE⟩ := HQE
  rw [← HQE.out] at hq1 HQ1 HQB ⊢
  clear hV1 hV2 hU1 hU2 hq1
  have hq0 : ((u0 : Int) * 4294967296 + (u1 : Int)) / (v1 : Int) = (((u0 * 4294967296 + u1) / v1 : Nat) : Int) := by simp
  have hr0 : ((u0 : Int) * 4294967296 + (u1 : Int)) % (v1 : Int) = (((u0 * 4294967296 + u1) % v1 : Nat) : Int) := by simp
  have HQ0 := Lib.hid hq0
  have HR0 := Lib.hid hr0
  clear hq0 hr0
  go_enter Tryd.func93, Tryd.ntmps93
  go_wp2_with fail
  go_quiet (fail)
  go_wp2_with fail
  go_loopw [7, 8] (fun c r wr => ∃ Q R q : Nat, c = .int .u64 Q ∧ r = .int .u64 R ∧ Est (u0 * 4294967296 + u1) v1 v2 u2 q0 Q R ∧ wr = w.drewN q) (fun c _ _ => (intOf c).toNat)
  case atStart =>
    refine ⟨(u0 * 4294967296 + u1) / v1, (u0 * 4294967296 + u1) % v1, _, u64_congr HQ0.out, u64_congr HR0.out, ⟨Nat.div_add_mod' _ _, ?_, ?_⟩, rfl⟩
    · have := Nat.mod_lt (u0 * 4294967296 + u1) (show 0 < v1 by omega); omega
    · exact HQ1.out
  case round =>
    obtain ⟨Q, R, q, rfl, rfl, hE, rfl⟩ := hrel
    have r1 := hE.rlt
    have HE := Lib.hid hE
    clear hE
    by_cases hQB : Q < 4294967296
    · have hg : ((Q : Int) / 4294967296 != 0) = false := by simp; omega
      have m1 := dd_le Q v2 hQB d5
      have hor2 := or_u64 R u2 r1 d3
      by_cases ht : R * 4294967296 + u2 < Q * v2
      · have hlow : q0 < Q := est_gt HQE.out hd0 HV1.out HU2.out ((est_test HE.out).2 ht)
        have hmul : ((R * 4294967296 + u2 : Nat) : Int) < ((Q * v2 : Nat) : Int) := by omega
        have hmul2 : (R : Int) * 4294967296 + (u2 : Int) < (Q : Int) * (v2 : Int) := by simpa using hmul
        have HD := Lib.hid (est_dec HE.out hlow)
        clear hmul
        by_cases hbr : R + v1 < 4294967296
        · have hb1 : (((R : Int) + (v1 : Int)) / 4294967296 != 0) = false := by simp; omega
          go_wp2_with fail
          go_quiet (fail)
          go_wp2_with fail
          go_roundw
          case rel => exact ⟨Q - 1, R + v1, _, u64_congr (by omega), u64_congr (by omega), ⟨HD.out, hbr, by omega⟩, rfl⟩
          case measure => simp [intOf]; omega
        · have hb1 : (((R : Int) + (v1 : Int)) / 4294967296 != 0) = true := by simp; omega
          go_wp2_with fail
          go_quiet (fail)
          go_wp2_with fail
          go_ret
          have hs := HD.out
          have hlt : Q - 1 < 4294967296 := by omega
          refine ⟨Q - 1, _, congrArg (fun z => Ending.returned (Value.int .u64 z)) (by omega), by omega, est_le HQE.out hd0 HV2.out HU1.out ?_ (by omega), hlt, by first | rfl | (simp only [World.drewN_drewN]; rfl)⟩
          have hm := Nat.mul_le_mul (show Q - 1 ≤ 4294967295 by omega) (show v2 ≤ 4294967295 by omega)
          have hx : (Q - 1) * (v1 * 4294967296 + v2) = (Q - 1) * v1 * 4294967296 + (Q - 1) * v2 := by rw [Nat.mul_add, Nat.mul_assoc]
          rw [hx]
          generalize (Q - 1) * v1 = X at *
          generalize (Q - 1) * v2 = Y at *
          omega
      · have hmul : ((Q * v2 : Nat) : Int) ≤ ((R * 4294967296 + u2 : Nat) : Int) := by omega
        have hmul2 : (Q : Int) * (v2 : Int) ≤ (R : Int) * 4294967296 + (u2 : Int) := by simpa using hmul
        have hmul3 : decide ((R : Int) * 4294967296 + (u2 : Int) < (Q : Int) * (v2 : Int)) = false := by simpa using hmul2
        clear hmul hmul2
        go_wp2_with fail
        go_quiet (fail)
        go_wp2_with fail
        go_ret
        refine ⟨Q, _, rfl, HE.out.low, est_le HQE.out hd0 HV2.out HU1.out ?_ (by omega), hQB, by simp only [World.drewN_drewN]; rfl⟩
        exact Nat.le_of_not_lt fun hc => ht ((est_test HE.out).1 hc)
    · have hg : ((Q : Int) / 4294967296 != 0) = true := by simp; omega
      have hlow : q0 < Q := Nat.lt_of_lt_of_le HQB.out (by omega)
      have HD := Lib.hid (est_dec HE.out hlow)
      have hQ64 : Q ≤ 4294967297 := by
        have hs := HE.out.sum
        rcases Nat.lt_or_ge 4294967297 Q with h1 | h1
        · exfalso
          have := Nat.mul_le_mul_right v1 (show 4294967298 ≤ Q from h1)
          omega
        · exact h1
      by_cases hbr : R + v1 < 4294967296
      · have hb1 : (((R : Int) + (v1 : Int)) / 4294967296 != 0) = false := by simp; omega
        go_wp2_with fail
        go_quiet (fail)
        go_wp2_with fail
        go_roundw
        case rel => exact ⟨Q - 1, R + v1, _, u64_congr (by omega), u64_congr (by omega), ⟨HD.out, hbr, by omega⟩, rfl⟩
        case measure => simp [intOf]; omega
      · have hb1 : (((R : Int) + (v1 : Int)) / 4294967296 != 0) = true := by simp; omega
        go_wp2_with fail
        go_quiet (fail)
        go_wp2_with fail
        go_ret
        have hs := HD.out
        have hlt : Q - 1 < 4294967296 := by
          rcases Nat.lt_or_ge (Q - 1) 4294967296 with h1 | h1
          · exact h1
          · exfalso
            have := Nat.mul_le_mul_right v1 h1
            rw [Nat.add_mul] at hTv
            omega
        refine ⟨Q - 1, _, congrArg (fun z => Ending.returned (Value.int .u64 z)) (by omega), by omega, est_le HQE.out hd0 HV2.out HU1.out ?_ (by omega), hlt, by first | rfl | (simp only [World.drewN_drewN]; rfl)⟩
        have hm := Nat.mul_le_mul (show Q - 1 ≤ 4294967295 by omega) (show v2 ≤ 4294967295 by omega)
        have hx : (Q - 1) * (v1 * 4294967296 + v2) = (Q - 1) * v1 * 4294967296 + (Q - 1) * v2 := by rw [Nat.mul_add, Nat.mul_assoc]
        rw [hx]
        generalize (Q - 1) * v1 = X at *
        generalize (Q - 1) * v2 = Y at *
        omega

end Go.Proofs.YtnillajhhimeiaaDoor
