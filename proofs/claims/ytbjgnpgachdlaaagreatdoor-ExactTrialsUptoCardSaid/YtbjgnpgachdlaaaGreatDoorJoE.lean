/- Plain laws: numerators over a common denominator. No condition. Contracts of exact.Valid, Mean, Variance, Upper, Lower, Both, Convolve. -/
import Derived.Test.YtbjgnpgachdlaaaGreatDoorJoD
namespace Go.Proofs.YtbjgnpgachdlaaaGreatDoor

theorem frq_div (m d : Nat) : frq m d = (m : Rat) / (d : Rat) := by
  unfold frq
  rw [Rat.mkRat_eq_div]
  rfl
theorem natQ_ne {d : Nat} (h : 0 < d) : (d : Rat) ≠ 0 := by
  intro e
  have : d = 0 := by exact_mod_cast e
  omega
theorem natQ_inj {a b : Nat} : (a : Rat) = (b : Rat) ↔ a = b := by
  constructor
  · intro h; exact_mod_cast h
  · rintro rfl; rfl
theorem den_mul (q : Rat) (h : 0 ≤ q) : ((q.num.natAbs : Nat) : Rat) = q * (q.den : Rat) := by
  have h1 := Rat.num_nonneg.2 h
  have h2 : ((q.num.natAbs : Nat) : Rat) = ((q.num : Int) : Rat) := by
    have : ((q.num.natAbs : Nat) : Int) = q.num := by omega
    rw [← this]; rfl
  rw [h2]
  have h3 := Rat.mkRat_self q
  rw [Rat.mkRat_eq_div] at h3
  have h4 := natQ_ne q.den_pos
  have h5 : ((q.num : Int) : Rat) / ((q.den : Nat) : Rat) = q := h3
  grind
theorem sQ_mulr (c : Rat) (f : Nat → Rat) (n : Nat) : sQ (fun i => f i * c) n = sQ f n * c := by
  rw [Rat.mul_comm, ← sQ_mul]
  exact sQ_congr (fun i _ => Rat.mul_comm _ _)
/-- the common denominator -/
def dnm (q : Nat → Rat) (n : Nat) : Nat := lcN (deQ q) n
theorem dnm_pos (q : Nat → Rat) (n : Nat) : 0 < dnm q n := lcN_pos (fun i _ => (q i).den_pos)
theorem nm_cast (q : Nat → Rat) (n i : Nat) (hi : i < n) (h : 0 ≤ q i) : ((nmN q n i : Nat) : Rat) = q i * ((dnm q n : Nat) : Rat) := by
  obtain ⟨c, hc⟩ := lcN_dvd (d := deQ q) (n := n) i hi
  have hd : 0 < deQ q i := (q i).den_pos
  unfold nmN dnm
  rw [hc, Nat.mul_div_cancel_left _ hd, natQ_mul, natQ_mul]
  have := den_mul (q i) h
  unfold nuQ deQ
  rw [this]; grind
/-- sums of numerators -/
theorem frq_sum (q : Nat → Rat) (n : Nat) (f : Nat → Nat) (g : Nat → Rat) (k : Nat) (h : ∀ i, i < k → ((f i : Nat) : Rat) = g i * ((dnm q n : Nat) : Rat)) : frq (sN f k) (dnm q n) = sQ g k := by
  rw [frq_div, sN_sQ, sQ_congr h, sQ_mulr]
  have := natQ_ne (dnm_pos q n)
  grind
/-- q is a distribution -/
def valid (q : Nat → Rat) (n : Nat) : Bool := decide (0 < n ∧ n ≤ 121 ∧ (∀ i, i < n → 0 ≤ q i) ∧ sQ q n = 1)
theorem valid_iff {q : Nat → Rat} {n : Nat} : valid q n = true ↔ (0 < n ∧ n ≤ 121 ∧ (∀ i, i < n → 0 ≤ q i) ∧ sQ q n = 1) := by unfold valid; simp
theorem valid_sum (q : Nat → Rat) (n : Nat) (h : ∀ i, i < n → 0 ≤ q i) : (sN (nmN q n) n = lcN (deQ q) n) ↔ sQ q n = 1 := by
  have h1 := frq_sum q n (nmN q n) q n (fun i hi => nm_cast q n i hi (h i hi))
  have hp := natQ_ne (dnm_pos q n)
  rw [← h1, frq_div, ← natQ_inj]
  unfold dnm at *
  constructor
  · intro e; rw [e]; grind
  · intro e; grind
theorem nm_le (q : Nat → Rat) (n i k : Nat) (hi : i < n) (hk : k < n) (h : ∀ i, i < n → 0 ≤ q i) : (nmN q n i ≤ nmN q n k) ↔ q i ≤ q k := by
  have h1 := nm_cast q n i hi (h i hi)
  have h2 := nm_cast q n k hk (h k hk)
  have hp : (0 : Rat) < ((dnm q n : Nat) : Rat) := by exact_mod_cast dnm_pos q n
  have e : (nmN q n i ≤ nmN q n k) ↔ ((nmN q n i : Nat) : Rat) ≤ ((nmN q n k : Nat) : Rat) := by
    constructor
    · intro h; exact_mod_cast h
    · intro h; exact_mod_cast h
  rw [e, h1, h2]
  constructor
  · intro h
    rcases Rat.lt_or_ge (q k) (q i) with h3 | h3
    · have := Rat.mul_lt_mul_of_pos_right h3 hp; grind
    · exact h3
  · intro h; exact Rat.mul_le_mul_of_nonneg_right h (Rat.le_of_lt hp)

def meanQ (q : Nat → Rat) (n : Nat) : Rat := sQ (fun i => q i * (i : Rat)) n
def secQ (q : Nat → Rat) (n : Nat) : Rat := sQ (fun i => q i * (i : Rat) * (i : Rat)) n
def varQ (q : Nat → Rat) (n : Nat) : Rat := secQ q n - meanQ q n * meanQ q n
def upQ (q : Nat → Rat) (n k : Nat) : Rat := sQ (fun i => q (k + i)) (n - k)
def bothQ (q : Nat → Rat) (n k : Nat) : Rat := sQ (fun i => if q i ≤ q k then q i else 0) n
section
variable {q : Nat → Rat} {n : Nat} (h : ∀ i, i < n → 0 ≤ q i)
include h
theorem mean_frq : frq (sN (mo1 (nmN q n)) n) (lcN (deQ q) n) = meanQ q n :=
  frq_sum q n _ _ n (fun i hi => by unfold mo1; rw [natQ_mul, nm_cast q n i hi (h i hi)]; grind)
theorem sec_frq : frq (sN (mo2 (nmN q n)) n) (lcN (deQ q) n) = secQ q n :=
  frq_sum q n _ _ n (fun i hi => by unfold mo2; rw [natQ_mul, natQ_mul, nm_cast q n i hi (h i hi)]; grind)
theorem up_frq (k : Nat) : frq (sN (fun i => nmN q n (k + i)) (n - k)) (lcN (deQ q) n) = upQ q n k :=
  frq_sum q n _ _ (n - k) (fun i hi => nm_cast q n (k + i) (by omega) (h (k + i) (by omega)))
theorem low_frq (k : Nat) (hk : k ≤ n) : frq (sN (nmN q n) k) (lcN (deQ q) n) = sQ q k :=
  frq_sum q n _ _ k (fun i hi => nm_cast q n i (by omega) (h i (by omega)))
def bothN (q : Nat → Rat) (n k i : Nat) : Nat := if nmN q n i ≤ nmN q n k then nmN q n i else 0
theorem both_frq (k : Nat) (hk : k < n) : frq (sN (bothN q n k) n) (lcN (deQ q) n) = bothQ q n k :=
  frq_sum q n _ _ n (fun i hi => by
    unfold bothN
    by_cases hle : q i ≤ q k
    · rw [if_pos hle, if_pos ((nm_le q n i k hi hk h).2 hle), nm_cast q n i hi (h i hi)]
    · rw [if_neg hle, if_neg (fun e => hle ((nm_le q n i k hi hk h).1 e))]; grind)
end

end Go.Proofs.YtbjgnpgachdlaaaGreatDoor

namespace Go.Proofs.YtbjgnpgachdlaaaGreatDoor
open Go.RowKit

theorem num_yes {N : Nat} (a : Option Addr) (n cap : Nat) (q : Nat → Rat) (L : Nat) (w : World) (hN : N ≤ w.heap.size) (h : Rs N w a n cap q L) (hL : L ≤ 2097152) (hv : valid q n = true) :
    Calls Tryz.prog 22 #[.slice a n cap] w (NumPost N w n q L true) := by
  obtain ⟨h0, h1, h2, h3⟩ := valid_iff.1 hv
  exact num_main a n cap q L w hN h hL h0 h1 h2 true (decide_eq_true ((valid_sum q n h2).2 h3))
theorem num_no {N : Nat} (a : Option Addr) (n cap : Nat) (q : Nat → Rat) (L : Nat) (w : World) (hN : N ≤ w.heap.size) (h : Rs N w a n cap q L) (hL : L ≤ 2097152) (hv : valid q n = false) :
    Calls Tryz.prog 22 #[.slice a n cap] w (NoPost w) := by
  by_cases h0 : n < 1 ∨ 121 < n
  · exact num_len a n cap w ⟨h.1, h.2.1⟩ h0
  · by_cases h1 : ∃ j, j < n ∧ q j < 0
    · exact num_neg a n cap q L w hN h hL (by omega) (by omega) h1
    · have h2 : ∀ j, j < n → 0 ≤ q j := by
        intro j hj
        rcases Rat.lt_or_ge (q j) 0 with h3 | h3
        · exact absurd ⟨j, hj, h3⟩ h1
        · exact h3
      have h3 : ¬ sQ q n = 1 := by
        intro e
        rw [valid_iff.2 ⟨by omega, by omega, h2, e⟩] at hv; cases hv
      refine (num_main a n cap q L w hN h hL (by omega) (by omega) h2 false (decide_eq_false (fun e => h3 ((valid_sum q n h2).1 e)))).mono ?_
      rintro e w' ⟨b, r, c, rfl, _, _, _, _, hb⟩
      exact ⟨_, _, rfl, hb⟩
/-- it returns the normal form of q, and OK -/
def RatOk (N : Nat) (w : World) (q : Rat) (e : Ending) (w' : World) : Prop :=
  ∃ r cr r2 cr2, e = .returned (.tuple #[.agg #[.bool (decide (q.num < 0)), .slice r (nlen q.num.natAbs) cr, .slice r2 (nlen q.den) cr2], .int .i64 0]) ∧ Nt N w' r (nlen q.num.natAbs) cr q.num.natAbs ∧ Nt N w' r2 (nlen q.den) cr2 q.den ∧ Below w.heap.size w w'
/-- it returns the empty struct, and an error -/
def RatErr (w : World) (c : Int) (e : Ending) (w' : World) : Prop :=
  e = .returned (.tuple #[.agg #[.bool false, .slice none 0 0, .slice none 0 0], .int .i64 c]) ∧ Below w.heap.size w w'

set_option maxHeartbeats 1000000 in
theorem Valid_any {N : Nat} (a : Option Addr) (n cap : Nat) (q : Nat → Rat) (L : Nat) (w : World) (hN : N ≤ w.heap.size) (h : Rs N w a n cap q L) (hL : L ≤ 2097152) (v : Bool) (hv : valid q n = v) :
    Calls Tryz.prog 9 #[.slice a n cap] w fun e w' => e = .returned (.bool v) ∧ Below w.heap.size w w' := by
  have HV := Lib.hid hv
  clear hv
  cases v
  · have hN0 := hN
    have HA := Lib.hid h
    clear h
    have HB := Lib.hid (Below.refl w.heap.size w)
    go_enter Tryz.func9, Tryz.ntmps9
    go_wp2_with fail
    refine calls_name fun W0 hW => ?_
    have hs_W0 : w.heap.size ≤ W0.heap.size := by rw [← hW]; (first | omega | (simp; done) | (simp; omega))
    have HL_W0 := Lib.hid (show Below w.heap.size w W0 by rw [← hW]; exact BlA)
    replace HB := Lib.hid (show Below w.heap.size w W0 by rw [← hW]; exact BlA)
    replace hN : N ≤ W0.heap.size := by rw [← hW]; (first | omega | (simp; done) | (simp; omega))
    have hs0 : w.heap.size ≤ W0.heap.size := by rw [← hW]; (first | omega | (simp; done) | (simp; omega))
    replace HA := Lib.hid (HA.out.below HL_W0.out)
    clear HL_W0
    clear hW
    refine (num_no (N := N) _ _ _ q L _ hN HA.out hL HV.out).mono ?_
    rintro e wa ⟨v1, v2, rfl, hb⟩
    have hs_wa : W0.heap.size ≤ wa.heap.size := hb.size
    replace HB := Lib.hid (HB.out.trans (hb.mono hs0))
    replace hN : N ≤ wa.heap.size := Nat.le_trans hN hb.size
    replace hs0 : w.heap.size ≤ wa.heap.size := Nat.le_trans hs0 hb.size
    replace HA := Lib.hid (HA.out.below hb)
    clear hb
    go_wp2_with fail
    go_ret
    exact ⟨rfl, HB.out⟩
  · have hN0 := hN
    have HA := Lib.hid h
    clear h
    have HB := Lib.hid (Below.refl w.heap.size w)
    go_enter Tryz.func9, Tryz.ntmps9
    go_wp2_with fail
    refine calls_name fun W0 hW => ?_
    have hs_W0 : w.heap.size ≤ W0.heap.size := by rw [← hW]; (first | omega | (simp; done) | (simp; omega))
    have HL_W0 := Lib.hid (show Below w.heap.size w W0 by rw [← hW]; exact BlA)
    replace HB := Lib.hid (show Below w.heap.size w W0 by rw [← hW]; exact BlA)
    replace hN : N ≤ W0.heap.size := by rw [← hW]; (first | omega | (simp; done) | (simp; omega))
    have hs0 : w.heap.size ≤ W0.heap.size := by rw [← hW]; (first | omega | (simp; done) | (simp; omega))
    replace HA := Lib.hid (HA.out.below HL_W0.out)
    clear HL_W0
    clear hW
    refine (num_yes (N := N) _ _ _ q L _ hN HA.out hL HV.out).mono ?_
    rintro e wa ⟨b, r, c, rfl, hb1, hb2, hl, hn, hb⟩
    have hs_wa : W0.heap.size ≤ wa.heap.size := hb.size
    replace HB := Lib.hid (HB.out.trans (hb.mono hs0))
    replace hN : N ≤ wa.heap.size := Nat.le_trans hN hb.size
    replace hs0 : w.heap.size ≤ wa.heap.size := Nat.le_trans hs0 hb.size
    replace HA := Lib.hid (HA.out.below hb)
    clear hb
    have HD := Lib.hid hn
    clear hn
    have HN := Lib.hid hl
    clear hl
    go_wp2_with fail
    go_ret
    exact ⟨rfl, HB.out⟩

set_option maxHeartbeats 1000000 in
theorem Mean_no {N : Nat} (a : Option Addr) (n cap : Nat) (q : Nat → Rat) (L : Nat) (w : World) (hN : N ≤ w.heap.size) (h : Rs N w a n cap q L) (hL : L ≤ 2097152) (hv : valid q n = false) :
    Calls Tryz.prog 7 #[.slice a n cap] w (RatErr w 1) := by
  have HV := Lib.hid hv
  clear hv
  have hN0 := hN
  have HA := Lib.hid h
  clear h
  have HB := Lib.hid (Below.refl w.heap.size w)
  go_enter Tryz.func7, Tryz.ntmps7
  go_wp2_with fail
  refine calls_name fun W0 hW => ?_
  have hs_W0 : w.heap.size ≤ W0.heap.size := by rw [← hW]; (first | omega | (simp; done) | (simp; omega))
  have HL_W0 := Lib.hid (show Below w.heap.size w W0 by rw [← hW]; exact BlA)
  have k_R_0 : W0.cell? ⟨w.heap.size, 0, none⟩ = some (.bool false) := by rw [← hW]; (first | (go_simp; done) | (simp; done) | (simp [go_sem]; done) | (simp [go_sem]; done))
  have k_R_1 : W0.cell? ⟨w.heap.size, 1, none⟩ = some (.slice none 0 0) := by rw [← hW]; (first | (go_simp; done) | (simp; done) | (simp [go_sem]; done) | (simp [go_sem]; done))
  have k_R_2 : W0.cell? ⟨w.heap.size, 2, none⟩ = some (.slice none 0 0) := by rw [← hW]; (first | (go_simp; done) | (simp; done) | (simp [go_sem]; done) | (simp [go_sem]; done))
  have f_R : ∀ o, W0.frozen? ⟨w.heap.size, o, none⟩ = false := by intro o; rw [← hW]; (first | (go_simp; done) | (simp; done) | (simp [go_sem]; done) | (simp [go_sem]; done))
  have HX_R := Lib.hid (show Bn W0 (w.heap.size) by rw [← hW]; exact KpA)
  replace HB := Lib.hid (show Below w.heap.size w W0 by rw [← hW]; exact BlA)
  replace hN : N ≤ W0.heap.size := by rw [← hW]; (first | omega | (simp; done) | (simp; omega))
  have hs0 : w.heap.size ≤ W0.heap.size := by rw [← hW]; (first | omega | (simp; done) | (simp; omega))
  have hl_R : w.heap.size < W0.heap.size := by rw [← hW]; (first | omega | (simp; done) | (simp; omega))
  replace HA := Lib.hid (HA.out.below HL_W0.out)
  clear HL_W0
  clear hW
  refine (num_no (N := N) _ _ _ q L _ hN HA.out hL HV.out).mono ?_
  rintro e wa ⟨v1, v2, rfl, hb⟩
  have hs_wa : W0.heap.size ≤ wa.heap.size := hb.size
  replace k_R_0 : wa.cell? ⟨w.heap.size, 0, none⟩ = some (.bool false) := (hb.cell (p := ⟨w.heap.size, 0, none⟩) hl_R).trans k_R_0
  replace k_R_1 : wa.cell? ⟨w.heap.size, 1, none⟩ = some (.slice none 0 0) := (hb.cell (p := ⟨w.heap.size, 1, none⟩) hl_R).trans k_R_1
  replace k_R_2 : wa.cell? ⟨w.heap.size, 2, none⟩ = some (.slice none 0 0) := (hb.cell (p := ⟨w.heap.size, 2, none⟩) hl_R).trans k_R_2
  replace f_R : ∀ o, wa.frozen? ⟨w.heap.size, o, none⟩ = false := fun o => (hb.frozen (p := ⟨w.heap.size, o, none⟩) hl_R).trans (f_R o)
  replace HX_R := Lib.hid (HX_R.out.below hb)
  replace HB := Lib.hid (HB.out.trans (hb.mono hs0))
  replace hN : N ≤ wa.heap.size := Nat.le_trans hN hb.size
  replace hs0 : w.heap.size ≤ wa.heap.size := Nat.le_trans hs0 hb.size
  replace hl_R : w.heap.size < wa.heap.size := Nat.lt_of_lt_of_le hl_R hb.size
  replace HA := Lib.hid (HA.out.below hb)
  clear hb
  go_wp2_with fail
  refine bodyPost_ret (v := .tuple #[.agg #[.bool false, .slice none 0 0, .slice none 0 0], .int .i64 1]) (by simp [results, Tryz.results7, go_sem, k_R_0, k_R_1, k_R_2]) rfl ⟨rfl, ?_⟩
  all_goals exact KBA

set_option maxHeartbeats 1000000 in
theorem Variance_no {N : Nat} (a : Option Addr) (n cap : Nat) (q : Nat → Rat) (L : Nat) (w : World) (hN : N ≤ w.heap.size) (h : Rs N w a n cap q L) (hL : L ≤ 2097152) (hv : valid q n = false) :
    Calls Tryz.prog 12 #[.slice a n cap] w (RatErr w 1) := by
  have HV := Lib.hid hv
  clear hv
  have hN0 := hN
  have HA := Lib.hid h
  clear h
  have HB := Lib.hid (Below.refl w.heap.size w)
  go_enter Tryz.func12, Tryz.ntmps12
  go_wp2_with fail
  refine calls_name fun W0 hW => ?_
  have hs_W0 : w.heap.size ≤ W0.heap.size := by rw [← hW]; (first | omega | (simp; done) | (simp; omega))
  have HL_W0 := Lib.hid (show Below w.heap.size w W0 by rw [← hW]; exact BlA)
  have k_R_0 : W0.cell? ⟨w.heap.size, 0, none⟩ = some (.bool false) := by rw [← hW]; (first | (go_simp; done) | (simp; done) | (simp [go_sem]; done) | (simp [go_sem]; done))
  have k_R_1 : W0.cell? ⟨w.heap.size, 1, none⟩ = some (.slice none 0 0) := by rw [← hW]; (first | (go_simp; done) | (simp; done) | (simp [go_sem]; done) | (simp [go_sem]; done))
  have k_R_2 : W0.cell? ⟨w.heap.size, 2, none⟩ = some (.slice none 0 0) := by rw [← hW]; (first | (go_simp; done) | (simp; done) | (simp [go_sem]; done) | (simp [go_sem]; done))
  have f_R : ∀ o, W0.frozen? ⟨w.heap.size, o, none⟩ = false := by intro o; rw [← hW]; (first | (go_simp; done) | (simp; done) | (simp [go_sem]; done) | (simp [go_sem]; done))
  have HX_R := Lib.hid (show Bn W0 (w.heap.size) by rw [← hW]; exact KpA)
  replace HB := Lib.hid (show Below w.heap.size w W0 by rw [← hW]; exact BlA)
  replace hN : N ≤ W0.heap.size := by rw [← hW]; (first | omega | (simp; done) | (simp; omega))
  have hs0 : w.heap.size ≤ W0.heap.size := by rw [← hW]; (first | omega | (simp; done) | (simp; omega))
  have hl_R : w.heap.size < W0.heap.size := by rw [← hW]; (first | omega | (simp; done) | (simp; omega))
  replace HA := Lib.hid (HA.out.below HL_W0.out)
  clear HL_W0
  clear hW
  refine (num_no (N := N) _ _ _ q L _ hN HA.out hL HV.out).mono ?_
  rintro e wa ⟨v1, v2, rfl, hb⟩
  have hs_wa : W0.heap.size ≤ wa.heap.size := hb.size
  replace k_R_0 : wa.cell? ⟨w.heap.size, 0, none⟩ = some (.bool false) := (hb.cell (p := ⟨w.heap.size, 0, none⟩) hl_R).trans k_R_0
  replace k_R_1 : wa.cell? ⟨w.heap.size, 1, none⟩ = some (.slice none 0 0) := (hb.cell (p := ⟨w.heap.size, 1, none⟩) hl_R).trans k_R_1
  replace k_R_2 : wa.cell? ⟨w.heap.size, 2, none⟩ = some (.slice none 0 0) := (hb.cell (p := ⟨w.heap.size, 2, none⟩) hl_R).trans k_R_2
  replace f_R : ∀ o, wa.frozen? ⟨w.heap.size, o, none⟩ = false := fun o => (hb.frozen (p := ⟨w.heap.size, o, none⟩) hl_R).trans (f_R o)
  replace HX_R := Lib.hid (HX_R.out.below hb)
  replace HB := Lib.hid (HB.out.trans (hb.mono hs0))
  replace hN : N ≤ wa.heap.size := Nat.le_trans hN hb.size
  replace hs0 : w.heap.size ≤ wa.heap.size := Nat.le_trans hs0 hb.size
  replace hl_R : w.heap.size < wa.heap.size := Nat.lt_of_lt_of_le hl_R hb.size
  replace HA := Lib.hid (HA.out.below hb)
  clear hb
  go_wp2_with fail
  refine bodyPost_ret (v := .tuple #[.agg #[.bool false, .slice none 0 0, .slice none 0 0], .int .i64 1]) (by simp [results, Tryz.results12, go_sem, k_R_0, k_R_1, k_R_2]) rfl ⟨rfl, ?_⟩
  all_goals exact KBA

set_option maxHeartbeats 1000000 in
theorem Upper_no {N : Nat} (a : Option Addr) (n cap : Nat) (q : Nat → Rat) (L : Nat) (w : World) (hN : N ≤ w.heap.size) (h : Rs N w a n cap q L) (hL : L ≤ 2097152) (hv : valid q n = false) (z : Int) :
    Calls Tryz.prog 39 #[.slice a n cap, .int .i64 z] w (RatErr w 1) := by
  have HV := Lib.hid hv
  clear hv
  have hN0 := hN
  have HA := Lib.hid h
  clear h
  have HB := Lib.hid (Below.refl w.heap.size w)
  go_enter Tryz.func39, Tryz.ntmps39
  go_wp2_with fail
  refine calls_name fun W0 hW => ?_
  have hs_W0 : w.heap.size ≤ W0.heap.size := by rw [← hW]; (first | omega | (simp; done) | (simp; omega))
  have HL_W0 := Lib.hid (show Below w.heap.size w W0 by rw [← hW]; exact BlA)
  have k_R_0 : W0.cell? ⟨w.heap.size, 0, none⟩ = some (.bool false) := by rw [← hW]; (first | (go_simp; done) | (simp; done) | (simp [go_sem]; done) | (simp [go_sem]; done))
  have k_R_1 : W0.cell? ⟨w.heap.size, 1, none⟩ = some (.slice none 0 0) := by rw [← hW]; (first | (go_simp; done) | (simp; done) | (simp [go_sem]; done) | (simp [go_sem]; done))
  have k_R_2 : W0.cell? ⟨w.heap.size, 2, none⟩ = some (.slice none 0 0) := by rw [← hW]; (first | (go_simp; done) | (simp; done) | (simp [go_sem]; done) | (simp [go_sem]; done))
  have f_R : ∀ o, W0.frozen? ⟨w.heap.size, o, none⟩ = false := by intro o; rw [← hW]; (first | (go_simp; done) | (simp; done) | (simp [go_sem]; done) | (simp [go_sem]; done))
  have HX_R := Lib.hid (show Bn W0 (w.heap.size) by rw [← hW]; exact KpA)
  replace HB := Lib.hid (show Below w.heap.size w W0 by rw [← hW]; exact BlA)
  replace hN : N ≤ W0.heap.size := by rw [← hW]; (first | omega | (simp; done) | (simp; omega))
  have hs0 : w.heap.size ≤ W0.heap.size := by rw [← hW]; (first | omega | (simp; done) | (simp; omega))
  have hl_R : w.heap.size < W0.heap.size := by rw [← hW]; (first | omega | (simp; done) | (simp; omega))
  replace HA := Lib.hid (HA.out.below HL_W0.out)
  clear HL_W0
  clear hW
  refine (num_no (N := N) _ _ _ q L _ hN HA.out hL HV.out).mono ?_
  rintro e wa ⟨v1, v2, rfl, hb⟩
  have hs_wa : W0.heap.size ≤ wa.heap.size := hb.size
  replace k_R_0 : wa.cell? ⟨w.heap.size, 0, none⟩ = some (.bool false) := (hb.cell (p := ⟨w.heap.size, 0, none⟩) hl_R).trans k_R_0
  replace k_R_1 : wa.cell? ⟨w.heap.size, 1, none⟩ = some (.slice none 0 0) := (hb.cell (p := ⟨w.heap.size, 1, none⟩) hl_R).trans k_R_1
  replace k_R_2 : wa.cell? ⟨w.heap.size, 2, none⟩ = some (.slice none 0 0) := (hb.cell (p := ⟨w.heap.size, 2, none⟩) hl_R).trans k_R_2
  replace f_R : ∀ o, wa.frozen? ⟨w.heap.size, o, none⟩ = false := fun o => (hb.frozen (p := ⟨w.heap.size, o, none⟩) hl_R).trans (f_R o)
  replace HX_R := Lib.hid (HX_R.out.below hb)
  replace HB := Lib.hid (HB.out.trans (hb.mono hs0))
  replace hN : N ≤ wa.heap.size := Nat.le_trans hN hb.size
  replace hs0 : w.heap.size ≤ wa.heap.size := Nat.le_trans hs0 hb.size
  replace hl_R : w.heap.size < wa.heap.size := Nat.lt_of_lt_of_le hl_R hb.size
  replace HA := Lib.hid (HA.out.below hb)
  clear hb
  go_wp2_with fail
  refine bodyPost_ret (v := .tuple #[.agg #[.bool false, .slice none 0 0, .slice none 0 0], .int .i64 1]) (by simp [results, Tryz.results39, go_sem, k_R_0, k_R_1, k_R_2]) rfl ⟨rfl, ?_⟩
  all_goals exact KBA

set_option maxHeartbeats 1000000 in
theorem Lower_no {N : Nat} (a : Option Addr) (n cap : Nat) (q : Nat → Rat) (L : Nat) (w : World) (hN : N ≤ w.heap.size) (h : Rs N w a n cap q L) (hL : L ≤ 2097152) (hv : valid q n = false) (z : Int) :
    Calls Tryz.prog 40 #[.slice a n cap, .int .i64 z] w (RatErr w 1) := by
  have HV := Lib.hid hv
  clear hv
  have hN0 := hN
  have HA := Lib.hid h
  clear h
  have HB := Lib.hid (Below.refl w.heap.size w)
  go_enter Tryz.func40, Tryz.ntmps40
  go_wp2_with fail
  refine calls_name fun W0 hW => ?_
  have hs_W0 : w.heap.size ≤ W0.heap.size := by rw [← hW]; (first | omega | (simp; done) | (simp; omega))
  have HL_W0 := Lib.hid (show Below w.heap.size w W0 by rw [← hW]; exact BlA)
  have k_R_0 : W0.cell? ⟨w.heap.size, 0, none⟩ = some (.bool false) := by rw [← hW]; (first | (go_simp; done) | (simp; done) | (simp [go_sem]; done) | (simp [go_sem]; done))
  have k_R_1 : W0.cell? ⟨w.heap.size, 1, none⟩ = some (.slice none 0 0) := by rw [← hW]; (first | (go_simp; done) | (simp; done) | (simp [go_sem]; done) | (simp [go_sem]; done))
  have k_R_2 : W0.cell? ⟨w.heap.size, 2, none⟩ = some (.slice none 0 0) := by rw [← hW]; (first | (go_simp; done) | (simp; done) | (simp [go_sem]; done) | (simp [go_sem]; done))
  have f_R : ∀ o, W0.frozen? ⟨w.heap.size, o, none⟩ = false := by intro o; rw [← hW]; (first | (go_simp; done) | (simp; done) | (simp [go_sem]; done) | (simp [go_sem]; done))
  have HX_R := Lib.hid (show Bn W0 (w.heap.size) by rw [← hW]; exact KpA)
  replace HB := Lib.hid (show Below w.heap.size w W0 by rw [← hW]; exact BlA)
  replace hN : N ≤ W0.heap.size := by rw [← hW]; (first | omega | (simp; done) | (simp; omega))
  have hs0 : w.heap.size ≤ W0.heap.size := by rw [← hW]; (first | omega | (simp; done) | (simp; omega))
  have hl_R : w.heap.size < W0.heap.size := by rw [← hW]; (first | omega | (simp; done) | (simp; omega))
  replace HA := Lib.hid (HA.out.below HL_W0.out)
  clear HL_W0
  clear hW
  refine (num_no (N := N) _ _ _ q L _ hN HA.out hL HV.out).mono ?_
  rintro e wa ⟨v1, v2, rfl, hb⟩
  have hs_wa : W0.heap.size ≤ wa.heap.size := hb.size
  replace k_R_0 : wa.cell? ⟨w.heap.size, 0, none⟩ = some (.bool false) := (hb.cell (p := ⟨w.heap.size, 0, none⟩) hl_R).trans k_R_0
  replace k_R_1 : wa.cell? ⟨w.heap.size, 1, none⟩ = some (.slice none 0 0) := (hb.cell (p := ⟨w.heap.size, 1, none⟩) hl_R).trans k_R_1
  replace k_R_2 : wa.cell? ⟨w.heap.size, 2, none⟩ = some (.slice none 0 0) := (hb.cell (p := ⟨w.heap.size, 2, none⟩) hl_R).trans k_R_2
  replace f_R : ∀ o, wa.frozen? ⟨w.heap.size, o, none⟩ = false := fun o => (hb.frozen (p := ⟨w.heap.size, o, none⟩) hl_R).trans (f_R o)
  replace HX_R := Lib.hid (HX_R.out.below hb)
  replace HB := Lib.hid (HB.out.trans (hb.mono hs0))
  replace hN : N ≤ wa.heap.size := Nat.le_trans hN hb.size
  replace hs0 : w.heap.size ≤ wa.heap.size := Nat.le_trans hs0 hb.size
  replace hl_R : w.heap.size < wa.heap.size := Nat.lt_of_lt_of_le hl_R hb.size
  replace HA := Lib.hid (HA.out.below hb)
  clear hb
  go_wp2_with fail
  refine bodyPost_ret (v := .tuple #[.agg #[.bool false, .slice none 0 0, .slice none 0 0], .int .i64 1]) (by simp [results, Tryz.results40, go_sem, k_R_0, k_R_1, k_R_2]) rfl ⟨rfl, ?_⟩
  all_goals exact KBA

set_option maxHeartbeats 1000000 in
theorem Both_no {N : Nat} (a : Option Addr) (n cap : Nat) (q : Nat → Rat) (L : Nat) (w : World) (hN : N ≤ w.heap.size) (h : Rs N w a n cap q L) (hL : L ≤ 2097152) (hv : valid q n = false) (z : Int) :
    Calls Tryz.prog 41 #[.slice a n cap, .int .i64 z] w (RatErr w 1) := by
  have HV := Lib.hid hv
  clear hv
  have hN0 := hN
  have HA := Lib.hid h
  clear h
  have HB := Lib.hid (Below.refl w.heap.size w)
  go_enter Tryz.func41, Tryz.ntmps41
  go_wp2_with fail
  refine calls_name fun W0 hW => ?_
  have hs_W0 : w.heap.size ≤ W0.heap.size := by rw [← hW]; (first | omega | (simp; done) | (simp; omega))
  have HL_W0 := Lib.hid (show Below w.heap.size w W0 by rw [← hW]; exact BlA)
  have k_R_0 : W0.cell? ⟨w.heap.size, 0, none⟩ = some (.bool false) := by rw [← hW]; (first | (go_simp; done) | (simp; done) | (simp [go_sem]; done) | (simp [go_sem]; done))
  have k_R_1 : W0.cell? ⟨w.heap.size, 1, none⟩ = some (.slice none 0 0) := by rw [← hW]; (first | (go_simp; done) | (simp; done) | (simp [go_sem]; done) | (simp [go_sem]; done))
  have k_R_2 : W0.cell? ⟨w.heap.size, 2, none⟩ = some (.slice none 0 0) := by rw [← hW]; (first | (go_simp; done) | (simp; done) | (simp [go_sem]; done) | (simp [go_sem]; done))
  have f_R : ∀ o, W0.frozen? ⟨w.heap.size, o, none⟩ = false := by intro o; rw [← hW]; (first | (go_simp; done) | (simp; done) | (simp [go_sem]; done) | (simp [go_sem]; done))
  have HX_R := Lib.hid (show Bn W0 (w.heap.size) by rw [← hW]; exact KpA)
  replace HB := Lib.hid (show Below w.heap.size w W0 by rw [← hW]; exact BlA)
  replace hN : N ≤ W0.heap.size := by rw [← hW]; (first | omega | (simp; done) | (simp; omega))
  have hs0 : w.heap.size ≤ W0.heap.size := by rw [← hW]; (first | omega | (simp; done) | (simp; omega))
  have hl_R : w.heap.size < W0.heap.size := by rw [← hW]; (first | omega | (simp; done) | (simp; omega))
  replace HA := Lib.hid (HA.out.below HL_W0.out)
  clear HL_W0
  clear hW
  refine (num_no (N := N) _ _ _ q L _ hN HA.out hL HV.out).mono ?_
  rintro e wa ⟨v1, v2, rfl, hb⟩
  have hs_wa : W0.heap.size ≤ wa.heap.size := hb.size
  replace k_R_0 : wa.cell? ⟨w.heap.size, 0, none⟩ = some (.bool false) := (hb.cell (p := ⟨w.heap.size, 0, none⟩) hl_R).trans k_R_0
  replace k_R_1 : wa.cell? ⟨w.heap.size, 1, none⟩ = some (.slice none 0 0) := (hb.cell (p := ⟨w.heap.size, 1, none⟩) hl_R).trans k_R_1
  replace k_R_2 : wa.cell? ⟨w.heap.size, 2, none⟩ = some (.slice none 0 0) := (hb.cell (p := ⟨w.heap.size, 2, none⟩) hl_R).trans k_R_2
  replace f_R : ∀ o, wa.frozen? ⟨w.heap.size, o, none⟩ = false := fun o => (hb.frozen (p := ⟨w.heap.size, o, none⟩) hl_R).trans (f_R o)
  replace HX_R := Lib.hid (HX_R.out.below hb)
  replace HB := Lib.hid (HB.out.trans (hb.mono hs0))
  replace hN : N ≤ wa.heap.size := Nat.le_trans hN hb.size
  replace hs0 : w.heap.size ≤ wa.heap.size := Nat.le_trans hs0 hb.size
  replace hl_R : w.heap.size < wa.heap.size := Nat.lt_of_lt_of_le hl_R hb.size
  replace HA := Lib.hid (HA.out.below hb)
  clear hb
  go_wp2_with fail
  refine bodyPost_ret (v := .tuple #[.agg #[.bool false, .slice none 0 0, .slice none 0 0], .int .i64 1]) (by simp [results, Tryz.results41, go_sem, k_R_0, k_R_1, k_R_2]) rfl ⟨rfl, ?_⟩
  all_goals exact KBA

theorem nm_len {N : Nat} {w : World} {a : Option Addr} {n cap L : Nat} {q : Nat → Rat} (h : Rs N w a n cap q L) (hm : L * n ≤ L * 121) (hld : nlen (lcN (deQ q) n) ≤ L * n + 1) : ∀ i, i < n → nlen (nmN q n i) ≤ L * 122 + 1 := by
  intro i hi
  have h1 := h.lim i hi
  have h2 := nlen_mul (nuQ q i) (lcN (deQ q) n / deQ q i)
  have h3 := nlen_mono (Nat.div_le_self (lcN (deQ q) n) (deQ q i))
  have h4 : nlen (nuQ q i) ≤ L := by unfold rsz at h1; unfold nuQ; omega
  unfold nmN; omega
theorem mo1_len {N : Nat} {w : World} {a : Option Addr} {n cap L : Nat} {q : Nat → Rat} (h : Rs N w a n cap q L) (hm : L * n ≤ L * 121) (hld : nlen (lcN (deQ q) n) ≤ L * n + 1) (hn : n ≤ 121) : nlen (sN (mo1 (nmN q n)) n) ≤ L * 125 + 9 := by
  have := nlen_sN (mo1 (nmN q n)) n (L * 122 + 2) (fun i hi => by
    have h1 := nm_len h hm hld i hi
    have h2 := nlen_mul (nmN q n i) i
    have h3 := nlen_small (m := i) (by omega)
    unfold mo1; omega) (by omega)
  omega
theorem mo2_len {N : Nat} {w : World} {a : Option Addr} {n cap L : Nat} {q : Nat → Rat} (h : Rs N w a n cap q L) (hm : L * n ≤ L * 121) (hld : nlen (lcN (deQ q) n) ≤ L * n + 1) (hn : n ≤ 121) : nlen (sN (mo2 (nmN q n)) n) ≤ L * 125 + 9 := by
  have := nlen_sN (mo2 (nmN q n)) n (L * 122 + 3) (fun i hi => by
    have h1 := nm_len h hm hld i hi
    have h2 := nlen_mul (nmN q n i) i
    have h3 := nlen_small (m := i) (by omega)
    have h4 := nlen_mul (nmN q n i * i) i
    unfold mo2; omega) (by omega)
  omega

set_option maxHeartbeats 2000000 in
theorem Mean_ok {N : Nat} (a : Option Addr) (n cap : Nat) (q : Nat → Rat) (L : Nat) (w : World) (hN : N ≤ w.heap.size) (h : Rs N w a n cap q L) (hL : L ≤ 2097152) (hv : valid q n = true) (p : Rat) (hp : meanQ q n = p) :
    Calls Tryz.prog 7 #[.slice a n cap] w (RatOk N w p) := by
  obtain ⟨n0, n121, hge, _⟩ := valid_iff.1 hv
  have HV := Lib.hid hv
  have hld : nlen (lcN (deQ q) n) ≤ L * n + 1 := lcN_len (fun i hi => by have := h.lim i hi; unfold rsz at this; unfold deQ; omega)
  have hm4 : L * n ≤ L * 121 := Nat.mul_le_mul_left _ n121
  have hml1 : nlen (sN (mo1 (nmN q n)) n) ≤ L * 125 + 9 := mo1_len h hm4 hld n121
  have hml2 : nlen (sN (mo2 (nmN q n)) n) ≤ L * 125 + 9 := mo2_len h hm4 hld n121
  have HP := Lib.hid (show frq (sN (mo1 (nmN q n)) n) (lcN (deQ q) n) = p by rw [mean_frq hge]; exact hp)
  clear hv hp hge
  have hN0 := hN
  have HA := Lib.hid h
  clear h
  have HB := Lib.hid (Below.refl w.heap.size w)
  go_enter Tryz.func7, Tryz.ntmps7
  go_wp2_with fail
  refine calls_name fun W0 hW => ?_
  have hs_W0 : w.heap.size ≤ W0.heap.size := by rw [← hW]; (first | omega | (simp; done) | (simp; omega))
  have HL_W0 := Lib.hid (show Below w.heap.size w W0 by rw [← hW]; exact BlA)
  have k_R_0 : W0.cell? ⟨w.heap.size, 0, none⟩ = some (.bool false) := by rw [← hW]; (first | (go_simp; done) | (simp; done) | (simp [go_sem]; done) | (simp [go_sem]; done))
  have k_R_1 : W0.cell? ⟨w.heap.size, 1, none⟩ = some (.slice none 0 0) := by rw [← hW]; (first | (go_simp; done) | (simp; done) | (simp [go_sem]; done) | (simp [go_sem]; done))
  have k_R_2 : W0.cell? ⟨w.heap.size, 2, none⟩ = some (.slice none 0 0) := by rw [← hW]; (first | (go_simp; done) | (simp; done) | (simp [go_sem]; done) | (simp [go_sem]; done))
  have f_R : ∀ o, W0.frozen? ⟨w.heap.size, o, none⟩ = false := by intro o; rw [← hW]; (first | (go_simp; done) | (simp; done) | (simp [go_sem]; done) | (simp [go_sem]; done))
  have HX_R := Lib.hid (show Bn W0 (w.heap.size) by rw [← hW]; exact KpA)
  replace HB := Lib.hid (show Below w.heap.size w W0 by rw [← hW]; exact BlA)
  replace hN : N ≤ W0.heap.size := by rw [← hW]; (first | omega | (simp; done) | (simp; omega))
  have hs0 : w.heap.size ≤ W0.heap.size := by rw [← hW]; (first | omega | (simp; done) | (simp; omega))
  have hl_R : w.heap.size < W0.heap.size := by rw [← hW]; (first | omega | (simp; done) | (simp; omega))
  replace HA := Lib.hid (HA.out.below HL_W0.out)
  clear HL_W0
  clear hW
  refine (num_yes (N := N) _ _ _ q L _ hN HA.out hL HV.out).mono ?_
  rintro e wa ⟨b, r, c, rfl, hb1, hb2, hl, hn, hb⟩
  have hs_wa : W0.heap.size ≤ wa.heap.size := hb.size
  replace k_R_0 : wa.cell? ⟨w.heap.size, 0, none⟩ = some (.bool false) := (hb.cell (p := ⟨w.heap.size, 0, none⟩) hl_R).trans k_R_0
  replace k_R_1 : wa.cell? ⟨w.heap.size, 1, none⟩ = some (.slice none 0 0) := (hb.cell (p := ⟨w.heap.size, 1, none⟩) hl_R).trans k_R_1
  replace k_R_2 : wa.cell? ⟨w.heap.size, 2, none⟩ = some (.slice none 0 0) := (hb.cell (p := ⟨w.heap.size, 2, none⟩) hl_R).trans k_R_2
  replace f_R : ∀ o, wa.frozen? ⟨w.heap.size, o, none⟩ = false := fun o => (hb.frozen (p := ⟨w.heap.size, o, none⟩) hl_R).trans (f_R o)
  replace HX_R := Lib.hid (HX_R.out.below hb)
  replace HB := Lib.hid (HB.out.trans (hb.mono hs0))
  replace hN : N ≤ wa.heap.size := Nat.le_trans hN hb.size
  replace hs0 : w.heap.size ≤ wa.heap.size := Nat.le_trans hs0 hb.size
  replace hl_R : w.heap.size < wa.heap.size := Nat.lt_of_lt_of_le hl_R hb.size
  replace HA := Lib.hid (HA.out.below hb)
  clear hb
  have HD := Lib.hid hn
  clear hn
  have HN := Lib.hid hl
  clear hl
  go_wp2_with fail
  refine (moments_any (N := N) _ n n (nmN q n) (L * 123 + 2) _ hN (HN.out.ns (by unfold maxLen; omega)) (by omega) (by omega)).mono ?_
  rintro e wb ⟨r1, c1, r2, c2, rfl, hn, hn', hb⟩
  have hs_wb : wa.heap.size ≤ wb.heap.size := hb.size
  replace k_R_0 : wb.cell? ⟨w.heap.size, 0, none⟩ = some (.bool false) := (hb.cell (p := ⟨w.heap.size, 0, none⟩) hl_R).trans k_R_0
  replace k_R_1 : wb.cell? ⟨w.heap.size, 1, none⟩ = some (.slice none 0 0) := (hb.cell (p := ⟨w.heap.size, 1, none⟩) hl_R).trans k_R_1
  replace k_R_2 : wb.cell? ⟨w.heap.size, 2, none⟩ = some (.slice none 0 0) := (hb.cell (p := ⟨w.heap.size, 2, none⟩) hl_R).trans k_R_2
  replace f_R : ∀ o, wb.frozen? ⟨w.heap.size, o, none⟩ = false := fun o => (hb.frozen (p := ⟨w.heap.size, o, none⟩) hl_R).trans (f_R o)
  replace HX_R := Lib.hid (HX_R.out.below hb)
  replace HD := Lib.hid (HD.out.below hb)
  replace HB := Lib.hid (HB.out.trans (hb.mono hs0))
  replace hN : N ≤ wb.heap.size := Nat.le_trans hN hb.size
  replace hs0 : w.heap.size ≤ wb.heap.size := Nat.le_trans hs0 hb.size
  replace hl_R : w.heap.size < wb.heap.size := Nat.lt_of_lt_of_le hl_R hb.size
  replace HN := Lib.hid (HN.out.below hb)
  replace HA := Lib.hid (HA.out.below hb)
  clear hb
  have HM1 := Lib.hid hn
  clear hn
  have HM2 := Lib.hid hn'
  clear hn'
  go_wp2_with fail
  refine (fraction_any (N := N) _ _ _ _ (sN (mo1 (nmN q n)) n) _ _ (lcN (deQ q) n) _ hN HM1.out HD.out (by omega) (by omega) p HP.out).mono ?_
  rintro e wc ⟨ru, cu, ru2, cu2, rfl, hn, hn', hb⟩
  have hs_wc : wb.heap.size ≤ wc.heap.size := hb.size
  replace k_R_0 : wc.cell? ⟨w.heap.size, 0, none⟩ = some (.bool false) := (hb.cell (p := ⟨w.heap.size, 0, none⟩) hl_R).trans k_R_0
  replace k_R_1 : wc.cell? ⟨w.heap.size, 1, none⟩ = some (.slice none 0 0) := (hb.cell (p := ⟨w.heap.size, 1, none⟩) hl_R).trans k_R_1
  replace k_R_2 : wc.cell? ⟨w.heap.size, 2, none⟩ = some (.slice none 0 0) := (hb.cell (p := ⟨w.heap.size, 2, none⟩) hl_R).trans k_R_2
  replace f_R : ∀ o, wc.frozen? ⟨w.heap.size, o, none⟩ = false := fun o => (hb.frozen (p := ⟨w.heap.size, o, none⟩) hl_R).trans (f_R o)
  replace HX_R := Lib.hid (HX_R.out.below hb)
  replace HD := Lib.hid (HD.out.below hb)
  replace HM1 := Lib.hid (HM1.out.below hb)
  replace HM2 := Lib.hid (HM2.out.below hb)
  replace HB := Lib.hid (HB.out.trans (hb.mono hs0))
  replace hN : N ≤ wc.heap.size := Nat.le_trans hN hb.size
  replace hs0 : w.heap.size ≤ wc.heap.size := Nat.le_trans hs0 hb.size
  replace hl_R : w.heap.size < wc.heap.size := Nat.lt_of_lt_of_le hl_R hb.size
  replace HN := Lib.hid (HN.out.below hb)
  replace HA := Lib.hid (HA.out.below hb)
  clear hb
  have HP1 := Lib.hid hn
  clear hn
  have HQ1 := Lib.hid hn'
  clear hn'
  go_wp2_with fail
  refine bodyPost_ret (v := .tuple #[.agg #[.bool (decide ((p).num < 0)), .slice ru (nlen (p).num.natAbs) cu, .slice ru2 (nlen (p).den) cu2], .int .i64 0]) (by simp [results, Tryz.results7, go_sem, k_R_0, k_R_1, k_R_2]) rfl ⟨_, _, _, _, rfl, HP1.out.keep ?_, HQ1.out.keep ?_, ?_⟩
  all_goals exact KBA

set_option maxHeartbeats 4000000 in
theorem Variance_ok {N : Nat} (a : Option Addr) (n cap : Nat) (q : Nat → Rat) (L : Nat) (w : World) (hN : N ≤ w.heap.size) (h : Rs N w a n cap q L) (hL : L ≤ 2097152) (hv : valid q n = true) (p : Rat) (hp : varQ q n = p) :
    Calls Tryz.prog 12 #[.slice a n cap] w (RatOk N w p) := by
  obtain ⟨n0, n121, hge, _⟩ := valid_iff.1 hv
  have HV := Lib.hid hv
  have hld : nlen (lcN (deQ q) n) ≤ L * n + 1 := lcN_len (fun i hi => by have := h.lim i hi; unfold rsz at this; unfold deQ; omega)
  have hm4 : L * n ≤ L * 121 := Nat.mul_le_mul_left _ n121
  have hml1 : nlen (sN (mo1 (nmN q n)) n) ≤ L * 125 + 9 := mo1_len h hm4 hld n121
  have hml2 : nlen (sN (mo2 (nmN q n)) n) ≤ L * 125 + 9 := mo2_len h hm4 hld n121
  obtain ⟨p1, hp1⟩ : ∃ p1, meanQ q n = p1 := ⟨_, rfl⟩
  obtain ⟨p2, hp2⟩ : ∃ p2, secQ q n = p2 := ⟨_, rfl⟩
  obtain ⟨p3, hp3⟩ : ∃ p3, p1 * p1 = p3 := ⟨_, rfl⟩
  have HP := Lib.hid (show p2 - p3 = p by rw [← hp3, ← hp2, ← hp1]; exact hp)
  have HP1 := Lib.hid (show frq (sN (mo1 (nmN q n)) n) (lcN (deQ q) n) = p1 by rw [mean_frq hge]; exact hp1)
  have HP2 := Lib.hid (show frq (sN (mo2 (nmN q n)) n) (lcN (deQ q) n) = p2 by rw [sec_frq hge]; exact hp2)
  have HP3 := Lib.hid hp3
  have hs1 : rsz p1 ≤ L * 125 + 9 := by rw [← HP1.out]; exact frq_len _ _ _ (by omega) (by omega) (by omega)
  have hs2 : rsz p2 ≤ L * 125 + 9 := by rw [← HP2.out]; exact frq_len _ _ _ (by omega) (by omega) (by omega)
  have hs3 : rsz p3 ≤ L * 250 + 18 := by rw [← hp3]; have := rsz_mul p1 p1; omega
  have HS1 := Lib.hid (show rsz p1 ≤ 68719476736 by omega)
  have HS2 := Lib.hid (show rsz p2 ≤ 68719476736 by omega)
  have HS3 := Lib.hid (show rsz p3 ≤ 68719476736 by omega)
  clear hv hp hge hp1 hp2 hp3 hs1 hs2 hs3
  have hN0 := hN
  have HA := Lib.hid h
  clear h
  have HB := Lib.hid (Below.refl w.heap.size w)
  go_enter Tryz.func12, Tryz.ntmps12
  go_wp2_with fail
  refine calls_name fun W0 hW => ?_
  have hs_W0 : w.heap.size ≤ W0.heap.size := by rw [← hW]; (first | omega | (simp; done) | (simp; omega))
  have HL_W0 := Lib.hid (show Below w.heap.size w W0 by rw [← hW]; exact BlA)
  have k_R_0 : W0.cell? ⟨w.heap.size, 0, none⟩ = some (.bool false) := by rw [← hW]; (first | (go_simp; done) | (simp; done) | (simp [go_sem]; done) | (simp [go_sem]; done))
  have k_R_1 : W0.cell? ⟨w.heap.size, 1, none⟩ = some (.slice none 0 0) := by rw [← hW]; (first | (go_simp; done) | (simp; done) | (simp [go_sem]; done) | (simp [go_sem]; done))
  have k_R_2 : W0.cell? ⟨w.heap.size, 2, none⟩ = some (.slice none 0 0) := by rw [← hW]; (first | (go_simp; done) | (simp; done) | (simp [go_sem]; done) | (simp [go_sem]; done))
  have f_R : ∀ o, W0.frozen? ⟨w.heap.size, o, none⟩ = false := by intro o; rw [← hW]; (first | (go_simp; done) | (simp; done) | (simp [go_sem]; done) | (simp [go_sem]; done))
  have HX_R := Lib.hid (show Bn W0 (w.heap.size) by rw [← hW]; exact KpA)
  replace HB := Lib.hid (show Below w.heap.size w W0 by rw [← hW]; exact BlA)
  replace hN : N ≤ W0.heap.size := by rw [← hW]; (first | omega | (simp; done) | (simp; omega))
  have hs0 : w.heap.size ≤ W0.heap.size := by rw [← hW]; (first | omega | (simp; done) | (simp; omega))
  have hl_R : w.heap.size < W0.heap.size := by rw [← hW]; (first | omega | (simp; done) | (simp; omega))
  replace HA := Lib.hid (HA.out.below HL_W0.out)
  clear HL_W0
  clear hW
  refine (num_yes (N := N) _ _ _ q L _ hN HA.out hL HV.out).mono ?_
  rintro e wa ⟨b, r, c, rfl, hb1, hb2, hl, hn, hb⟩
  have hs_wa : W0.heap.size ≤ wa.heap.size := hb.size
  replace k_R_0 : wa.cell? ⟨w.heap.size, 0, none⟩ = some (.bool false) := (hb.cell (p := ⟨w.heap.size, 0, none⟩) hl_R).trans k_R_0
  replace k_R_1 : wa.cell? ⟨w.heap.size, 1, none⟩ = some (.slice none 0 0) := (hb.cell (p := ⟨w.heap.size, 1, none⟩) hl_R).trans k_R_1
  replace k_R_2 : wa.cell? ⟨w.heap.size, 2, none⟩ = some (.slice none 0 0) := (hb.cell (p := ⟨w.heap.size, 2, none⟩) hl_R).trans k_R_2
  replace f_R : ∀ o, wa.frozen? ⟨w.heap.size, o, none⟩ = false := fun o => (hb.frozen (p := ⟨w.heap.size, o, none⟩) hl_R).trans (f_R o)
  replace HX_R := Lib.hid (HX_R.out.below hb)
  replace HB := Lib.hid (HB.out.trans (hb.mono hs0))
  replace hN : N ≤ wa.heap.size := Nat.le_trans hN hb.size
  replace hs0 : w.heap.size ≤ wa.heap.size := Nat.le_trans hs0 hb.size
  replace hl_R : w.heap.size < wa.heap.size := Nat.lt_of_lt_of_le hl_R hb.size
  replace HA := Lib.hid (HA.out.below hb)
  clear hb
  have HD := Lib.hid hn
  clear hn
  have HN := Lib.hid hl
  clear hl
  go_wp2_with fail
  refine (moments_any (N := N) _ n n (nmN q n) (L * 123 + 2) _ hN (HN.out.ns (by unfold maxLen; omega)) (by omega) (by omega)).mono ?_
  rintro e wb ⟨r1, c1, r2, c2, rfl, hn, hn', hb⟩
  have hs_wb : wa.heap.size ≤ wb.heap.size := hb.size
  replace k_R_0 : wb.cell? ⟨w.heap.size, 0, none⟩ = some (.bool false) := (hb.cell (p := ⟨w.heap.size, 0, none⟩) hl_R).trans k_R_0
  replace k_R_1 : wb.cell? ⟨w.heap.size, 1, none⟩ = some (.slice none 0 0) := (hb.cell (p := ⟨w.heap.size, 1, none⟩) hl_R).trans k_R_1
  replace k_R_2 : wb.cell? ⟨w.heap.size, 2, none⟩ = some (.slice none 0 0) := (hb.cell (p := ⟨w.heap.size, 2, none⟩) hl_R).trans k_R_2
  replace f_R : ∀ o, wb.frozen? ⟨w.heap.size, o, none⟩ = false := fun o => (hb.frozen (p := ⟨w.heap.size, o, none⟩) hl_R).trans (f_R o)
  replace HX_R := Lib.hid (HX_R.out.below hb)
  replace HD := Lib.hid (HD.out.below hb)
  replace HB := Lib.hid (HB.out.trans (hb.mono hs0))
  replace hN : N ≤ wb.heap.size := Nat.le_trans hN hb.size
  replace hs0 : w.heap.size ≤ wb.heap.size := Nat.le_trans hs0 hb.size
  replace hl_R : w.heap.size < wb.heap.size := Nat.lt_of_lt_of_le hl_R hb.size
  replace HN := Lib.hid (HN.out.below hb)
  replace HA := Lib.hid (HA.out.below hb)
  clear hb
  have HM1 := Lib.hid hn
  clear hn
  have HM2 := Lib.hid hn'
  clear hn'
  go_wp2_with fail
  refine (fraction_any (N := N) _ _ _ _ (sN (mo1 (nmN q n)) n) _ _ (lcN (deQ q) n) _ hN HM1.out HD.out (by omega) (by omega) p1 HP1.out).mono ?_
  rintro e wc ⟨ru, cu, ru2, cu2, rfl, hn, hn', hb⟩
  have hs_wc : wb.heap.size ≤ wc.heap.size := hb.size
  replace k_R_0 : wc.cell? ⟨w.heap.size, 0, none⟩ = some (.bool false) := (hb.cell (p := ⟨w.heap.size, 0, none⟩) hl_R).trans k_R_0
  replace k_R_1 : wc.cell? ⟨w.heap.size, 1, none⟩ = some (.slice none 0 0) := (hb.cell (p := ⟨w.heap.size, 1, none⟩) hl_R).trans k_R_1
  replace k_R_2 : wc.cell? ⟨w.heap.size, 2, none⟩ = some (.slice none 0 0) := (hb.cell (p := ⟨w.heap.size, 2, none⟩) hl_R).trans k_R_2
  replace f_R : ∀ o, wc.frozen? ⟨w.heap.size, o, none⟩ = false := fun o => (hb.frozen (p := ⟨w.heap.size, o, none⟩) hl_R).trans (f_R o)
  replace HX_R := Lib.hid (HX_R.out.below hb)
  replace HD := Lib.hid (HD.out.below hb)
  replace HM1 := Lib.hid (HM1.out.below hb)
  replace HM2 := Lib.hid (HM2.out.below hb)
  replace HB := Lib.hid (HB.out.trans (hb.mono hs0))
  replace hN : N ≤ wc.heap.size := Nat.le_trans hN hb.size
  replace hs0 : w.heap.size ≤ wc.heap.size := Nat.le_trans hs0 hb.size
  replace hl_R : w.heap.size < wc.heap.size := Nat.lt_of_lt_of_le hl_R hb.size
  replace HN := Lib.hid (HN.out.below hb)
  replace HA := Lib.hid (HA.out.below hb)
  clear hb
  have HU1 := Lib.hid hn
  clear hn
  have HU2 := Lib.hid hn'
  clear hn'
  clear HN
  clear HA
  go_wp2_with fail
  refine region_name fun W1 hW => ?_
  have hs_W1 : wc.heap.size ≤ W1.heap.size := by rw [← hW]; (first | omega | (simp; done) | (simp; omega))
  have hd_R_M : w.heap.size < wc.heap.size := by omega
  have HK_W1 := Lib.hid (show Kp N wc W1 by rw [← hW]; exact KpA)
  replace k_R_0 : W1.cell? ⟨w.heap.size, 0, none⟩ = some (.bool false) := by rw [← hW]; (first | with_reducible exact k_R_0 | (simp [go_sem, k_R_0]; done) | (simp [go_sem, k_R_0, hl_R]; done) | (go_simp; done) | (simp [go_sem, k_R_0, k_R_1, k_R_2, f_R, hl_R]; done))
  replace k_R_1 : W1.cell? ⟨w.heap.size, 1, none⟩ = some (.slice none 0 0) := by rw [← hW]; (first | with_reducible exact k_R_1 | (simp [go_sem, k_R_1]; done) | (simp [go_sem, k_R_1, hl_R]; done) | (go_simp; done) | (simp [go_sem, k_R_0, k_R_1, k_R_2, f_R, hl_R]; done))
  replace k_R_2 : W1.cell? ⟨w.heap.size, 2, none⟩ = some (.slice none 0 0) := by rw [← hW]; (first | with_reducible exact k_R_2 | (simp [go_sem, k_R_2]; done) | (simp [go_sem, k_R_2, hl_R]; done) | (go_simp; done) | (simp [go_sem, k_R_0, k_R_1, k_R_2, f_R, hl_R]; done))
  replace f_R : ∀ o, W1.frozen? ⟨w.heap.size, o, none⟩ = false := by intro o; rw [← hW]; (first | with_reducible exact f_R o | (simp [go_sem, f_R]; done) | (simp [go_sem, f_R, hl_R]; done) | (go_simp; done) | (simp [go_sem, k_R_0, k_R_1, k_R_2, f_R, hl_R]; done))
  replace HX_R := Lib.hid (show Bn W1 (w.heap.size) by rw [← hW]; exact KpA)
  have k_M_0 : W1.cell? ⟨wc.heap.size, 0, none⟩ = some (.bool (decide ((p1).num < 0))) := by rw [← hW]; (first | (go_simp; done) | (simp; done) | (simp [go_sem]; done) | (simp [go_sem, k_R_0, k_R_1, k_R_2, f_R, hl_R]; done))
  have k_M_1 : W1.cell? ⟨wc.heap.size, 1, none⟩ = some (.slice ru (nlen (p1).num.natAbs) cu) := by rw [← hW]; (first | (go_simp; done) | (simp; done) | (simp [go_sem]; done) | (simp [go_sem, k_R_0, k_R_1, k_R_2, f_R, hl_R]; done))
  have k_M_2 : W1.cell? ⟨wc.heap.size, 2, none⟩ = some (.slice ru2 (nlen (p1).den) cu2) := by rw [← hW]; (first | (go_simp; done) | (simp; done) | (simp [go_sem]; done) | (simp [go_sem, k_R_0, k_R_1, k_R_2, f_R, hl_R]; done))
  have f_M : ∀ o, W1.frozen? ⟨wc.heap.size, o, none⟩ = false := by intro o; rw [← hW]; (first | (go_simp; done) | (simp; done) | (simp [go_sem]; done) | (simp [go_sem, k_R_0, k_R_1, k_R_2, f_R, hl_R]; done))
  have HX_M := Lib.hid (show Bn W1 (wc.heap.size) by rw [← hW]; exact KpA)
  replace HD := Lib.hid (HD.out.keep HK_W1.out)
  replace HM1 := Lib.hid (HM1.out.keep HK_W1.out)
  replace HM2 := Lib.hid (HM2.out.keep HK_W1.out)
  replace HU1 := Lib.hid (HU1.out.keep HK_W1.out)
  replace HU2 := Lib.hid (HU2.out.keep HK_W1.out)
  replace HB := Lib.hid (show Below w.heap.size w W1 by rw [← hW]; exact BlA)
  replace hN : N ≤ W1.heap.size := by rw [← hW]; (first | omega | (simp; done) | (simp; omega))
  replace hs0 : w.heap.size ≤ W1.heap.size := by rw [← hW]; (first | omega | (simp; done) | (simp; omega))
  replace hl_R : w.heap.size < W1.heap.size := by rw [← hW]; (first | omega | (simp; done) | (simp; omega))
  have hl_M : wc.heap.size < W1.heap.size := by rw [← hW]; (first | omega | (simp; done) | (simp; omega))
  clear hW HK_W1
  go_region_held3 (fun w' => w'.cell? ⟨wc.heap.size, 0, none⟩ = some (.bool (decide ((p1).num < 0))) ∧ w'.cell? ⟨wc.heap.size, 1, none⟩ = some (.slice ru (nlen (p1).num.natAbs) cu) ∧ w'.cell? ⟨wc.heap.size, 2, none⟩ = some (.slice ru2 (nlen (p1).den) cu2))
    (first | (go_keep; done) | ((try dsimp only); (repeat' apply And.intro) <;> (first | (go_keep; done) | (exact cell_keep_alloc_drew (by first | omega | (simp; omega)) (by first | assumption | go_simp)) | (exact cell_keep_alloc (by first | omega | (simp; omega)) (by first | assumption | go_simp)) | (rw [cell_set2 _ _ _ _ _ _ _ _ (by omega)]; assumption) | (rw [cell_set3 _ _ _ _ _ _ _ _ _ _ (by omega)]; assumption))))
    (first
      | (go_at_call 24; refine (fraction_any (N := N) _ _ _ _ (sN (mo2 (nmN q n)) n) _ _ (lcN (deQ q) n) _ (by exact hN) (by exact HM2.out) (by exact HD.out) (by omega) (by omega) p2 HP2.out).mono ?_; rintro e wd ⟨rv, cv, rv2, cv2, rfl, hn, hn', hb⟩; replace hb : Below W1.heap.size W1 wd := (by first | exact hb | exact bel_of_drew hb); have hs_wd : W1.heap.size ≤ wd.heap.size := hb.size; replace k_R_0 : wd.cell? ⟨w.heap.size, 0, none⟩ = some (.bool false) := (hb.cell (p := ⟨w.heap.size, 0, none⟩) hl_R).trans k_R_0; replace k_R_1 : wd.cell? ⟨w.heap.size, 1, none⟩ = some (.slice none 0 0) := (hb.cell (p := ⟨w.heap.size, 1, none⟩) hl_R).trans k_R_1; replace k_R_2 : wd.cell? ⟨w.heap.size, 2, none⟩ = some (.slice none 0 0) := (hb.cell (p := ⟨w.heap.size, 2, none⟩) hl_R).trans k_R_2; replace f_R : ∀ o, wd.frozen? ⟨w.heap.size, o, none⟩ = false := fun o => (hb.frozen (p := ⟨w.heap.size, o, none⟩) hl_R).trans (f_R o); replace HX_R := Lib.hid (HX_R.out.below hb); replace k_M_0 : wd.cell? ⟨wc.heap.size, 0, none⟩ = some (.bool (decide ((p1).num < 0))) := (hb.cell (p := ⟨wc.heap.size, 0, none⟩) hl_M).trans k_M_0; replace k_M_1 : wd.cell? ⟨wc.heap.size, 1, none⟩ = some (.slice ru (nlen (p1).num.natAbs) cu) := (hb.cell (p := ⟨wc.heap.size, 1, none⟩) hl_M).trans k_M_1; replace k_M_2 : wd.cell? ⟨wc.heap.size, 2, none⟩ = some (.slice ru2 (nlen (p1).den) cu2) := (hb.cell (p := ⟨wc.heap.size, 2, none⟩) hl_M).trans k_M_2; replace f_M : ∀ o, wd.frozen? ⟨wc.heap.size, o, none⟩ = false := fun o => (hb.frozen (p := ⟨wc.heap.size, o, none⟩) hl_M).trans (f_M o); replace HX_M := Lib.hid (HX_M.out.below hb); replace HD := Lib.hid (HD.out.below hb); replace HM1 := Lib.hid (HM1.out.below hb); replace HM2 := Lib.hid (HM2.out.below hb); replace HU1 := Lib.hid (HU1.out.below hb); replace HU2 := Lib.hid (HU2.out.below hb); replace HB := Lib.hid (HB.out.trans (hb.mono hs0)); replace hN : N ≤ wd.heap.size := Nat.le_trans hN hb.size; replace hs0 : w.heap.size ≤ wd.heap.size := Nat.le_trans hs0 hb.size; replace hl_R : w.heap.size < wd.heap.size := Nat.lt_of_lt_of_le hl_R hb.size; replace hl_M : wc.heap.size < wd.heap.size := Nat.lt_of_lt_of_le hl_M hb.size; clear hb; have HV1 := Lib.hid hn; clear hn; have HV2 := Lib.hid hn'; clear hn'; skip)
      | (go_at_call 33; refine (rmul_any (N := N) _ _ _ _ _ _ _ _ _ _ _ _ _ _ (rsz p1) (rsz p1) p1 p1 _ (by exact hN) (by exact Rt.of_norm HU1.out HU2.out _ (Nat.le_refl _)) (by exact Rt.of_norm HU1.out HU2.out _ (Nat.le_refl _)) (by exact HS1.out) (by exact HS1.out) p3 HP3.out).mono ?_; rintro e we ⟨rx, cx, rx2, cx2, rfl, hn, hn', hb⟩; replace hb : Below wd.heap.size wd we := (by first | exact hb | exact bel_of_drew hb); have hs_we : wd.heap.size ≤ we.heap.size := hb.size; replace k_R_0 : we.cell? ⟨w.heap.size, 0, none⟩ = some (.bool false) := (hb.cell (p := ⟨w.heap.size, 0, none⟩) hl_R).trans k_R_0; replace k_R_1 : we.cell? ⟨w.heap.size, 1, none⟩ = some (.slice none 0 0) := (hb.cell (p := ⟨w.heap.size, 1, none⟩) hl_R).trans k_R_1; replace k_R_2 : we.cell? ⟨w.heap.size, 2, none⟩ = some (.slice none 0 0) := (hb.cell (p := ⟨w.heap.size, 2, none⟩) hl_R).trans k_R_2; replace f_R : ∀ o, we.frozen? ⟨w.heap.size, o, none⟩ = false := fun o => (hb.frozen (p := ⟨w.heap.size, o, none⟩) hl_R).trans (f_R o); replace HX_R := Lib.hid (HX_R.out.below hb); replace k_M_0 : we.cell? ⟨wc.heap.size, 0, none⟩ = some (.bool (decide ((p1).num < 0))) := (hb.cell (p := ⟨wc.heap.size, 0, none⟩) hl_M).trans k_M_0; replace k_M_1 : we.cell? ⟨wc.heap.size, 1, none⟩ = some (.slice ru (nlen (p1).num.natAbs) cu) := (hb.cell (p := ⟨wc.heap.size, 1, none⟩) hl_M).trans k_M_1; replace k_M_2 : we.cell? ⟨wc.heap.size, 2, none⟩ = some (.slice ru2 (nlen (p1).den) cu2) := (hb.cell (p := ⟨wc.heap.size, 2, none⟩) hl_M).trans k_M_2; replace f_M : ∀ o, we.frozen? ⟨wc.heap.size, o, none⟩ = false := fun o => (hb.frozen (p := ⟨wc.heap.size, o, none⟩) hl_M).trans (f_M o); replace HX_M := Lib.hid (HX_M.out.below hb); replace HD := Lib.hid (HD.out.below hb); replace HM1 := Lib.hid (HM1.out.below hb); replace HM2 := Lib.hid (HM2.out.below hb); replace HU1 := Lib.hid (HU1.out.below hb); replace HU2 := Lib.hid (HU2.out.below hb); replace HV1 := Lib.hid (HV1.out.below hb); replace HV2 := Lib.hid (HV2.out.below hb); replace HB := Lib.hid (HB.out.trans (hb.mono hs0)); replace hN : N ≤ we.heap.size := Nat.le_trans hN hb.size; replace hs0 : w.heap.size ≤ we.heap.size := Nat.le_trans hs0 hb.size; replace hl_R : w.heap.size < we.heap.size := Nat.lt_of_lt_of_le hl_R hb.size; replace hl_M : wc.heap.size < we.heap.size := Nat.lt_of_lt_of_le hl_M hb.size; clear hb; have HX1 := Lib.hid hn; clear hn; have HX2 := Lib.hid hn'; clear hn'; skip)
      | (go_at_call 32; refine (rsub_any (N := N) _ _ _ _ _ _ _ _ _ _ _ _ _ _ (rsz p2) (rsz p3) p2 p3 _ (by exact hN) (by exact Rt.of_norm HV1.out HV2.out _ (Nat.le_refl _)) (by exact Rt.of_norm HX1.out HX2.out _ (Nat.le_refl _)) (by exact HS2.out) (by exact HS3.out) p HP.out).mono ?_; rintro e wf ⟨rt, ct, rt2, ct2, rfl, hn, hn', hb⟩; replace hb : Below we.heap.size we wf := (by first | exact hb | exact bel_of_drew hb); have hs_wf : we.heap.size ≤ wf.heap.size := hb.size; replace k_R_0 : wf.cell? ⟨w.heap.size, 0, none⟩ = some (.bool false) := (hb.cell (p := ⟨w.heap.size, 0, none⟩) hl_R).trans k_R_0; replace k_R_1 : wf.cell? ⟨w.heap.size, 1, none⟩ = some (.slice none 0 0) := (hb.cell (p := ⟨w.heap.size, 1, none⟩) hl_R).trans k_R_1; replace k_R_2 : wf.cell? ⟨w.heap.size, 2, none⟩ = some (.slice none 0 0) := (hb.cell (p := ⟨w.heap.size, 2, none⟩) hl_R).trans k_R_2; replace f_R : ∀ o, wf.frozen? ⟨w.heap.size, o, none⟩ = false := fun o => (hb.frozen (p := ⟨w.heap.size, o, none⟩) hl_R).trans (f_R o); replace HX_R := Lib.hid (HX_R.out.below hb); replace k_M_0 : wf.cell? ⟨wc.heap.size, 0, none⟩ = some (.bool (decide ((p1).num < 0))) := (hb.cell (p := ⟨wc.heap.size, 0, none⟩) hl_M).trans k_M_0; replace k_M_1 : wf.cell? ⟨wc.heap.size, 1, none⟩ = some (.slice ru (nlen (p1).num.natAbs) cu) := (hb.cell (p := ⟨wc.heap.size, 1, none⟩) hl_M).trans k_M_1; replace k_M_2 : wf.cell? ⟨wc.heap.size, 2, none⟩ = some (.slice ru2 (nlen (p1).den) cu2) := (hb.cell (p := ⟨wc.heap.size, 2, none⟩) hl_M).trans k_M_2; replace f_M : ∀ o, wf.frozen? ⟨wc.heap.size, o, none⟩ = false := fun o => (hb.frozen (p := ⟨wc.heap.size, o, none⟩) hl_M).trans (f_M o); replace HX_M := Lib.hid (HX_M.out.below hb); replace HD := Lib.hid (HD.out.below hb); replace HM1 := Lib.hid (HM1.out.below hb); replace HM2 := Lib.hid (HM2.out.below hb); replace HU1 := Lib.hid (HU1.out.below hb); replace HU2 := Lib.hid (HU2.out.below hb); replace HV1 := Lib.hid (HV1.out.below hb); replace HV2 := Lib.hid (HV2.out.below hb); replace HX1 := Lib.hid (HX1.out.below hb); replace HX2 := Lib.hid (HX2.out.below hb); replace HB := Lib.hid (HB.out.trans (hb.mono hs0)); replace hN : N ≤ wf.heap.size := Nat.le_trans hN hb.size; replace hs0 : w.heap.size ≤ wf.heap.size := Nat.le_trans hs0 hb.size; replace hl_R : w.heap.size < wf.heap.size := Nat.lt_of_lt_of_le hl_R hb.size; replace hl_M : wc.heap.size < wf.heap.size := Nat.lt_of_lt_of_le hl_M hb.size; clear hb; have HT1 := Lib.hid hn; clear hn; have HT2 := Lib.hid hn'; clear hn'; skip))
  go_wp2_with fail
  refine bodyPost_ret (v := .tuple #[.agg #[.bool (decide ((p).num < 0)), .slice rt (nlen (p).num.natAbs) ct, .slice rt2 (nlen (p).den) ct2], .int .i64 0]) (by simp [results, Tryz.results12, go_sem, k_R_0, k_R_1, k_R_2]) rfl ⟨_, _, _, _, rfl, HT1.out.keep ?_, HT2.out.keep ?_, ?_⟩
  all_goals exact KBA

end Go.Proofs.YtbjgnpgachdlaaaGreatDoor
