/- Plain laws: numerators over a common denominator. No condition. Contracts of exact.Valid, Mean, Variance, Upper, Lower, Both, Convolve. -/
import Derived.Test.YtmecipfdelgfbaaDoorJoD
namespace Go.Proofs.YtmecipfdelgfbaaDoor

theorem frq_div (m d : Nat) : frq m d = (m : Rat) / (d : Rat) := by
  unfold frq
  rw [Rat.mkRat_eq_div]
  rfl
theorem natQ_ne {d : Nat} (h : 0 < d) : (d : Rat) ≠ 0 := by
  intro e
  have : d = 0 := by exact_mod_cast e
  omega
theorem natQ_inj {a b : Nat} : (a : Rat) = (b : Rat) ↔ a = b := by
  constructor
  · intro h; exact_mod_cast h
  · rintro rfl; rfl
theorem den_mul (q : Rat) (h : 0 ≤ q) : ((q.num.natAbs : Nat) : Rat) = q * (q.den : Rat) := by
  have h1 := Rat.num_nonneg.2 h
  have h2 : ((q.num.natAbs : Nat) : Rat) = ((q.num : Int) : Rat) := by
    have : ((q.num.natAbs : Nat) : Int) = q.num := by omega
    rw [← this]; rfl
  rw [h2]
  have h3 := Rat.mkRat_self q
  rw [Rat.mkRat_eq_div] at h3
  have h4 := natQ_ne q.den_pos
  have h5 : ((q.num : Int) : Rat) / ((q.den : Nat) : Rat) = q := h3
  grind
theorem sQ_mulr (c : Rat) (f : Nat → Rat) (n : Nat) : sQ (fun i => f i * c) n = sQ f n * c := by
  rw [Rat.mul_comm, ← sQ_mul]
  exact sQ_congr (fun i _ => Rat.mul_comm _ _)
/-- the common denominator -/
def dnm (q : Nat → Rat) (n : Nat) : Nat := lcN (deQ q) n
theorem dnm_pos (q : Nat → Rat) (n : Nat) : 0 < dnm q n := lcN_pos (fun i _ => (q i).den_pos)
theorem nm_cast (q : Nat → Rat) (n i : Nat) (hi : i < n) (h : 0 ≤ q i) : ((nmN q n i : Nat) : Rat) = q i * ((dnm q n : Nat) : Rat) := by
  obtain ⟨c, hc⟩ := lcN_dvd (d := deQ q) (n := n) i hi
  have hd : 0 < deQ q i := (q i).den_pos
  unfold nmN dnm
  rw [hc, Nat.mul_div_cancel_left _ hd, natQ_mul, natQ_mul]
  have := den_mul (q i) h
  unfold nuQ deQ
  rw [this]; grind
/-- sums of numerators -/
theorem frq_sum (q : Nat → Rat) (n : Nat) (f : Nat → Nat) (g : Nat → Rat) (k : Nat) (h : ∀ i, i < k → ((f i : Nat) : Rat) = g i * ((dnm q n : Nat) : Rat)) : frq (sN f k) (dnm q n) = sQ g k := by
  rw [frq_div, sN_sQ, sQ_congr h, sQ_mulr]
  have := natQ_ne (dnm_pos q n)
  grind
/-- q is a distribution -/
def valid (q : Nat → Rat) (n : Nat) : Bool := decide (0 < n ∧ n ≤ 121 ∧ (∀ i, i < n → 0 ≤ q i) ∧ sQ q n = 1)
theorem valid_iff {q : Nat → Rat} {n : Nat} : valid q n = true ↔ (0 < n ∧ n ≤ 121 ∧ (∀ i, i < n → 0 ≤ q i) ∧ sQ q n = 1) := by unfold valid; simp
theorem valid_sum (q : Nat → Rat) (n : Nat) (h : ∀ i, i < n → 0 ≤ q i) : (sN (nmN q n) n = lcN (deQ q) n) ↔ sQ q n = 1 := by
  have h1 := frq_sum q n (nmN q n) q n (fun i hi => nm_cast q n i hi (h i hi))
  have hp := natQ_ne (dnm_pos q n)
  rw [← h1, frq_div, ← natQ_inj]
  unfold dnm at *
  constructor
  · intro e; rw [e]; grind
  · intro e; grind
theorem nm_le (q : Nat → Rat) (n i k : Nat) (hi : i < n) (hk : k < n) (h : ∀ i, i < n → 0 ≤ q i) : (nmN q n i ≤ nmN q n k) ↔ q i ≤ q k := by
  have h1 := nm_cast q n i hi (h i hi)
  have h2 := nm_cast q n k hk (h k hk)
  have hp : (0 : Rat) < ((dnm q n : Nat) : Rat) := by exact_mod_cast dnm_pos q n
  have e : (nmN q n i ≤ nmN q n k) ↔ ((nmN q n i : Nat) : Rat) ≤ ((nmN q n k : Nat) : Rat) := by
    constructor
    · intro h; exact_mod_cast h
    · intro h; exact_mod_cast h
  rw [e, h1, h2]
  constructor
  · intro h
    rcases Rat.lt_or_ge (q k) (q i) with h3 | h3
    · have := Rat.mul_lt_mul_of_pos_right h3 hp; grind
    · exact h3
  · intro h; exact Rat.mul_le_mul_of_nonneg_right h (Rat.le_of_lt hp)

def meanQ (q : Nat → Rat) (n : Nat) : Rat := sQ (fun i => q i * (i : Rat)) n
def secQ (q : Nat → Rat) (n : Nat) : Rat := sQ (fun i => q i * (i : Rat) * (i : Rat)) n
def varQ (q : Nat → Rat) (n : Nat) : Rat := secQ q n - meanQ q n * meanQ q n
def upQ (q : Nat → Rat) (n k : Nat) : Rat := sQ (fun i => q (k + i)) (n - k)
def bothQ (q : Nat → Rat) (n k : Nat) : Rat := sQ (fun i => if q i ≤ q k then q i else 0) n
section
variable {q : Nat → Rat} {n : Nat} (h : ∀ i, i < n → 0 ≤ q i)
include h
theorem mean_frq : frq (sN (mo1 (nmN q n)) n) (lcN (deQ q) n) = meanQ q n :=
  frq_sum q n _ _ n (fun i hi => by unfold mo1; rw [natQ_mul, nm_cast q n i hi (h i hi)]; grind)
theorem sec_frq : frq (sN (mo2 (nmN q n)) n) (lcN (deQ q) n) = secQ q n :=
  frq_sum q n _ _ n (fun i hi => by unfold mo2; rw [natQ_mul, natQ_mul, nm_cast q n i hi (h i hi)]; grind)
theorem up_frq (k : Nat) : frq (sN (fun i => nmN q n (k + i)) (n - k)) (lcN (deQ q) n) = upQ q n k :=
  frq_sum q n _ _ (n - k) (fun i hi => nm_cast q n (k + i) (by omega) (h (k + i) (by omega)))
theorem low_frq (k : Nat) (hk : k ≤ n) : frq (sN (nmN q n) k) (lcN (deQ q) n) = sQ q k :=
  frq_sum q n _ _ k (fun i hi => nm_cast q n i (by omega) (h i (by omega)))
def bothN (q : Nat → Rat) (n k i : Nat) : Nat := if nmN q n i ≤ nmN q n k then nmN q n i else 0
theorem both_frq (k : Nat) (hk : k < n) : frq (sN (bothN q n k) n) (lcN (deQ q) n) = bothQ q n k :=
  frq_sum q n _ _ n (fun i hi => by
    unfold bothN
    by_cases hle : q i ≤ q k
    · rw [if_pos hle, if_pos ((nm_le q n i k hi hk h).2 hle), nm_cast q n i hi (h i hi)]
    · rw [if_neg hle, if_neg (fun e => hle ((nm_le q n i k hi hk h).1 e))]; grind)
end

end Go.Proofs.YtmecipfdelgfbaaDoor

namespace Go.Proofs.YtmecipfdelgfbaaDoor
open Go.RowKit

theorem num_yes {N : Nat} (a : Option Addr) (n cap : Nat) (q : Nat → Rat) (L : Nat) (w : World) (hN : N ≤ w.heap.size) (h : Rs N w a n cap q L) (hL : L ≤ 2097152) (hv : valid q n = true) :
    Calls Tryd.prog 47 #[.slice a n cap] w (NumPost N w n q L true) := by
  obtain ⟨h0, h1, h2, h3⟩ := valid_iff.1 hv
  exact num_main a n cap q L w hN h hL h0 h1 h2 true (decide_eq_true ((valid_sum q n h2).2 h3))
theorem num_no {N : Nat} (a : Option Addr) (n cap : Nat) (q : Nat → Rat) (L : Nat) (w : World) (hN : N ≤ w.heap.size) (h : Rs N w a n cap q L) (hL : L ≤ 2097152) (hv : valid q n = false) :
    Calls Tryd.prog 47 #[.slice a n cap] w (NoPost w) := by
  by_cases h0 : n < 1 ∨ 121 < n
  · exact num_len a n cap w ⟨h.1, h.2.1⟩ h0
  · by_cases h1 : ∃ j, j < n ∧ q j < 0
    · exact num_neg a n cap q L w hN h hL (by omega) (by omega) h1
    · have h2 : ∀ j, j < n → 0 ≤ q j := by
        intro j hj
        rcases Rat.lt_or_ge (q j) 0 with h3 | h3
        · exact absurd ⟨j, hj, h3⟩ h1
        · exact h3
      have h3 : ¬ sQ q n = 1 := by
        intro e
        rw [valid_iff.2 ⟨by omega, by omega, h2, e⟩] at hv; cases hv
      refine (num_main a n cap q L w hN h hL (by omega) (by omega) h2 false (decide_eq_false (fun e => h3 ((valid_sum q n h2).1 e)))).mono ?_
      rintro e w' ⟨b, r, c, rfl, _, _, _, _, hb⟩
      exact ⟨_, _, rfl, hb⟩
/-- it returns the normal form of q, and OK -/
def RatOk (N : Nat) (w : World) (q : Rat) (e : Ending) (w' : World) : Prop :=
  ∃ r cr r2 cr2, e = .returned (.tuple #[.agg #[.bool (decide (q.num < 0)), .slice r (nlen q.num.natAbs) cr, .slice r2 (nlen q.den) cr2], .int .i64 0]) ∧ Nt N w' r (nlen q.num.natAbs) cr q.num.natAbs ∧ Nt N w' r2 (nlen q.den) cr2 q.den ∧ Below w.heap.size w w'
/-- it returns the empty struct, and an error -/
def RatErr (w : World) (c : Int) (e : Ending) (w' : World) : Prop :=
  e = .returned (.tuple #[.agg #[.bool false, .slice none 0 0, .slice none 0 0], .int .i64 c]) ∧ Below w.heap.size w w'

set_option maxHeartbeats 1000000 in
theorem Valid_any {N : Nat} (a : Option Addr) (n cap : Nat) (q : Nat → Rat) (L : Nat) (w : World) (hN : N ≤ w.heap.size) (h : Rs N w a n cap q L) (hL : L ≤ 2097152) (v : Bool) (hv : valid q n = v) :
    Calls Tryd.prog 18 #[.slice a n cap] w fun e w' => e = .returned (.bool v) ∧ Below w.heap.size w w' := by
  have HV := Lib.hid hv
  clear hv
  cases v
  · have hN0 := hN
    have HA := Lib.hid h
    clear h
    have HB := Lib.hid (Below.refl w.heap.size w)
    go_enter Tryd.func18, Tryd.ntmps18
    go_wp2_with fail
    refine calls_name fun W0 hW => ?_
    have hs_W0 : w.heap.size ≤ W0.heap.size := by rw [← hW]; (first | omega | (simp; done) | (simp; omega))
    have HL_W0 := Lib.hid (show Below w.heap.size w W0 by rw [← hW]; exact BlA)
    replace HB := Lib.hid (show Below w.heap.size w W0 by rw [← hW]; exact BlA)
    replace hN : N ≤ W0.heap.size := by rw [← hW]; (first | omega | (simp; done) | (simp; omega))
    have hs0 : w.heap.size ≤ W0.heap.size := by rw [← hW]; (first | omega | (simp; done) | (simp; omega))
    replace HA := Lib.hid (HA.out.below HL_W0.out)
    clear HL_W0
    clear hW
    refine (num_no (N := N) _ _ _ q L _ hN HA.out hL HV.out).mono ?_
    rintro e wa ⟨v1, v2, rfl, hb⟩
    have hs_wa : W0.heap.size ≤ wa.heap.size := hb.size
    replace HB := Lib.hid (HB.out.trans (hb.mono hs0))
    replace hN : N ≤ wa.heap.size := Nat.le_trans hN hb.size
    replace hs0 : w.heap.size ≤ wa.heap.size := Nat.le_trans hs0 hb.size
    replace HA := Lib.hid (HA.out.below hb)
    clear hb
    go_wp2_with fail
    go_ret
    exact ⟨rfl, HB.out⟩
  · have hN0 := hN
    have HA := Lib.hid h
    clear h
    have HB := Lib.hid (Below.refl w.heap.size w)
    go_enter Tryd.func18, Tryd.ntmps18
    go_wp2_with fail
    refine calls_name fun W0 hW => ?_
    have hs_W0 : w.heap.size ≤ W0.heap.size := by rw [← hW]; (first | omega | (simp; done) | (simp; omega))
    have HL_W0 := Lib.hid (show Below w.heap.size w W0 by rw [← hW]; exact BlA)
    replace HB := Lib.hid (show Below w.heap.size w W0 by rw [← hW]; exact BlA)
    replace hN : N ≤ W0.heap.size := by rw [← hW]; (first | omega | (simp; done) | (simp; omega))
    have hs0 : w.heap.size ≤ W0.heap.size := by rw [← hW]; (first | omega | (simp; done) | (simp; omega))
    replace HA := Lib.hid (HA.out.below HL_W0.out)
    clear HL_W0
    clear hW
    refine (num_yes (N := N) _ _ _ q L _ hN HA.out hL HV.out).mono ?_
    rintro e wa ⟨b, r, c, rfl, hb1, hb2, hl, hn, hb⟩
    have hs_wa : W0.heap.size ≤ wa.heap.size := hb.size
    replace HB := Lib.hid (HB.out.trans (hb.mono hs0))
    replace hN : N ≤ wa.heap.size := Nat.le_trans hN hb.size
    replace hs0 : w.heap.size ≤ wa.heap.size := Nat.le_trans hs0 hb.size
    replace HA := Lib.hid (HA.out.below hb)
    clear hb
    have HD := Lib.hid hn
    clear hn
    have HN := Lib.hid hl
    clear hl
    go_wp2_with fail
    go_ret
    exact ⟨rfl, HB.out⟩

set_option maxHeartbeats 1000000 in
theorem Both_no {N : Nat} (a : Option Addr) (n cap : Nat) (q : Nat → Rat) (L : Nat) (w : World) (hN : N ≤ w.heap.size) (h : Rs N w a n cap q L) (hL : L ≤ 2097152) (hv : valid q n = false) (z : Int) :
    Calls Tryd.prog 29 #[.slice a n cap, .int .i64 z] w (RatErr w 1) := by
  have HV := Lib.hid hv
  clear hv
  have hN0 := hN
  have HA := Lib.hid h
  clear h
  have HB := Lib.hid (Below.refl w.heap.size w)
  go_enter Tryd.func29, Tryd.ntmps29
  go_wp2_with fail
  refine calls_name fun W0 hW => ?_
  have hs_W0 : w.heap.size ≤ W0.heap.size := by rw [← hW]; (first | omega | (simp; done) | (simp; omega))
  have HL_W0 := Lib.hid (show Below w.heap.size w W0 by rw [← hW]; exact BlA)
  have k_R_0 : W0.cell? ⟨w.heap.size, 0, none⟩ = some (.bool false) := by rw [← hW]; (first | (go_simp; done) | (simp; done) | (simp [go_sem]; done) | (simp [go_sem]; done))
  have k_R_1 : W0.cell? ⟨w.heap.size, 1, none⟩ = some (.slice none 0 0) := by rw [← hW]; (first | (go_simp; done) | (simp; done) | (simp [go_sem]; done) | (simp [go_sem]; done))
  have k_R_2 : W0.cell? ⟨w.heap.size, 2, none⟩ = some (.slice none 0 0) := by rw [← hW]; (first | (go_simp; done) | (simp; done) | (simp [go_sem]; done) | (simp [go_sem]; done))
  have f_R : ∀ o, W0.frozen? ⟨w.heap.size, o, none⟩ = false := by intro o; rw [← hW]; (first | (go_simp; done) | (simp; done) | (simp [go_sem]; done) | (simp [go_sem]; done))
  have HX_R := Lib.hid (show Bn W0 (w.heap.size) by rw [← hW]; exact KpA)
  replace HB := Lib.hid (show Below w.heap.size w W0 by rw [← hW]; exact BlA)
  replace hN : N ≤ W0.heap.size := by rw [← hW]; (first | omega | (simp; done) | (simp; omega))
  have hs0 : w.heap.size ≤ W0.heap.size := by rw [← hW]; (first | omega | (simp; done) | (simp; omega))
  have hl_R : w.heap.size < W0.heap.size := by rw [← hW]; (first | omega | (simp; done) | (simp; omega))
  replace HA := Lib.hid (HA.out.below HL_W0.out)
  clear HL_W0
  clear hW
  refine (num_no (N := N) _ _ _ q L _ hN HA.out hL HV.out).mono ?_
  rintro e wa ⟨v1, v2, rfl, hb⟩
  have hs_wa : W0.heap.size ≤ wa.heap.size := hb.size
  replace k_R_0 : wa.cell? ⟨w.heap.size, 0, none⟩ = some (.bool false) := (hb.cell (p := ⟨w.heap.size, 0, none⟩) hl_R).trans k_R_0
  replace k_R_1 : wa.cell? ⟨w.heap.size, 1, none⟩ = some (.slice none 0 0) := (hb.cell (p := ⟨w.heap.size, 1, none⟩) hl_R).trans k_R_1
  replace k_R_2 : wa.cell? ⟨w.heap.size, 2, none⟩ = some (.slice none 0 0) := (hb.cell (p := ⟨w.heap.size, 2, none⟩) hl_R).trans k_R_2
  replace f_R : ∀ o, wa.frozen? ⟨w.heap.size, o, none⟩ = false := fun o => (hb.frozen (p := ⟨w.heap.size, o, none⟩) hl_R).trans (f_R o)
  replace HX_R := Lib.hid (HX_R.out.below hb)
  replace HB := Lib.hid (HB.out.trans (hb.mono hs0))
  replace hN : N ≤ wa.heap.size := Nat.le_trans hN hb.size
  replace hs0 : w.heap.size ≤ wa.heap.size := Nat.le_trans hs0 hb.size
  replace hl_R : w.heap.size < wa.heap.size := Nat.lt_of_lt_of_le hl_R hb.size
  replace HA := Lib.hid (HA.out.below hb)
  clear hb
  go_wp2_with fail
  refine bodyPost_ret (v := .tuple #[.agg #[.bool false, .slice none 0 0, .slice none 0 0], .int .i64 1]) (by simp [results, Tryd.results29, go_sem, k_R_0, k_R_1, k_R_2]) rfl ⟨rfl, ?_⟩
  all_goals exact KBA

theorem nm_len {N : Nat} {w : World} {a : Option Addr} {n cap L : Nat} {q : Nat → Rat} (h : Rs N w a n cap q L) (hm : L * n ≤ L * 121) (hld : nlen (lcN (deQ q) n) ≤ L * n + 1) : ∀ i, i < n → nlen (nmN q n i) ≤ L * 122 + 1 := by
  intro i hi
  have h1 := h.lim i hi
  have h2 := nlen_mul (nuQ q i) (lcN (deQ q) n / deQ q i)
  have h3 := nlen_mono (Nat.div_le_self (lcN (deQ q) n) (deQ q i))
  have h4 : nlen (nuQ q i) ≤ L := by unfold rsz at h1; unfold nuQ; omega
  unfold nmN; omega
theorem mo1_len {N : Nat} {w : World} {a : Option Addr} {n cap L : Nat} {q : Nat → Rat} (h : Rs N w a n cap q L) (hm : L * n ≤ L * 121) (hld : nlen (lcN (deQ q) n) ≤ L * n + 1) (hn : n ≤ 121) : nlen (sN (mo1 (nmN q n)) n) ≤ L * 125 + 9 := by
  have := nlen_sN (mo1 (nmN q n)) n (L * 122 + 2) (fun i hi => by
    have h1 := nm_len h hm hld i hi
    have h2 := nlen_mul (nmN q n i) i
    have h3 := nlen_small (m := i) (by omega)
    unfold mo1; omega) (by omega)
  omega
theorem mo2_len {N : Nat} {w : World} {a : Option Addr} {n cap L : Nat} {q : Nat → Rat} (h : Rs N w a n cap q L) (hm : L * n ≤ L * 121) (hld : nlen (lcN (deQ q) n) ≤ L * n + 1) (hn : n ≤ 121) : nlen (sN (mo2 (nmN q n)) n) ≤ L * 125 + 9 := by
  have := nlen_sN (mo2 (nmN q n)) n (L * 122 + 3) (fun i hi => by
    have h1 := nm_len h hm hld i hi
    have h2 := nlen_mul (nmN q n i) i
    have h3 := nlen_small (m := i) (by omega)
    have h4 := nlen_mul (nmN q n i * i) i
    unfold mo2; omega) (by omega)
  omega

end Go.Proofs.YtmecipfdelgfbaaDoor
