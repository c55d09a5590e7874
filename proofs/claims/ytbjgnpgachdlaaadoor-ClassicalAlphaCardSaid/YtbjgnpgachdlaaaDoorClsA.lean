/- Contracts of classical.of, zero, inRange, checkLists, covariance and Covariance. -/
import Derived.Test.YtbjgnpgachdlaaaDoorRatG
namespace Go.Proofs.YtbjgnpgachdlaaaDoor
open Go.RowKit

/-- it returns the normal form of q, and an error code -/
def RatPostC (N : Nat) (w : World) (q : Rat) (c : Int) (e : Ending) (w' : World) : Prop :=
  ∃ r cr r2 cr2, e = .returned (.tuple #[.agg #[.bool (decide (q.num < 0)), .slice r (nlen q.num.natAbs) cr, .slice r2 (nlen q.den) cr2], .int .i64 c]) ∧ Nt N w' r (nlen q.num.natAbs) cr q.num.natAbs ∧ Nt N w' r2 (nlen q.den) cr2 q.den ∧ Below w.heap.size w w'
/-- the slice holds n integers -/
def Is (w : World) (a : Option Addr) (n cap : Nat) (z : Nat → Int) : Prop :=
  n ≤ cap ∧ cap ≤ maxLen ∧ (0 < n → ∃ b off, a = some ⟨b, off, none⟩ ∧ ∀ i, i < n → w.cell? ⟨b, off + i, none⟩ = some (.int .i64 (z i)))
theorem Is.below {w w' : World} {a : Option Addr} {n cap : Nat} {z : Nat → Int} (h : Is w a n cap z) (hb : Below w.heap.size w w') : Is w' a n cap z := by
  obtain ⟨h0, h1, h2⟩ := h
  refine ⟨h0, h1, fun hn => ?_⟩
  obtain ⟨b, off, e, hc⟩ := h2 hn
  exact ⟨b, off, e, fun i hi => cell_mono (hc i hi) hb⟩
theorem Is.alloc {w : World} {a : Option Addr} {n cap : Nat} {z : Nat → Int} (h : Is w a n cap z) (o : Obj) : Is (w.alloc o) a n cap z := h.below (bel1 w o)

/-- all are from -1000000 to 1000000 -/
def InR (z : Nat → Int) (n : Nat) : Prop := ∀ i, i < n → -1000000 ≤ z i ∧ z i ≤ 1000000
def sumZ (z : Nat → Int) : Nat → Int
  | 0 => 0
  | k + 1 => sumZ z k + z k
def sumP (x y : Nat → Int) : Nat → Int
  | 0 => 0
  | k + 1 => sumP x y k + x k * y k
def InM (z : Nat → Int) (n : Nat) : Prop := ∀ i, i < n → -60000000 ≤ z i ∧ z i ≤ 60000000
theorem InR.big {z : Nat → Int} {n : Nat} (h : InR z n) : InM z n := fun i hi => by have := h i hi; omega
theorem sumZ_bd {z : Nat → Int} {n : Nat} (h : InM z n) : ∀ k, k ≤ n → -(60000000 * (k : Int)) ≤ sumZ z k ∧ sumZ z k ≤ 60000000 * (k : Int)
  | 0, _ => by simp [sumZ]
  | k + 1, hk => by
    have := sumZ_bd h k (by omega)
    have := h k (by omega)
    simp only [sumZ]; omega
theorem mul_bd {a b : Int} (h1 : -60000000 ≤ a) (h2 : a ≤ 60000000) (h3 : -60000000 ≤ b) (h4 : b ≤ 60000000) : -3600000000000000 ≤ a * b ∧ a * b ≤ 3600000000000000 := by
  have h : (a * b).natAbs ≤ 60000000 * 60000000 := by rw [Int.natAbs_mul]; exact Nat.mul_le_mul (by omega) (by omega)
  omega
theorem sumP_bd {x y : Nat → Int} {n : Nat} (hx : InM x n) (hy : InM y n) : ∀ k, k ≤ n → -(3600000000000000 * (k : Int)) ≤ sumP x y k ∧ sumP x y k ≤ 3600000000000000 * (k : Int)
  | 0, _ => by simp [sumP]
  | k + 1, hk => by
    have := sumP_bd hx hy k (by omega)
    have h1 := hx k (by omega)
    have h2 := hy k (by omega)
    have := mul_bd h1.1 h1.2 h2.1 h2.2
    simp only [sumP]; omega
theorem rsz_div (z : Int) (n : Nat) (p : Rat) (hp : (z : Rat) / ((n : Int) : Rat) = p) (h1 : z.natAbs < 18446744073709551616) (h2 : n < 18446744073709551616) : rsz p ≤ 2 := by
  have e : mkRat z n = p := by rw [Rat.mkRat_eq_div]; exact hp
  rw [← e]
  exact rsz_mk _ _ _ (by omega) (nlen_two h1) (nlen_two h2)
/-- the covariance: the mean of the products less the product of the means -/
def cov (x y : Nat → Int) (n : Nat) : Rat := ((sumP x y n : Int) : Rat) / ((n : Int) : Rat) - ((sumZ x n : Int) : Rat) / ((n : Int) : Rat) * (((sumZ y n : Int) : Rat) / ((n : Int) : Rat))

set_option maxHeartbeats 2000000 in
theorem cof_any {N : Nat} (n d : Int) (w : World) (hN : N ≤ w.heap.size) (n1 : -9223372036854775808 ≤ n) (n2 : n ≤ 9223372036854775807) (d1 : -9223372036854775808 ≤ d) (d2 : d ≤ 9223372036854775807) (p : Rat) (hp : (n : Rat) / (d : Rat) = p) :
    Calls Tryd.prog 68 #[.int .i64 n, .int .i64 d] w (RatPost N w p) := by
  have HP := Lib.hid ((mk_div n d).trans hp)
  clear hp
  go_enter Tryd.func68, Tryd.ntmps68
  go_wp2_with fail
  refine (rof_any (N := N) n d _ (by simp; omega) n1 n2 d1 d2 p HP.out).mono ?_
  rintro e wa ⟨rx, cx, rx2, cx2, rfl, hn, hn', hb⟩
  obtain ⟨hcwa, hfwa⟩ := bcell hb
  have hzwa0 : w.heap.size < wa.heap.size := by have := hb.size; (try simp at this); omega
  have HBwa := Lib.hid hb
  have HNwa := Lib.hid hn
  have HN'wa := Lib.hid hn'
  clear hb hn hn'
  have HX := Lib.hid ((Bx.new w #[.bool false, .slice none 0 0, .slice none 0 0] 28).below HBwa.out)
  have HF := Lib.hid (fun v0 v1 v2 => fin3 hN (Nat.le_refl _) HX.out HNwa.out HN'wa.out ((bel1 w _).trans (HBwa.out.mono (by first | omega | (simp; done) | (simp; omega)))) v0 v1 v2)
  go_wp2_with fail
  exact bodyPost_ret (v := .agg #[.bool (decide ((p).num < 0)), .slice rx (nlen (p).num.natAbs) cx, .slice rx2 (nlen (p).den) cx2]) (by simp [results, Tryd.results68, go_sem, hcwa, hzwa0]) rfl ⟨_, _, _, _, rfl, (HF.out _ _ _).1.alloc _, (HF.out _ _ _).2.1.alloc _, (HF.out _ _ _).2.2.trans ((bel1 _ _).mono (by simp; omega))⟩
  
set_option maxHeartbeats 2000000 in
theorem czero_any {N : Nat} (w : World) (hN : N ≤ w.heap.size) (p : Rat) (hp : (0 : Rat) = p) :
    Calls Tryd.prog 33 #[] w (RatPost N w p) := by
  have HP := Lib.hid (show ((0 : Int) : Rat) / ((1 : Int) : Rat) = p by rw [← hp]; have h0 : ((0 : Int) : Rat) = 0 := rfl; rw [h0]; grind)
  clear hp
  go_enter Tryd.func33, Tryd.ntmps33
  go_wp2_with fail
  refine (cof_any (N := N) 0 1 _ (by simp; omega) (by omega) (by omega) (by omega) (by omega) p HP.out).mono ?_
  rintro e wa ⟨rx, cx, rx2, cx2, rfl, hn, hn', hb⟩
  obtain ⟨hcwa, hfwa⟩ := bcell hb
  have hzwa0 : w.heap.size < wa.heap.size := by have := hb.size; (try simp at this); omega
  have HBwa := Lib.hid hb
  have HNwa := Lib.hid hn
  have HN'wa := Lib.hid hn'
  clear hb hn hn'
  have HX := Lib.hid ((Bx.new w #[.bool false, .slice none 0 0, .slice none 0 0] 28).below HBwa.out)
  have HF := Lib.hid (fun v0 v1 v2 => fin3 hN (Nat.le_refl _) HX.out HNwa.out HN'wa.out ((bel1 w _).trans (HBwa.out.mono (by first | omega | (simp; done) | (simp; omega)))) v0 v1 v2)
  go_wp2_with fail
  exact bodyPost_ret (v := .agg #[.bool (decide ((p).num < 0)), .slice rx (nlen (p).num.natAbs) cx, .slice rx2 (nlen (p).den) cx2]) (by simp [results, Tryd.results33, go_sem, hcwa]) rfl ⟨_, _, _, _, rfl, (HF.out _ _ _).1, (HF.out _ _ _).2.1, (HF.out _ _ _).2.2⟩
  

/-- are the first k from -1000000 to 1000000? -/
def inrB (z : Nat → Int) : Nat → Bool
  | 0 => true
  | k + 1 => inrB z k && decide (-1000000 ≤ z k ∧ z k ≤ 1000000)
theorem inrB_true {z : Nat → Int} : ∀ {n : Nat}, inrB z n = true ↔ InR z n
  | 0 => by simp [inrB, InR]
  | n + 1 => by
    simp only [inrB, Bool.and_eq_true, decide_eq_true_eq, inrB_true (n := n)]
    constructor
    · rintro ⟨h1, h2⟩ i hi
      rcases Nat.lt_or_ge i n with h | h
      · exact h1 i h
      · obtain rfl : i = n := by omega
        exact h2
    · intro h; exact ⟨fun i hi => h i (by omega), h n (by omega)⟩
theorem inrB_mono {z : Nat → Int} {k n : Nat} (h : k ≤ n) (hz : inrB z k = false) : inrB z n = false := by
  rw [← Bool.not_eq_true] at hz ⊢
  exact fun e => hz (inrB_true.2 (fun i hi => inrB_true.1 e i (by omega)))

set_option maxHeartbeats 2000000 in
theorem inRange_any (a : Option Addr) (n cap : Nat) (z : Nat → Int) (w : World) (h : Is w a n cap z) :
    Calls Tryd.prog 67 #[.slice a n cap] w fun e w' => e = .returned (.bool (inrB z n)) ∧ w = w' := by
  obtain ⟨h0, h1, h2⟩ := h
  unfold maxLen at h1
  have HA := Lib.hid h2
  clear h2
  go_enter Tryd.func67, Tryd.ntmps67
  go_wp2_with fail
  go_loop [4, 7] (fun _ i => ∃ k : Nat, k ≤ n ∧ i = .int .i64 k ∧ Hid (inrB z k = true)) (fun _ i => n - (intOf i).toNat)
  case atStart => exact ⟨0, Nat.zero_le _, rfl, (show inrB z 0 = true from rfl)⟩
  case round =>
    obtain ⟨k, hk, rfl, hin⟩ := hrel
    by_cases hkn : k < n
    · obtain ⟨b, off, rfl, hc⟩ := HA.out (by omega)
      have hcell := hc k hkn
      clear hc
      by_cases hlo : z k < -1000000
      · have HE := Lib.hid (show inrB z n = false from inrB_mono (k := k + 1) (by omega) (by simp only [inrB]; simp; omega))
        go_wp2_with fail
        go_ret
        rw [HE.out]
        exact ⟨rfl, rfl⟩
      · by_cases hhi : 1000000 < z k
        · have HE := Lib.hid (show inrB z n = false from inrB_mono (k := k + 1) (by omega) (by simp only [inrB]; simp; omega))
          go_wp2_with fail
          go_ret
          rw [HE.out]
          exact ⟨rfl, rfl⟩
        · have HE := Lib.hid (show inrB z (k + 1) = true by simp only [inrB]; rw [hin.out]; simp; omega)
          go_wp2_with fail
          go_round
          case rel => exact ⟨k + 1, by omega, by go_num, HE⟩
          case measure => simp [intOf]; omega
    · obtain rfl : k = n := by omega
      go_wp2_with fail
      go_ret
      rw [hin.out]
      exact ⟨rfl, rfl⟩

set_option maxHeartbeats 2000000 in
theorem checkLists_ok (a b : Option Addr) (n ca cb : Nat) (x y : Nat → Int) (w : World) (hx : Is w a n ca x) (hy : Is w b n cb y) (rx : InR x n) (ry : InR y n) (n0 : 0 < n) (n1 : n ≤ 200) :
    Calls Tryd.prog 32 #[.slice a n ca, .slice b n cb] w fun e w' => e = .returned (.int .i64 0) ∧ w = w' := by
  have HX := Lib.hid hx
  have HY := Lib.hid hy
  have HRX := Lib.hid (inrB_true.2 rx)
  have HRY := Lib.hid (inrB_true.2 ry)
  have hz : ((n : Int) == 0) = false := by simp; omega
  clear hx hy rx ry
  go_enter Tryd.func32, Tryd.ntmps32
  go_wp2_with fail
  refine (inRange_any _ _ _ x _ HX.out).mono ?_
  rw [HRX.out]
  rintro e w' ⟨rfl, rfl⟩
  go_wp2_with fail
  refine (inRange_any _ _ _ y _ HY.out).mono ?_
  rw [HRY.out]
  rintro e w' ⟨rfl, rfl⟩
  go_wp2_with fail
  go_ret
  exact ⟨rfl, rfl⟩

set_option maxHeartbeats 4000000 in
theorem covariance_any {N : Nat} (a b : Option Addr) (n ca cb : Nat) (x y : Nat → Int) (w : World) (hN : N ≤ w.heap.size) (hx : Is w a n ca x) (hy : Is w b n cb y) (rx : InM x n) (ry : InM y n) (n1 : n ≤ 200) (p : Rat) (hp : cov x y n = p) :
    Calls Tryd.prog 34 #[.slice a n ca, .slice b n cb] w (RatPost N w p) := by
  obtain ⟨p1, hp1⟩ : ∃ p, ((sumP x y n : Int) : Rat) / ((n : Int) : Rat) = p := ⟨_, rfl⟩
  obtain ⟨p2, hp2⟩ : ∃ p, ((sumZ x n : Int) : Rat) / ((n : Int) : Rat) = p := ⟨_, rfl⟩
  obtain ⟨p3, hp3⟩ : ∃ p, ((sumZ y n : Int) : Rat) / ((n : Int) : Rat) = p := ⟨_, rfl⟩
  obtain ⟨p4, hp4⟩ : ∃ p, p2 * p3 = p := ⟨_, rfl⟩
  have HP := Lib.hid (show p1 - p4 = p by rw [← hp4, ← hp3, ← hp2, ← hp1]; exact hp)
  have HP1 := Lib.hid hp1
  have HP2 := Lib.hid hp2
  have HP3 := Lib.hid hp3
  have HP4 := Lib.hid hp4
  have HX := Lib.hid (hx.alloc (.cells #[.bool false, .slice none 0 0, .slice none 0 0] 28))
  have HY := Lib.hid (hy.alloc (.cells #[.bool false, .slice none 0 0, .slice none 0 0] 28))
  have HRX := Lib.hid rx
  have HRY := Lib.hid ry
  obtain ⟨bp0, bp1⟩ := sumP_bd rx ry n (Nat.le_refl _)
  obtain ⟨bx0, bx1⟩ := sumZ_bd rx n (Nat.le_refl _)
  obtain ⟨by0, by1⟩ := sumZ_bd ry n (Nat.le_refl _)
  have HS1 := Lib.hid (rsz_div (sumP x y n) n p1 hp1 (by omega) (by omega))
  have HS2 := Lib.hid (rsz_div (sumZ x n) n p2 hp2 (by omega) (by omega))
  have HS3 := Lib.hid (rsz_div (sumZ y n) n p3 hp3 (by omega) (by omega))
  have HS4 := Lib.hid (show rsz p4 ≤ 4 by have h1 := rsz_mul p2 p3; have h2 := HS2.out; have h3 := HS3.out; rw [← hp4]; omega)
  clear hx hy rx ry hp hp1 hp2 hp3 hp4
  go_enter Tryd.func34, Tryd.ntmps34
  go_wp2_with fail
  obtain ⟨W, hW, hWs⟩ : ∃ W, w.alloc (.cells #[.bool false, .slice none 0 0, .slice none 0 0] 28) = W ∧ W.heap.size = w.heap.size + 1 := ⟨_, rfl, by simp⟩
  rw [hW] at HX HY
  have HBX := Lib.hid (show Bk W w.heap.size 28 3 by rw [← hW]; exact Bk.new w _ _)
  have HBW := Lib.hid (show Below w.heap.size w W by rw [← hW]; exact bel1 _ _)
  try rw [hW]
  clear hW
  go_loopw [5, 6, 7, 8, 12] (fun sx sy sp _ i wr => ∃ k q : Nat, k ≤ n ∧ i = .int .i64 k ∧ sx = .int .i64 (sumZ x k) ∧ sy = .int .i64 (sumZ y k) ∧ sp = .int .i64 (sumP x y k) ∧ wr = W.drewN q) (fun _ _ _ _ i _ => n - (intOf i).toNat)
  case atStart => exact ⟨0, 0, Nat.zero_le _, rfl, rfl, rfl, rfl, rfl⟩
  case round =>
    obtain ⟨k, q, hk, rfl, rfl, rfl, rfl, rfl⟩ := hrel
    by_cases hkn : k < n
    · obtain ⟨b1, o1, rfl, hc1⟩ := HX.out.2.2 (by omega)
      obtain ⟨b2, o2, rfl, hc2⟩ := HY.out.2.2 (by omega)
      have hcell1 := hc1 k hkn
      have hcell2 := hc2 k hkn
      clear hc1 hc2
      obtain ⟨kx0, kx1⟩ := sumZ_bd HRX.out k hk
      obtain ⟨ky0, ky1⟩ := sumZ_bd HRY.out k hk
      obtain ⟨kp0, kp1⟩ := sumP_bd HRX.out HRY.out k hk
      obtain ⟨vx0, vx1⟩ := HRX.out k hkn
      obtain ⟨vy0, vy1⟩ := HRY.out k hkn
      obtain ⟨m0, m1⟩ := mul_bd vx0 vx1 vy0 vy1
      have w1 : IntKind.i64.wrap (x k * y k) = x k * y k := by rw [IntKind.wrap_i64]; omega
      have w2 : IntKind.i64.wrap (sumP x y k + x k * y k) = sumP x y k + x k * y k := by rw [IntKind.wrap_i64]; omega
      have HE1 := Lib.hid (show sumZ x (k + 1) = sumZ x k + x k from rfl)
      have HE2 := Lib.hid (show sumZ y (k + 1) = sumZ y k + y k from rfl)
      have HE3 := Lib.hid (show sumP x y (k + 1) = sumP x y k + x k * y k from rfl)
      go_wp2_with fail
      go_quiet (fail)
      go_wp2_with fail
      go_roundw
      case rel => exact ⟨k + 1, _, by omega, by go_num, rfl, rfl, rfl, rfl⟩
      case measure => simp [intOf]; omega
    · obtain rfl : k = n := by omega
      have HXb := Lib.hid (HBX.out.below (bel_drewN _ _ q))
      have HBb := Lib.hid (below_drewN HBW.out q)
      have hsq : (W.drewN q).heap.size = w.heap.size + 1 := hWs
      obtain ⟨V, hV⟩ : ∃ V, W.drewN q = V := ⟨_, rfl⟩
      rw [hV] at HXb HBb hsq
      try rw [hV]
      clear hV HX HY HBX HBW
      go_wp2_with fail
      refine (cof_any (N := N) (sumP x y k) k _ (by omega) (by omega) (by omega) (by omega) (by omega) p1 HP1.out).mono ?_
      rintro e wa ⟨ra, ca, ra2, ca2, rfl, hn, hn', hb⟩
      obtain ⟨hcwa, hfwa⟩ := bcell hb
      have hzwa0 : w.heap.size < wa.heap.size := by have := hb.size; (try simp at this); omega
      have HBwa := Lib.hid hb
      have HNwa := Lib.hid hn
      have HN'wa := Lib.hid hn'
      clear hb hn hn'
      go_wp2_with fail
      refine (cof_any (N := N) (sumZ x k) k _ (by omega) (by omega) (by omega) (by omega) (by omega) p2 HP2.out).mono ?_
      rintro e wb ⟨rb, cb, rb2, cb2, rfl, hn, hn', hb⟩
      obtain ⟨hcwb, hfwb⟩ := bcell hb
      have hzwb0 : w.heap.size < wb.heap.size := by have := hb.size; (try simp at this); omega
      have HBwb := Lib.hid hb
      have HNwb := Lib.hid hn
      have HN'wb := Lib.hid hn'
      clear hb hn hn'
      go_wp2_with fail
      refine (cof_any (N := N) (sumZ y k) k _ (by omega) (by omega) (by omega) (by omega) (by omega) p3 HP3.out).mono ?_
      rintro e wc ⟨rc, cc, rc2, cc2, rfl, hn, hn', hb⟩
      obtain ⟨hcwc, hfwc⟩ := bcell hb
      have hzwc0 : w.heap.size < wc.heap.size := by have := hb.size; (try simp at this); omega
      have HBwc := Lib.hid hb
      have HNwc := Lib.hid hn
      have HN'wc := Lib.hid hn'
      clear hb hn hn'
      go_wp2_with fail
      refine (rmul_any (N := N) _ _ _ _ _ _ _ _ _ _ _ _ _ _ 2 2 p2 p3 _ (by omega) (Rt.of_norm (HNwb.out.below HBwc.out) (HN'wb.out.below HBwc.out) 2 HS2.out) (Rt.of_norm HNwc.out HN'wc.out 2 HS3.out) (by omega) (by omega) p4 HP4.out).mono ?_
      rintro e wd ⟨rd, cd, rd2, cd2, rfl, hn, hn', hb⟩
      obtain ⟨hcwd, hfwd⟩ := bcell hb
      have hzwd0 : w.heap.size < wd.heap.size := by have := hb.size; (try simp at this); omega
      have HBwd := Lib.hid hb
      have HNwd := Lib.hid hn
      have HN'wd := Lib.hid hn'
      clear hb hn hn'
      go_wp2_with fail
      refine (rsub_any (N := N) _ _ _ _ _ _ _ _ _ _ _ _ _ _ 2 4 p1 p4 _ (by omega) (Rt.of_norm (((HNwa.out.below HBwb.out).below HBwc.out).below HBwd.out) (((HN'wa.out.below HBwb.out).below HBwc.out).below HBwd.out) 2 HS1.out) (Rt.of_norm HNwd.out HN'wd.out 4 HS4.out) (by omega) (by omega) p HP.out).mono ?_
      rintro e we ⟨rx, cx, rx2, cx2, rfl, hn, hn', hb⟩
      obtain ⟨hcwe, hfwe⟩ := bcell hb
      have hzwe0 : w.heap.size < we.heap.size := by have := hb.size; (try simp at this); omega
      have HBwe := Lib.hid hb
      have HNwe := Lib.hid hn
      have HN'we := Lib.hid hn'
      clear hb hn hn'
      have HXe := Lib.hid (((((HXb.out.below HBwa.out).below HBwb.out).below HBwc.out).below HBwd.out).below HBwe.out)
      obtain ⟨v0, hv0⟩ := HXe.out.cell (o := 0) (by omega)
      obtain ⟨v1, hv1⟩ := HXe.out.cell (o := 1) (by omega)
      obtain ⟨v2, hv2⟩ := HXe.out.cell (o := 2) (by omega)
      have hfr := HXe.out.frozen
      have HF := Lib.hid (fun v0 v1 v2 => fin3 hN (Nat.le_refl _) HXe.out.bx HNwe.out HN'we.out (((((HBb.out.trans (HBwa.out.mono (by omega))).trans (HBwb.out.mono (by omega))).trans (HBwc.out.mono (by omega))).trans (HBwd.out.mono (by omega))).trans (HBwe.out.mono (by omega))) v0 v1 v2)
      clear hcwa hfwa hcwb hfwb hcwc hfwc hcwd hfwd hcwe hfwe
      go_wp2_with fail
      exact bodyPost_ret (v := .agg #[.bool (decide ((p).num < 0)), .slice rx (nlen (p).num.natAbs) cx, .slice rx2 (nlen (p).den) cx2]) (by simp [results, Tryd.results34, go_sem, hv0, hv1, hv2]) rfl ⟨_, _, _, _, rfl, (HF.out _ _ _).1, (HF.out _ _ _).2.1, (HF.out _ _ _).2.2⟩
      

set_option maxHeartbeats 2000000 in
theorem Covariance_ok {N : Nat} (a b : Option Addr) (n ca cb : Nat) (x y : Nat → Int) (w : World) (hN : N ≤ w.heap.size) (hx : Is w a n ca x) (hy : Is w b n cb y) (rx : InR x n) (ry : InR y n) (n0 : 0 < n) (n1 : n ≤ 200) (p : Rat) (hp : cov x y n = p) :
    Calls Tryd.prog 8 #[.slice a n ca, .slice b n cb] w (RatPostC N w p 0) := by
  have HX := Lib.hid (hx.alloc (.cells #[.bool false, .slice none 0 0, .slice none 0 0] 28))
  have HY := Lib.hid (hy.alloc (.cells #[.bool false, .slice none 0 0, .slice none 0 0] 28))
  have HRX := Lib.hid rx
  have HRY := Lib.hid ry
  have HP := Lib.hid hp
  clear hx hy rx ry hp
  go_enter Tryd.func8, Tryd.ntmps8
  go_wp2_with fail
  refine (checkLists_ok _ _ _ _ _ x y _ HX.out HY.out HRX.out HRY.out n0 n1).mono ?_
  rintro e w' ⟨rfl, rfl⟩
  go_wp2_with fail
  refine (covariance_any (N := N) _ _ _ _ _ x y _ (by simp; omega) HX.out HY.out HRX.out.big HRY.out.big n1 p HP.out).mono ?_
  rintro e wa ⟨rx, cx, rx2, cx2, rfl, hn, hn', hb⟩
  obtain ⟨hcwa, hfwa⟩ := bcell hb
  have hzwa0 : w.heap.size < wa.heap.size := by have := hb.size; (try simp at this); omega
  have HBwa := Lib.hid hb
  have HNwa := Lib.hid hn
  have HN'wa := Lib.hid hn'
  clear hb hn hn'
  have HX := Lib.hid ((Bx.new w #[.bool false, .slice none 0 0, .slice none 0 0] 28).below HBwa.out)
  have HF := Lib.hid (fun v0 v1 v2 => fin3 hN (Nat.le_refl _) HX.out HNwa.out HN'wa.out ((bel1 w _).trans (HBwa.out.mono (by first | omega | (simp; done) | (simp; omega)))) v0 v1 v2)
  go_wp2_with fail
  exact bodyPost_ret (v := .tuple #[.agg #[.bool (decide ((p).num < 0)), .slice rx (nlen (p).num.natAbs) cx, .slice rx2 (nlen (p).den) cx2], .int .i64 0]) (by simp [results, Tryd.results8, go_sem, hcwa]) rfl ⟨_, _, _, _, rfl, (HF.out _ _ _).1, (HF.out _ _ _).2.1, (HF.out _ _ _).2.2⟩
  

end Go.Proofs.YtbjgnpgachdlaaaDoor
