/- Contracts of combin.Choose, exact.moments, exact.Hyper. Contracts of exact.Hyper. Short lists of natural numbers that a literal makes; the numbers of trials. No condition. Contracts of exact.Trials. -/
import Derived.Test.YtbjgnpgachdlaaaGreatDoorJoB
namespace Go.Proofs.YtbjgnpgachdlaaaGreatDoor
open Go.RowKit

theorem cinr_any (n : Nat) (w : World) (hn : n ≤ 200) : Calls Tryz.prog 80 #[.int .i64 n] w fun e w' => e = .returned (.bool true) ∧ w = w' := by
  have d0 : decide ((0 : Int) ≤ (n : Int)) = true := by simp
  have d1 : decide ((n : Int) ≤ 200) = true := by simp; omega
  go_enter Tryz.func80, Tryz.ntmps80
  go_wp2_with fail
  go_ret
  exact ⟨rfl, rfl⟩

set_option maxHeartbeats 1000000 in
theorem Choose_any {N : Nat} (n k : Nat) (w : World) (hN : N ≤ w.heap.size) (hn : n ≤ 200) (hk : k ≤ 9223372036854775807) :
    Calls Tryz.prog 42 #[.int .i64 n, .int .i64 k] w fun e w' => ∃ r cr, e = .returned (.tuple #[.slice r (nlen (chs n k)) cr, .bool true]) ∧ Nt N w' r (nlen (chs n k)) cr (chs n k) ∧ Below w.heap.size w w' := by
  go_enter Tryz.func42, Tryz.ntmps42
  go_wp2_with fail
  refine (cinr_any n _ hn).mono ?_
  rintro e w' ⟨rfl, rfl⟩
  go_wp2_with fail
  refine (choose_any (N := N) n k _ hN hn hk).mono ?_
  rintro e wa ⟨r, c, rfl, hn1, hb1⟩
  have HN1 := Lib.hid hn1
  have HB1 := Lib.hid hb1
  clear hn1 hb1
  go_wp2_with fail
  go_ret2
  exact ⟨_, _, rfl, HN1.out, HB1.out⟩

def mo1 (m : Nat → Nat) (i : Nat) : Nat := m i * i
def mo2 (m : Nat → Nat) (i : Nat) : Nat := m i * i * i

set_option maxHeartbeats 2000000 in
theorem moments_any {N : Nat} (a : Option Addr) (n cap : Nat) (m : Nat → Nat) (L : Nat) (w : World) (hN : N ≤ w.heap.size) (h : Ns N w a n cap m L) (hL : L ≤ 68719476736) (hn : n ≤ 1000) :
    Calls Tryz.prog 23 #[.slice a n cap] w fun e w' => ∃ r c r2 c2, e = .returned (.tuple #[.slice r (nlen (sN (mo1 m) n)) c, .slice r2 (nlen (sN (mo2 m) n)) c2]) ∧ Nt N w' r (nlen (sN (mo1 m) n)) c (sN (mo1 m) n) ∧ Nt N w' r2 (nlen (sN (mo2 m) n)) c2 (sN (mo2 m) n) ∧ Below w.heap.size w w' := by
  have hlim := Lib.hid h.lim
  have hl1 : Hid (∀ i, i < n → nlen (mo1 m i) ≤ L + 1) := fun i hi => by
    have h1 := nlen_mul (m i) i
    have h2 := nlen_small (m := i) (by omega)
    have h3 := hlim.out i hi
    unfold mo1; omega
  have hl2 : Hid (∀ i, i < n → nlen (mo2 m i) ≤ L + 2) := fun i hi => by
    have h1 := nlen_mul (m i * i) i
    have h2 := nlen_small (m := i) (by omega)
    have h3 := hl1.out i hi
    unfold mo1 at h3
    unfold mo2; omega
  have HA := Lib.hid h
  have bc := h.1
  have bm := h.2.1
  unfold maxLen at bm
  clear h
  go_enter Tryz.func23, Tryz.ntmps23
  go_wp2_with fail
  go_loopw [4, 5, 11] (fun s t i wr => ∃ (k : Nat) (r : Option Addr) (c : Nat) (r2 : Option Addr) (c2 : Nat), k ≤ n ∧ i = .int .i64 k ∧ s = .slice r (nlen (sN (mo1 m) k)) c ∧ Nt N wr r (nlen (sN (mo1 m) k)) c (sN (mo1 m) k) ∧ t = .slice r2 (nlen (sN (mo2 m) k)) c2 ∧ Nt N wr r2 (nlen (sN (mo2 m) k)) c2 (sN (mo2 m) k) ∧ Below w.heap.size w wr ∧ w.heap.size ≤ wr.heap.size) (fun _ _ i _ => n - (intOf i).toNat)
  case atStart => exact ⟨0, none, 0, none, 0, Nat.zero_le _, rfl, by simp only [sN]; rw [nlen_zero], by simp only [sN]; rw [nlen_zero]; exact Nt.zero _ _, by simp only [sN]; rw [nlen_zero], by simp only [sN]; rw [nlen_zero]; exact Nt.zero _ _, Below.refl _ _, Nat.le_refl _⟩
  case round =>
    obtain ⟨k, r, c, r2, c2, hk, rfl, rfl, hs, rfl, ht, hbel, hsz⟩ := hrel
    have HS := Lib.hid hs
    have HT := Lib.hid ht
    have HB := Lib.hid hbel
    clear hs ht hbel
    by_cases hkn : k < n
    · have HA2 := Lib.hid (HA.out.below HB.out)
      obtain ⟨b, off, rfl, hc⟩ := HA2.out.2.2 (by omega)
      obtain ⟨ra, rn, rc, hcell, hnt, hrl⟩ := hc k hkn
      have HNt := Lib.hid hnt
      clear hc hnt
      have l1 : nlen (sN (mo1 m) k) ≤ L + 2 := nlen_sN _ k (L + 1) (fun i hi => hl1.out i (by omega)) (by omega)
      have l2 : nlen (sN (mo2 m) k) ≤ L + 3 := nlen_sN _ k (L + 2) (fun i hi => hl2.out i (by omega)) (by omega)
      have l3 := hl1.out k hkn
      have l4 := hl2.out k hkn
      have l5 := nlen_small (m := k) (by omega)
      go_wp2_with fail
      refine (of_any (N := N) k _ (by omega)).mono ?_
      rintro e wa ⟨x1, y1, rfl, hn1, hb1⟩
      have HN1 := Lib.hid hn1
      have HNt1 := Lib.hid (HNt.out.below hb1)
      have HS1 := Lib.hid (HS.out.below hb1)
      have HT1 := Lib.hid (HT.out.below hb1)
      have HB1 := Lib.hid (HB.out.trans (hb1.mono hsz))
      have hs1 := hb1.size
      clear hn1 hb1 HNt HS HT HB hcell
      go_wp2_with fail
      refine (mul_any (N := N) _ _ _ _ (m k) _ _ k _ (by omega) HNt1.out HN1.out (by omega) (by omega)).mono ?_
      rintro e wb ⟨x2, y2, rfl, hn2, hb2⟩
      have HN2 := Lib.hid (show Nt N wb x2 (nlen (mo1 m k)) y2 (mo1 m k) from hn2)
      have HS2 := Lib.hid (HS1.out.below hb2)
      have HT2 := Lib.hid (HT1.out.below hb2)
      have HB2 := Lib.hid (HB1.out.trans (hb2.mono (by omega)))
      have hs2 := hb2.size
      clear hn2 hb2 HNt1 HS1 HT1 HB1 HN1
      rw [show m k * k = mo1 m k from rfl]
      go_wp2_with fail
      refine (add_any (N := N) _ _ _ _ (sN (mo1 m) k) _ _ (mo1 m k) _ (by omega) HS2.out HN2.out (by omega) (by omega)).mono ?_
      rintro e wc ⟨x3, y3, rfl, hn3, hb3⟩
      have HN3 := Lib.hid hn3
      have HM3 := Lib.hid (HN2.out.below hb3)
      have HT3 := Lib.hid (HT2.out.below hb3)
      have HB3 := Lib.hid (HB2.out.trans (hb3.mono (by omega)))
      have hs3 := hb3.size
      clear hn3 hb3 HS2 HT2 HB2 HN2
      go_wp2_with fail
      refine (of_any (N := N) k _ (by omega)).mono ?_
      rintro e wd ⟨x4, y4, rfl, hn4, hb4⟩
      have HN4 := Lib.hid hn4
      have HS4 := Lib.hid (HN3.out.below hb4)
      have HM4 := Lib.hid (HM3.out.below hb4)
      have HT4 := Lib.hid (HT3.out.below hb4)
      have HB4 := Lib.hid (HB3.out.trans (hb4.mono (by omega)))
      have hs4 := hb4.size
      clear hn4 hb4 HN3 HM3 HT3 HB3
      go_wp2_with fail
      refine (mul_any (N := N) _ _ _ _ (mo1 m k) _ _ k _ (by omega) HM4.out HN4.out (by omega) (by omega)).mono ?_
      rintro e we ⟨x5, y5, rfl, hn5, hb5⟩
      have HN5 := Lib.hid (show Nt N we x5 (nlen (mo2 m k)) y5 (mo2 m k) from hn5)
      have HS5 := Lib.hid (HS4.out.below hb5)
      have HT5 := Lib.hid (HT4.out.below hb5)
      have HB5 := Lib.hid (HB4.out.trans (hb5.mono (by omega)))
      have hs5 := hb5.size
      clear hn5 hb5 HS4 HT4 HB4 HN4 HM4
      rw [show mo1 m k * k = mo2 m k from rfl]
      go_wp2_with fail
      refine (add_any (N := N) _ _ _ _ (sN (mo2 m) k) _ _ (mo2 m k) _ (by omega) HT5.out HN5.out (by omega) (by omega)).mono ?_
      rintro e wf ⟨x6, y6, rfl, hn6, hb6⟩
      have HN6 := Lib.hid hn6
      have HS6 := Lib.hid (HS5.out.below hb6)
      have HB6 := Lib.hid (HB5.out.trans (hb6.mono (by omega)))
      have hs6 := hb6.size
      clear hn6 hb6
      go_wp2_with fail
      go_roundw
      case rel => exact ⟨k + 1, _, _, _, _, by omega, by go_num, rfl, HS6.out, rfl, HN6.out, HB6.out, by omega⟩
      case measure => simp [intOf]; omega
    · obtain rfl : k = n := by omega
      go_wp2_with fail
      go_ret2
      exact ⟨_, _, _, _, rfl, HS.out, HT.out, HB.out⟩

end Go.Proofs.YtbjgnpgachdlaaaGreatDoor

namespace Go.Proofs.YtbjgnpgachdlaaaGreatDoor
open Go.RowKit

theorem Choose_int {N : Nat} (ni ki : Int) (n k : Nat) (e1 : ni = n) (e2 : ki = k) (w : World) (hN : N ≤ w.heap.size) (hn : n ≤ 200) (hk : k ≤ 9223372036854775807) :
    Calls Tryz.prog 42 #[.int .i64 ni, .int .i64 ki] w fun e w' => ∃ r cr, e = .returned (.tuple #[.slice r (nlen (chs n k)) cr, .bool true]) ∧ Nt N w' r (nlen (chs n k)) cr (chs n k) ∧ Below w.heap.size w w' := by
  subst e1; subst e2; exact Choose_any n k w hN hn hk
/-- it returns a new list of rational numbers in normal form, and OK -/
def DistPost (N : Nat) (w : World) (n : Nat) (q : Nat → Rat) (e : Ending) (w' : World) : Prop :=
  ∃ b, e = .returned (.tuple #[.slice (some ⟨b, 0, none⟩) n n, .int .i64 0]) ∧ w.heap.size ≤ b ∧ b < w'.heap.size ∧ Rl N w' b n n q ∧ Below w.heap.size w w'
/-- it returns no list, and an error -/
def ErrPost (w : World) (c : Int) (e : Ending) (w' : World) : Prop :=
  e = .returned (.tuple #[.slice none 0 0, .int .i64 c]) ∧ Below w.heap.size w w'

set_option maxHeartbeats 1000000 in
theorem hyper_no (t m d : Int) (w : World) (hbad : t < 0 ∨ 121 ≤ t ∨ m < 0 ∨ t < m ∨ d < 0 ∨ t < d) :
    Calls Tryz.prog 15 #[.int .i64 t, .int .i64 m, .int .i64 d] w (ErrPost w 3) := by
  by_cases h0 : t < 0
  · have d0 : decide (t < 0) = true := decide_eq_true h0
    clear hbad
    go_enter Tryz.func15, Tryz.ntmps15
    go_wp2_with fail
    go_ret2
    exact ⟨rfl, Below.refl _ _⟩
  · have d0 : decide (t < 0) = false := decide_eq_false h0
    by_cases h1 : 121 ≤ t
    · have d1 : decide (121 ≤ t) = true := decide_eq_true h1
      clear hbad
      go_enter Tryz.func15, Tryz.ntmps15
      go_wp2_with fail
      go_ret2
      exact ⟨rfl, Below.refl _ _⟩
    · have d1 : decide (121 ≤ t) = false := decide_eq_false h1
      by_cases h2 : m < 0
      · have d2 : decide (m < 0) = true := decide_eq_true h2
        clear hbad
        go_enter Tryz.func15, Tryz.ntmps15
        go_wp2_with fail
        go_ret2
        exact ⟨rfl, Below.refl _ _⟩
      · have d2 : decide (m < 0) = false := decide_eq_false h2
        by_cases h3 : t < m
        · have d3 : decide (t < m) = true := decide_eq_true h3
          clear hbad
          go_enter Tryz.func15, Tryz.ntmps15
          go_wp2_with fail
          go_ret2
          exact ⟨rfl, Below.refl _ _⟩
        · have d3 : decide (t < m) = false := decide_eq_false h3
          by_cases h4 : d < 0
          · have d4 : decide (d < 0) = true := decide_eq_true h4
            clear hbad
            go_enter Tryz.func15, Tryz.ntmps15
            go_wp2_with fail
            go_ret2
            exact ⟨rfl, Below.refl _ _⟩
          · have d4 : decide (d < 0) = false := decide_eq_false h4
            have d5 : decide (t < d) = true := decide_eq_true (by omega)
            clear hbad
            go_enter Tryz.func15, Tryz.ntmps15
            go_wp2_with fail
            go_ret2
            exact ⟨rfl, Below.refl _ _⟩

/-- the numbers up to k -/
def hypS (t m d k i : Nat) : Nat := if i < k then hyp t m d i else 0
theorem hypS_new (t m d k : Nat) : hypS t m d (k + 1) k = chs m k * chs (t - m) (d - k) := by unfold hypS hyp; rw [if_pos (by omega)]
theorem hypS_old (t m d k i : Nat) (h : i ≠ k) : hypS t m d k i = hypS t m d (k + 1) i := by
  unfold hypS
  by_cases h1 : i < k
  · rw [if_pos h1, if_pos (by omega)]
  · rw [if_neg h1, if_neg (by omega)]
theorem hypS_end (t m d k i : Nat) (h : i < k) : hypS t m d k i = hyp t m d i := by unfold hypS; rw [if_pos h]

set_option maxHeartbeats 2000000 in
theorem hyper_ok {N : Nat} (t m d n : Nat) (w : World) (hN : N ≤ w.heap.size) (ht : t ≤ 120) (hm : m ≤ t) (hd : d ≤ t) (hn : min m d + 1 = n) (q : Nat → Rat) (hq : ∀ i, i < n → frq (hyp t m d i) (chs t d) = q i) :
    Calls Tryz.prog 15 #[.int .i64 t, .int .i64 m, .int .i64 d] w (DistPost N w n q) := by
  have d0 : decide ((t : Int) < 0) = false := by simp
  have d1 : decide (121 ≤ (t : Int)) = false := by simp; omega
  have d2 : decide ((m : Int) < 0) = false := by simp
  have d3 : decide (t < m) = false := decide_eq_false (by omega)
  have d4 : decide ((d : Int) < 0) = false := by simp
  have d5 : decide (t < d) = false := decide_eq_false (by omega)
  have HQ := Lib.hid hq
  clear hq
  have hmk := make_nats n (by omega)
  obtain ⟨M, hM⟩ : ∃ M : Nat, M + 1 = n := ⟨n - 1, by omega⟩
  have ec : (n : Int) = (M : Int) + 1 := by omega
  have hmin : min (m : Int) (d : Int) = (M : Int) := by omega
  rw [ec] at hmk
  have hnm : n ≤ m + 1 := by omega
  have hnd : n ≤ d + 1 := by omega
  have hMn : M ≤ 120 := by omega
  clear ec hn hM
  go_enter Tryz.func15, Tryz.ntmps15
  go_wp2_with fail
  go_loopw [47] (fun i wr => ∃ k : Nat, k ≤ n ∧ i = .int .i64 k ∧ Nl N wr w.heap.size n (hypS t m d k) 14 ∧ Below w.heap.size w wr ∧ w.heap.size < wr.heap.size) (fun i _ => n - (intOf i).toNat)
  case atStart => exact ⟨0, Nat.zero_le _, rfl, (Nl.made N w _ _).congr (fun i _ => by unfold hypS; simp), bel1 w _, by simp⟩
  case round =>
    obtain ⟨k, hk, rfl, hr, hbel, hsz⟩ := hrel
    have HR := Lib.hid hr
    have HB := Lib.hid hbel
    have hs0 : w.heap.size ≤ wr.heap.size := by omega
    have hN2 : N ≤ wr.heap.size := by omega
    clear hr hbel hmk
    have hN1 := hN
    clear hN
    have hN := hN2
    clear hN2
    by_cases hkn : k < n
    · have hw1 : ((t : Int) - (m : Int)) = ((t - m : Nat) : Int) := by omega
      have hw2 : ((d : Int) - (k : Int)) = ((d - k : Nat) : Int) := by omega
      have HW1 := Lib.hid hw1
      have HW2 := Lib.hid hw2
      clear hw1 hw2
      have l1 := chs_len m k (by omega)
      have l2 := chs_len (t - m) (d - k) (by omega)
      go_wp2_with fail
      refine (Choose_any (N := N) m k _ hN (by omega) (by omega)).mono ?_
      rintro e wa ⟨ra, ca, rfl, hn, hb⟩
      have hs_wa : wr.heap.size ≤ wa.heap.size := hb.size
      replace HR := Lib.hid (HR.out.below hb)
      replace HB := Lib.hid (HB.out.trans (hb.mono hs0))
      replace hN : N ≤ wa.heap.size := Nat.le_trans hN hb.size
      replace hs0 : w.heap.size ≤ wa.heap.size := Nat.le_trans hs0 hb.size
      clear hb
      have HA := Lib.hid hn
      clear hn
      go_wp2_with fail
      refine (Choose_int (N := N) _ _ (t - m) (d - k) HW1.out HW2.out _ hN (by omega) (by omega)).mono ?_
      rintro e wb ⟨rb, cb, rfl, hn, hb⟩
      have hs_wb : wa.heap.size ≤ wb.heap.size := hb.size
      replace HR := Lib.hid (HR.out.below hb)
      replace HA := Lib.hid (HA.out.below hb)
      replace HB := Lib.hid (HB.out.trans (hb.mono hs0))
      replace hN : N ≤ wb.heap.size := Nat.le_trans hN hb.size
      replace hs0 : w.heap.size ≤ wb.heap.size := Nat.le_trans hs0 hb.size
      clear hb
      have HC := Lib.hid hn
      clear hn
      go_wp2_with fail
      refine (mul_any (N := N) _ _ _ _ (chs m k) _ _ (chs (t - m) (d - k)) _ hN HA.out HC.out (by omega) (by omega)).mono ?_
      rintro e wc ⟨rc, cc, rfl, hn, hb⟩
      have hs_wc : wb.heap.size ≤ wc.heap.size := hb.size
      replace HR := Lib.hid (HR.out.below hb)
      replace HA := Lib.hid (HA.out.below hb)
      replace HC := Lib.hid (HC.out.below hb)
      replace HB := Lib.hid (HB.out.trans (hb.mono hs0))
      replace hN : N ≤ wc.heap.size := Nat.le_trans hN hb.size
      replace hs0 : w.heap.size ≤ wc.heap.size := Nat.le_trans hs0 hb.size
      clear hb
      have HM := Lib.hid hn
      clear hn
      have hl3 := nlen_mul (chs m k) (chs (t - m) (d - k))
      obtain ⟨v0, p0⟩ := HR.out.1.cell (o := k) hkn
      have fz := HR.out.1.frozen k
      go_wp2_with fail
      go_roundw
      case rel => exact ⟨k + 1, by omega, by go_num, HR.out.step (m' := hypS t m d (k + 1)) hN1 hkn (by rw [hypS_new]; exact HM.out) (by omega) (fun i _ hi => hypS_old t m d k i hi), HB.out.setCell (Nat.le_refl _) _, by simp [World.setCell]; omega⟩
      case measure => simp [intOf]; omega
    · obtain rfl : k = n := by omega
      go_wp2_with fail
      refine (Choose_any (N := N) t d _ hN (by omega) (by omega)).mono ?_
      rintro e wa ⟨ra, ca, rfl, hn, hb⟩
      have hs_wa : wr.heap.size ≤ wa.heap.size := hb.size
      replace HR := Lib.hid (HR.out.below hb)
      replace HB := Lib.hid (HB.out.trans (hb.mono hs0))
      replace hN : N ≤ wa.heap.size := Nat.le_trans hN hb.size
      replace hs0 : w.heap.size ≤ wa.heap.size := Nat.le_trans hs0 hb.size
      clear hb
      have HA := Lib.hid hn
      clear hn
      have l3 := chs_len t d (by omega)
      go_wp2_with fail
      refine (fractions_any (N := N) _ _ k k (hypS t m d k) 14 _ _ (chs t d) _ hN (HR.out.ns (by unfold maxLen; omega)) HA.out (by omega) (by omega) (by omega) q (fun i hi => by rw [hypS_end t m d k i hi]; exact HQ.out i hi)).mono ?_
      rintro e wb ⟨b, rfl, hb1, hb2, hl, hb⟩
      have HL := Lib.hid hl
      have HB9 := Lib.hid (HB.out.trans (hb.mono (by omega)))
      clear hl hb
      go_wp2_with fail
      go_ret2
      exact ⟨b, rfl, by omega, hb2, HL.out, HB9.out⟩

end Go.Proofs.YtbjgnpgachdlaaaGreatDoor

namespace Go.Proofs.YtbjgnpgachdlaaaGreatDoor
open Go.RowKit

theorem all_succ {P : Nat → Prop} {k : Nat} (h : ∀ j, j < k → P j) (hk : P k) : ∀ j, j < k + 1 → P j := by
  intro j hj
  rcases Nat.lt_or_ge j k with h1 | h1
  · exact h j h1
  · obtain rfl : j = k := by omega
    exact hk
theorem Nl.mono {N : Nat} {w : World} {b n L L' : Nat} {m : Nat → Nat} (h : Nl N w b n m L) (hL : L ≤ L') : Nl N w b n m L' :=
  ⟨h.1, fun i hi => by obtain ⟨ra, rn, rc, h3, h4, h5⟩ := h.2 i hi; exact ⟨ra, rn, rc, h3, h4, by omega⟩⟩
def twoN (x y i : Nat) : Nat := if i = 0 then x else y
theorem Nl.one {N : Nat} {w : World} {r : Option Addr} {l c x L : Nat} (h : Nt N w r l c x) (hl : l ≤ L) : Nl N (w.alloc (.cells #[.slice r l c] 24)) w.heap.size 1 (fun _ => x) L := by
  refine ⟨Bk.new w #[.slice r l c] 24, fun i hi => ?_⟩
  obtain rfl : i = 0 := by omega
  exact ⟨r, l, c, by go_simp, h.below (bel1 w _), hl⟩
theorem Nl.two {N : Nat} {w : World} {r r2 : Option Addr} {l c x l2 c2 y L : Nat} (h : Nt N w r l c x) (h2 : Nt N w r2 l2 c2 y) (hl : l ≤ L) (hl2 : l2 ≤ L) : Nl N (w.alloc (.cells #[.slice r l c, .slice r2 l2 c2] 24)) w.heap.size 2 (twoN x y) L := by
  refine ⟨Bk.new w #[.slice r l c, .slice r2 l2 c2] 24, fun i hi => ?_⟩
  obtain rfl | rfl : i = 0 ∨ i = 1 := by omega
  · exact ⟨r, l, c, by go_simp, h.below (bel1 w _), hl⟩
  · exact ⟨r2, l2, c2, by go_simp, h2.below (bel1 w _), hl2⟩

/-- the numerators of k trials; s: of a success, f: of a failure -/
def trN (s f : Nat → Nat) : Nat → Nat → Nat
  | 0, _ => 1
  | k + 1, i => cvN (trN s f k) (twoN (f k) (s k)) 2 i (k + 1)
def nuQ (q : Nat → Rat) (i : Nat) : Nat := (q i).num.natAbs
def deQ (q : Nat → Rat) (i : Nat) : Nat := (q i).den
def faQ (q : Nat → Rat) (i : Nat) : Nat := (q i).den - (q i).num.natAbs
/-- the product of the denominators -/
def prN (d : Nat → Nat) : Nat → Nat
  | 0 => 1
  | k + 1 => prN d k * d k
theorem prN_len {d : Nat → Nat} {L : Nat} : ∀ {n : Nat}, (∀ i, i < n → nlen (d i) ≤ L) → nlen (prN d n) ≤ L * n + 1
  | 0, _ => by have := nlen_small (m := 1) (by decide); simp only [prN]; omega
  | n + 1, h => by
    have h1 := prN_len (n := n) (fun i hi => h i (by omega))
    have h2 := h n (by omega)
    have h3 := nlen_mul (prN d n) (d n)
    simp only [prN]; rw [Nat.mul_add]; omega

end Go.Proofs.YtbjgnpgachdlaaaGreatDoor

namespace Go.Proofs.YtbjgnpgachdlaaaGreatDoor
open Go.RowKit

set_option maxHeartbeats 2000000 in
theorem trials_bad {N : Nat} (a : Option Addr) (n cap : Nat) (q : Nat → Rat) (L : Nat) (w : World) (hN : N ≤ w.heap.size) (h : Rs N w a n cap q L) (hL : L ≤ 2097152) (hx : ∃ j, j < n ∧ prb (q j) = false) :
    Calls Tryz.prog 18 #[.slice a n cap] w (ErrPost w 1) := by
  have HA := Lib.hid h
  have bc := h.1
  have bm := h.2.1
  unfold maxLen at bm
  clear h
  have hN0 := hN
  have HX := Lib.hid hx
  clear hx
  go_enter Tryz.func18, Tryz.ntmps18
  go_wp2_with fail
  go_loopw [15] (fun i wr => ∃ k : Nat, k ≤ n ∧ i = .int .i64 k ∧ Hid (∀ j, j < k → prb (q j) = true) ∧ Below w.heap.size w wr ∧ w.heap.size ≤ wr.heap.size) (fun i _ => n - (intOf i).toNat)
  case atStart => exact ⟨0, Nat.zero_le _, rfl, (fun j hj => by omega), Below.refl _ _, Nat.le_refl _⟩
  case round =>
    obtain ⟨k, hk, rfl, hin, hbel, hsz⟩ := hrel
    have HB := Lib.hid hbel
    have hs0 : w.heap.size ≤ wr.heap.size := by omega
    have hN2 : N ≤ wr.heap.size := by omega
    clear hbel
    clear hN
    have hN := hN2
    clear hN2
    by_cases hkn : k < n
    · have HA2 := Lib.hid (HA.out.below HB.out)
      obtain ⟨b, off, rfl, hc⟩ := HA2.out.2.2 (by omega)
      obtain ⟨s, ra, rn, rc, da, dn, dc, g0, g1, g2, hrt⟩ := hc k hkn
      have HR := Lib.hid hrt
      clear hc hrt HA2
      rcases Bool.eq_false_or_eq_true (prb (q k)) with hpb | hpb
      · have HPB := Lib.hid hpb
        clear hpb
        go_wp2_with fail
        refine calls_name fun W1 hW => ?_
        have hs_W1 : wr.heap.size ≤ W1.heap.size := by rw [← hW]; (first | omega | (simp; done) | (simp; omega))
        have HK_W1 := Lib.hid (show Kp N wr W1 by rw [← hW]; exact KpA)
        have k_P_0 : W1.cell? ⟨wr.heap.size, 0, none⟩ = some (.bool s) := by rw [← hW]; (first | (go_simp; done) | (simp; done) | (simp [go_sem]; done) | (simp [go_sem]; done))
        have k_P_1 : W1.cell? ⟨wr.heap.size, 1, none⟩ = some (.slice ra rn rc) := by rw [← hW]; (first | (go_simp; done) | (simp; done) | (simp [go_sem]; done) | (simp [go_sem]; done))
        have k_P_2 : W1.cell? ⟨wr.heap.size, 2, none⟩ = some (.slice da dn dc) := by rw [← hW]; (first | (go_simp; done) | (simp; done) | (simp [go_sem]; done) | (simp [go_sem]; done))
        have f_P : ∀ o, W1.frozen? ⟨wr.heap.size, o, none⟩ = false := by intro o; rw [← hW]; (first | (go_simp; done) | (simp; done) | (simp [go_sem]; done) | (simp [go_sem]; done))
        have HX_P := Lib.hid (show Bn W1 (wr.heap.size) by rw [← hW]; exact KpA)
        replace HR := Lib.hid (HR.out.keep HK_W1.out)
        replace HB := Lib.hid (show Below w.heap.size w W1 by rw [← hW]; exact BlA)
        replace hN : N ≤ W1.heap.size := by rw [← hW]; (first | omega | (simp; done) | (simp; omega))
        replace hs0 : w.heap.size ≤ W1.heap.size := by rw [← hW]; (first | omega | (simp; done) | (simp; omega))
        have hl_P : wr.heap.size < W1.heap.size := by rw [← hW]; (first | omega | (simp; done) | (simp; omega))
        clear hW HK_W1
        refine (isProb_any (N := N) _ _ _ _ _ _ _ L (q k) _ hN HR.out (by omega) true HPB.out).mono ?_
        rintro e wa ⟨rfl, hb⟩
        have hs_wa : W1.heap.size ≤ wa.heap.size := hb.size
        replace k_P_0 : wa.cell? ⟨wr.heap.size, 0, none⟩ = some (.bool s) := (hb.cell (p := ⟨wr.heap.size, 0, none⟩) hl_P).trans k_P_0
        replace k_P_1 : wa.cell? ⟨wr.heap.size, 1, none⟩ = some (.slice ra rn rc) := (hb.cell (p := ⟨wr.heap.size, 1, none⟩) hl_P).trans k_P_1
        replace k_P_2 : wa.cell? ⟨wr.heap.size, 2, none⟩ = some (.slice da dn dc) := (hb.cell (p := ⟨wr.heap.size, 2, none⟩) hl_P).trans k_P_2
        replace f_P : ∀ o, wa.frozen? ⟨wr.heap.size, o, none⟩ = false := fun o => (hb.frozen (p := ⟨wr.heap.size, o, none⟩) hl_P).trans (f_P o)
        replace HX_P := Lib.hid (HX_P.out.below hb)
        replace HR := Lib.hid (HR.out.below hb)
        replace HB := Lib.hid (HB.out.trans (hb.mono hs0))
        replace hN : N ≤ wa.heap.size := Nat.le_trans hN hb.size
        replace hs0 : w.heap.size ≤ wa.heap.size := Nat.le_trans hs0 hb.size
        replace hl_P : wr.heap.size < wa.heap.size := Nat.lt_of_lt_of_le hl_P hb.size
        clear hb
        go_wp2_with fail
        go_roundw
        case rel => exact ⟨k + 1, by omega, by go_num, all_succ hin.out HPB.out, HB.out, hs0⟩
        case measure => simp [intOf]; omega
      · have HPB := Lib.hid hpb
        clear hpb
        go_wp2_with fail
        refine calls_name fun W1 hW => ?_
        have hs_W1 : wr.heap.size ≤ W1.heap.size := by rw [← hW]; (first | omega | (simp; done) | (simp; omega))
        have HK_W1 := Lib.hid (show Kp N wr W1 by rw [← hW]; exact KpA)
        have k_P_0 : W1.cell? ⟨wr.heap.size, 0, none⟩ = some (.bool s) := by rw [← hW]; (first | (go_simp; done) | (simp; done) | (simp [go_sem]; done) | (simp [go_sem]; done))
        have k_P_1 : W1.cell? ⟨wr.heap.size, 1, none⟩ = some (.slice ra rn rc) := by rw [← hW]; (first | (go_simp; done) | (simp; done) | (simp [go_sem]; done) | (simp [go_sem]; done))
        have k_P_2 : W1.cell? ⟨wr.heap.size, 2, none⟩ = some (.slice da dn dc) := by rw [← hW]; (first | (go_simp; done) | (simp; done) | (simp [go_sem]; done) | (simp [go_sem]; done))
        have f_P : ∀ o, W1.frozen? ⟨wr.heap.size, o, none⟩ = false := by intro o; rw [← hW]; (first | (go_simp; done) | (simp; done) | (simp [go_sem]; done) | (simp [go_sem]; done))
        have HX_P := Lib.hid (show Bn W1 (wr.heap.size) by rw [← hW]; exact KpA)
        replace HR := Lib.hid (HR.out.keep HK_W1.out)
        replace HB := Lib.hid (show Below w.heap.size w W1 by rw [← hW]; exact BlA)
        replace hN : N ≤ W1.heap.size := by rw [← hW]; (first | omega | (simp; done) | (simp; omega))
        replace hs0 : w.heap.size ≤ W1.heap.size := by rw [← hW]; (first | omega | (simp; done) | (simp; omega))
        have hl_P : wr.heap.size < W1.heap.size := by rw [← hW]; (first | omega | (simp; done) | (simp; omega))
        clear hW HK_W1
        refine (isProb_any (N := N) _ _ _ _ _ _ _ L (q k) _ hN HR.out (by omega) false HPB.out).mono ?_
        rintro e wa ⟨rfl, hb⟩
        have hs_wa : W1.heap.size ≤ wa.heap.size := hb.size
        replace k_P_0 : wa.cell? ⟨wr.heap.size, 0, none⟩ = some (.bool s) := (hb.cell (p := ⟨wr.heap.size, 0, none⟩) hl_P).trans k_P_0
        replace k_P_1 : wa.cell? ⟨wr.heap.size, 1, none⟩ = some (.slice ra rn rc) := (hb.cell (p := ⟨wr.heap.size, 1, none⟩) hl_P).trans k_P_1
        replace k_P_2 : wa.cell? ⟨wr.heap.size, 2, none⟩ = some (.slice da dn dc) := (hb.cell (p := ⟨wr.heap.size, 2, none⟩) hl_P).trans k_P_2
        replace f_P : ∀ o, wa.frozen? ⟨wr.heap.size, o, none⟩ = false := fun o => (hb.frozen (p := ⟨wr.heap.size, o, none⟩) hl_P).trans (f_P o)
        replace HX_P := Lib.hid (HX_P.out.below hb)
        replace HR := Lib.hid (HR.out.below hb)
        replace HB := Lib.hid (HB.out.trans (hb.mono hs0))
        replace hN : N ≤ wa.heap.size := Nat.le_trans hN hb.size
        replace hs0 : w.heap.size ≤ wa.heap.size := Nat.le_trans hs0 hb.size
        replace hl_P : wr.heap.size < wa.heap.size := Nat.lt_of_lt_of_le hl_P hb.size
        clear hb
        go_wp2_with fail
        go_ret2
        exact ⟨rfl, HB.out⟩
    · obtain rfl : k = n := by omega
      obtain ⟨j, hj, hjb⟩ := HX.out
      rw [hin.out j hj] at hjb
      cases hjb

set_option maxHeartbeats 2000000 in
theorem trials_long {N : Nat} (a : Option Addr) (n cap : Nat) (q : Nat → Rat) (L : Nat) (w : World) (hN : N ≤ w.heap.size) (h : Rs N w a n cap q L) (hL : L ≤ 2097152) (hx : ∀ j, j < n → prb (q j) = true) (hn : 121 ≤ n) :
    Calls Tryz.prog 18 #[.slice a n cap] w (ErrPost w 3) := by
  have HA := Lib.hid h
  have bc := h.1
  have bm := h.2.1
  unfold maxLen at bm
  clear h
  have hN0 := hN
  have HX := Lib.hid hx
  clear hx
  go_enter Tryz.func18, Tryz.ntmps18
  go_wp2_with fail
  go_loopw [15] (fun i wr => ∃ k : Nat, k ≤ n ∧ i = .int .i64 k ∧ Hid (∀ j, j < k → prb (q j) = true) ∧ Below w.heap.size w wr ∧ w.heap.size ≤ wr.heap.size) (fun i _ => n - (intOf i).toNat)
  case atStart => exact ⟨0, Nat.zero_le _, rfl, (fun j hj => by omega), Below.refl _ _, Nat.le_refl _⟩
  case round =>
    obtain ⟨k, hk, rfl, hin, hbel, hsz⟩ := hrel
    have HB := Lib.hid hbel
    have hs0 : w.heap.size ≤ wr.heap.size := by omega
    have hN2 : N ≤ wr.heap.size := by omega
    clear hbel
    clear hN
    have hN := hN2
    clear hN2
    by_cases hkn : k < n
    · have HA2 := Lib.hid (HA.out.below HB.out)
      obtain ⟨b, off, rfl, hc⟩ := HA2.out.2.2 (by omega)
      obtain ⟨s, ra, rn, rc, da, dn, dc, g0, g1, g2, hrt⟩ := hc k hkn
      have HR := Lib.hid hrt
      clear hc hrt HA2
      rcases Bool.eq_false_or_eq_true (prb (q k)) with hpb | hpb
      · have HPB := Lib.hid hpb
        clear hpb
        go_wp2_with fail
        refine calls_name fun W1 hW => ?_
        have hs_W1 : wr.heap.size ≤ W1.heap.size := by rw [← hW]; (first | omega | (simp; done) | (simp; omega))
        have HK_W1 := Lib.hid (show Kp N wr W1 by rw [← hW]; exact KpA)
        have k_P_0 : W1.cell? ⟨wr.heap.size, 0, none⟩ = some (.bool s) := by rw [← hW]; (first | (go_simp; done) | (simp; done) | (simp [go_sem]; done) | (simp [go_sem]; done))
        have k_P_1 : W1.cell? ⟨wr.heap.size, 1, none⟩ = some (.slice ra rn rc) := by rw [← hW]; (first | (go_simp; done) | (simp; done) | (simp [go_sem]; done) | (simp [go_sem]; done))
        have k_P_2 : W1.cell? ⟨wr.heap.size, 2, none⟩ = some (.slice da dn dc) := by rw [← hW]; (first | (go_simp; done) | (simp; done) | (simp [go_sem]; done) | (simp [go_sem]; done))
        have f_P : ∀ o, W1.frozen? ⟨wr.heap.size, o, none⟩ = false := by intro o; rw [← hW]; (first | (go_simp; done) | (simp; done) | (simp [go_sem]; done) | (simp [go_sem]; done))
        have HX_P := Lib.hid (show Bn W1 (wr.heap.size) by rw [← hW]; exact KpA)
        replace HR := Lib.hid (HR.out.keep HK_W1.out)
        replace HB := Lib.hid (show Below w.heap.size w W1 by rw [← hW]; exact BlA)
        replace hN : N ≤ W1.heap.size := by rw [← hW]; (first | omega | (simp; done) | (simp; omega))
        replace hs0 : w.heap.size ≤ W1.heap.size := by rw [← hW]; (first | omega | (simp; done) | (simp; omega))
        have hl_P : wr.heap.size < W1.heap.size := by rw [← hW]; (first | omega | (simp; done) | (simp; omega))
        clear hW HK_W1
        refine (isProb_any (N := N) _ _ _ _ _ _ _ L (q k) _ hN HR.out (by omega) true HPB.out).mono ?_
        rintro e wa ⟨rfl, hb⟩
        have hs_wa : W1.heap.size ≤ wa.heap.size := hb.size
        replace k_P_0 : wa.cell? ⟨wr.heap.size, 0, none⟩ = some (.bool s) := (hb.cell (p := ⟨wr.heap.size, 0, none⟩) hl_P).trans k_P_0
        replace k_P_1 : wa.cell? ⟨wr.heap.size, 1, none⟩ = some (.slice ra rn rc) := (hb.cell (p := ⟨wr.heap.size, 1, none⟩) hl_P).trans k_P_1
        replace k_P_2 : wa.cell? ⟨wr.heap.size, 2, none⟩ = some (.slice da dn dc) := (hb.cell (p := ⟨wr.heap.size, 2, none⟩) hl_P).trans k_P_2
        replace f_P : ∀ o, wa.frozen? ⟨wr.heap.size, o, none⟩ = false := fun o => (hb.frozen (p := ⟨wr.heap.size, o, none⟩) hl_P).trans (f_P o)
        replace HX_P := Lib.hid (HX_P.out.below hb)
        replace HR := Lib.hid (HR.out.below hb)
        replace HB := Lib.hid (HB.out.trans (hb.mono hs0))
        replace hN : N ≤ wa.heap.size := Nat.le_trans hN hb.size
        replace hs0 : w.heap.size ≤ wa.heap.size := Nat.le_trans hs0 hb.size
        replace hl_P : wr.heap.size < wa.heap.size := Nat.lt_of_lt_of_le hl_P hb.size
        clear hb
        go_wp2_with fail
        go_roundw
        case rel => exact ⟨k + 1, by omega, by go_num, all_succ hin.out HPB.out, HB.out, hs0⟩
        case measure => simp [intOf]; omega
      · rw [HX.out k hkn] at hpb
        cases hpb
    · obtain rfl : k = n := by omega
      have d1 : decide (121 ≤ (k : Int)) = true := by simp; omega
      go_wp2_with fail
      go_ret2
      exact ⟨rfl, HB.out⟩

set_option maxHeartbeats 8000000 in
theorem trials_ok {N : Nat} (a : Option Addr) (n cap : Nat) (q : Nat → Rat) (L : Nat) (w : World) (hN : N ≤ w.heap.size) (h : Rs N w a n cap q L) (hL : L ≤ 2097152) (hx : ∀ j, j < n → prb (q j) = true) (hn : n ≤ 120) (p : Nat → Rat) (hq : ∀ i, i < n + 1 → frq (trN (nuQ q) (faQ q) n i) (prN (deQ q) n) = p i) :
    Calls Tryz.prog 18 #[.slice a n cap] w (DistPost N w (n + 1) p) := by
  have HDL := Lib.hid (show ∀ i, i < n → nlen (deQ q i) ≤ L from fun i hi => by have := h.lim i hi; unfold rsz at this; unfold deQ; omega)
  have HA := Lib.hid h
  have bc := h.1
  have bm := h.2.1
  unfold maxLen at bm
  clear h
  have hN0 := hN
  have HX := Lib.hid hx
  have HQ := Lib.hid hq
  clear hx hq
  go_enter Tryz.func18, Tryz.ntmps18
  go_wp2_with fail
  go_loopw [15] (fun i wr => ∃ k : Nat, k ≤ n ∧ i = .int .i64 k ∧ Hid (∀ j, j < k → prb (q j) = true) ∧ Below w.heap.size w wr ∧ w.heap.size ≤ wr.heap.size) (fun i _ => n - (intOf i).toNat)
  case atStart => exact ⟨0, Nat.zero_le _, rfl, (fun j hj => by omega), Below.refl _ _, Nat.le_refl _⟩
  case round =>
    obtain ⟨k, hk, rfl, hin, hbel, hsz⟩ := hrel
    have HB := Lib.hid hbel
    have hs0 : w.heap.size ≤ wr.heap.size := by omega
    have hN2 : N ≤ wr.heap.size := by omega
    clear hbel
    clear hN
    have hN := hN2
    clear hN2
    by_cases hkn : k < n
    · have HA2 := Lib.hid (HA.out.below HB.out)
      obtain ⟨b, off, rfl, hc⟩ := HA2.out.2.2 (by omega)
      obtain ⟨s, ra, rn, rc, da, dn, dc, g0, g1, g2, hrt⟩ := hc k hkn
      have HR := Lib.hid hrt
      clear hc hrt HA2
      rcases Bool.eq_false_or_eq_true (prb (q k)) with hpb | hpb
      · have HPB := Lib.hid hpb
        clear hpb
        go_wp2_with fail
        refine calls_name fun W1 hW => ?_
        have hs_W1 : wr.heap.size ≤ W1.heap.size := by rw [← hW]; (first | omega | (simp; done) | (simp; omega))
        have HK_W1 := Lib.hid (show Kp N wr W1 by rw [← hW]; exact KpA)
        have k_P_0 : W1.cell? ⟨wr.heap.size, 0, none⟩ = some (.bool s) := by rw [← hW]; (first | (go_simp; done) | (simp; done) | (simp [go_sem]; done) | (simp [go_sem]; done))
        have k_P_1 : W1.cell? ⟨wr.heap.size, 1, none⟩ = some (.slice ra rn rc) := by rw [← hW]; (first | (go_simp; done) | (simp; done) | (simp [go_sem]; done) | (simp [go_sem]; done))
        have k_P_2 : W1.cell? ⟨wr.heap.size, 2, none⟩ = some (.slice da dn dc) := by rw [← hW]; (first | (go_simp; done) | (simp; done) | (simp [go_sem]; done) | (simp [go_sem]; done))
        have f_P : ∀ o, W1.frozen? ⟨wr.heap.size, o, none⟩ = false := by intro o; rw [← hW]; (first | (go_simp; done) | (simp; done) | (simp [go_sem]; done) | (simp [go_sem]; done))
        have HX_P := Lib.hid (show Bn W1 (wr.heap.size) by rw [← hW]; exact KpA)
        replace HR := Lib.hid (HR.out.keep HK_W1.out)
        replace HB := Lib.hid (show Below w.heap.size w W1 by rw [← hW]; exact BlA)
        replace hN : N ≤ W1.heap.size := by rw [← hW]; (first | omega | (simp; done) | (simp; omega))
        replace hs0 : w.heap.size ≤ W1.heap.size := by rw [← hW]; (first | omega | (simp; done) | (simp; omega))
        have hl_P : wr.heap.size < W1.heap.size := by rw [← hW]; (first | omega | (simp; done) | (simp; omega))
        clear hW HK_W1
        refine (isProb_any (N := N) _ _ _ _ _ _ _ L (q k) _ hN HR.out (by omega) true HPB.out).mono ?_
        rintro e wa ⟨rfl, hb⟩
        have hs_wa : W1.heap.size ≤ wa.heap.size := hb.size
        replace k_P_0 : wa.cell? ⟨wr.heap.size, 0, none⟩ = some (.bool s) := (hb.cell (p := ⟨wr.heap.size, 0, none⟩) hl_P).trans k_P_0
        replace k_P_1 : wa.cell? ⟨wr.heap.size, 1, none⟩ = some (.slice ra rn rc) := (hb.cell (p := ⟨wr.heap.size, 1, none⟩) hl_P).trans k_P_1
        replace k_P_2 : wa.cell? ⟨wr.heap.size, 2, none⟩ = some (.slice da dn dc) := (hb.cell (p := ⟨wr.heap.size, 2, none⟩) hl_P).trans k_P_2
        replace f_P : ∀ o, wa.frozen? ⟨wr.heap.size, o, none⟩ = false := fun o => (hb.frozen (p := ⟨wr.heap.size, o, none⟩) hl_P).trans (f_P o)
        replace HX_P := Lib.hid (HX_P.out.below hb)
        replace HR := Lib.hid (HR.out.below hb)
        replace HB := Lib.hid (HB.out.trans (hb.mono hs0))
        replace hN : N ≤ wa.heap.size := Nat.le_trans hN hb.size
        replace hs0 : w.heap.size ≤ wa.heap.size := Nat.le_trans hs0 hb.size
        replace hl_P : wr.heap.size < wa.heap.size := Nat.lt_of_lt_of_le hl_P hb.size
        clear hb
        go_wp2_with fail
        go_roundw
        case rel => exact ⟨k + 1, by omega, by go_num, all_succ hin.out HPB.out, HB.out, hs0⟩
        case measure => simp [intOf]; omega
      · rw [HX.out k hkn] at hpb
        cases hpb
    · obtain rfl : k = n := by omega
      have d1 : decide (121 ≤ (k : Int)) = false := by simp; omega
      clear hin
      go_wp2_with fail
      refine (of_any (N := N) 1 _ (by decide)).mono ?_
      rintro e wa ⟨ra, ca, rfl, hn, hb⟩
      have hs_wa : wr.heap.size ≤ wa.heap.size := hb.size
      replace HB := Lib.hid (HB.out.trans (hb.mono hs0))
      replace hN : N ≤ wa.heap.size := Nat.le_trans hN hb.size
      replace hs0 : w.heap.size ≤ wa.heap.size := Nat.le_trans hs0 hb.size
      clear hb
      have H1 := Lib.hid hn
      clear hn
      have l1 := nlen_small (m := 1) (by decide)
      have HN1 := Lib.hid (Nl.one (L := 1) H1.out l1)
      go_wp2_with fail
      refine calls_name fun W1 hW => ?_
      have hs_W1 : wa.heap.size ≤ W1.heap.size := by rw [← hW]; (first | omega | (simp; done) | (simp; omega))
      have HK_W1 := Lib.hid (show Kp N wa W1 by rw [← hW]; exact KpA)
      rw [hW] at HN1
      replace H1 := Lib.hid (H1.out.keep HK_W1.out)
      replace HB := Lib.hid (show Below w.heap.size w W1 by rw [← hW]; exact BlA)
      replace hN : N ≤ W1.heap.size := by rw [← hW]; (first | omega | (simp; done) | (simp; omega))
      replace hs0 : w.heap.size ≤ W1.heap.size := by rw [← hW]; (first | omega | (simp; done) | (simp; omega))
      clear hW HK_W1
      refine (of_any (N := N) 1 _ (by decide)).mono ?_
      rintro e wb ⟨rb, cb, rfl, hn, hb⟩
      have hs_wb : W1.heap.size ≤ wb.heap.size := hb.size
      replace H1 := Lib.hid (H1.out.below hb)
      replace HB := Lib.hid (HB.out.trans (hb.mono hs0))
      replace hN : N ≤ wb.heap.size := Nat.le_trans hN hb.size
      replace hs0 : w.heap.size ≤ wb.heap.size := Nat.le_trans hs0 hb.size
      replace HN1 := Lib.hid (HN1.out.below hb)
      clear hb
      have HD1 := Lib.hid hn
      clear hn
      obtain ⟨bl0, hbl0⟩ : ∃ b0, wa.heap.size = b0 := ⟨_, rfl⟩
      rw [hbl0] at HN1
      rw [hbl0]
      clear hbl0
      have hNb := hN
      have HB0 := HB
      have hs00 := hs0
      go_wp2_with fail
      go_loopw [6, 7, 31] (fun v d i wr => ∃ (k2 b0 : Nat) (r : Option Addr) (c : Nat), k2 ≤ k ∧ i = .int .i64 k2 ∧ v = .slice (some ⟨b0, 0, none⟩) (k2 + 1) (k2 + 1) ∧ Nl N wr b0 (k2 + 1) (trN (nuQ q) (faQ q) k2) ((L + 1) * k2 + 1) ∧ d = .slice r (nlen (prN (deQ q) k2)) c ∧ Nt N wr r (nlen (prN (deQ q) k2)) c (prN (deQ q) k2) ∧ Below w.heap.size w wr ∧ w.heap.size ≤ wr.heap.size) (fun _ _ i _ => k - (intOf i).toNat)
      case atStart => exact ⟨0, _, _, _, Nat.zero_le _, rfl, rfl, HN1.out, rfl, HD1.out, HB.out, hs0⟩
      case round =>
        clear HB hs0 HN1 HD1 H1
        obtain ⟨k2, b0, r0, c0, hk2, rfl, rfl, hnl, rfl, hdn, hbel, hsz⟩ := hrel
        have HN1 := Lib.hid hnl
        have HD1 := Lib.hid hdn
        clear hnl hdn
        have HB := Lib.hid hbel
        have hs0 : w.heap.size ≤ wr.heap.size := by omega
        have hN2 : N ≤ wr.heap.size := by omega
        clear hbel
        clear hN
        have hN := hN2
        clear hN2
        have hm1 : (L + 1) * (k2 + 1) = (L + 1) * k2 + (L + 1) := Nat.mul_succ _ _
        have hm2 : (L + 1) * k2 ≤ (L + 1) * 120 := Nat.mul_le_mul_left _ (by omega)
        have hm3 := Nat.mul_comm L k2
        have hdl : nlen (prN (deQ q) k2) ≤ L * k2 + 1 := prN_len (fun i hi => HDL.out i (by omega))
        have hm4 : L * k2 ≤ L * 120 := Nat.mul_le_mul_left _ (by omega)
        clear hm3
        have HM1 := Lib.hid hm1
        clear hm1
        by_cases hkn : k2 < k
        · have HA2 := Lib.hid (HA.out.below HB.out)
          obtain ⟨b, off, rfl, hc⟩ := HA2.out.2.2 (by omega)
          obtain ⟨s, ra, rn, rc, da, dn, dc, g0, g1, g2, hrt⟩ := hc k2 hkn
          have HR := Lib.hid hrt
          clear hc hrt HA2
          have HPB := Lib.hid (HX.out k2 hkn)
          have lq := rsz_of HR.out
          have lq1 : nlen (q k2).num.natAbs ≤ L := by unfold rsz at lq; omega
          have lq2 : nlen (q k2).den ≤ L := by unfold rsz at lq; omega
          have lq3 : nlen ((q k2).den - (q k2).num.natAbs) ≤ L := Nat.le_trans (nlen_mono (Nat.sub_le _ _)) lq2
          clear lq
          go_wp2_with fail
          refine calls_name fun W2 hW => ?_
          have hs_W2 : wr.heap.size ≤ W2.heap.size := by rw [← hW]; (first | omega | (simp; done) | (simp; omega))
          have HK_W2 := Lib.hid (show Kp N wr W2 by rw [← hW]; exact KpA)
          have HL_W2 := Lib.hid (show Below wr.heap.size wr W2 by rw [← hW]; exact BlA)
          have k_P_0 : W2.cell? ⟨wr.heap.size, 0, none⟩ = some (.bool s) := by rw [← hW]; (first | (go_simp; done) | (simp; done) | (simp [go_sem]; done) | (simp [go_sem]; done))
          have k_P_1 : W2.cell? ⟨wr.heap.size, 1, none⟩ = some (.slice ra rn rc) := by rw [← hW]; (first | (go_simp; done) | (simp; done) | (simp [go_sem]; done) | (simp [go_sem]; done))
          have k_P_2 : W2.cell? ⟨wr.heap.size, 2, none⟩ = some (.slice da dn dc) := by rw [← hW]; (first | (go_simp; done) | (simp; done) | (simp [go_sem]; done) | (simp [go_sem]; done))
          have f_P : ∀ o, W2.frozen? ⟨wr.heap.size, o, none⟩ = false := by intro o; rw [← hW]; (first | (go_simp; done) | (simp; done) | (simp [go_sem]; done) | (simp [go_sem]; done))
          have HX_P := Lib.hid (show Bn W2 (wr.heap.size) by rw [← hW]; exact KpA)
          replace HD1 := Lib.hid (HD1.out.keep HK_W2.out)
          replace HR := Lib.hid (HR.out.keep HK_W2.out)
          replace HB := Lib.hid (show Below w.heap.size w W2 by rw [← hW]; exact BlA)
          replace hN : N ≤ W2.heap.size := by rw [← hW]; (first | omega | (simp; done) | (simp; omega))
          replace hs0 : w.heap.size ≤ W2.heap.size := by rw [← hW]; (first | omega | (simp; done) | (simp; omega))
          have hl_P : wr.heap.size < W2.heap.size := by rw [← hW]; (first | omega | (simp; done) | (simp; omega))
          replace HN1 := Lib.hid (HN1.out.below HL_W2.out)
          clear HL_W2
          clear hW HK_W2
          have lt_HN1 := HN1.out.lt
          refine (split_any (N := N) _ _ _ _ _ _ _ L (q k2) _ hN HR.out (by omega) HPB.out).mono ?_
          rintro e wc ⟨rs, cs, rf, cf, rd, cd, rfl, hn, hn', hn'', hb⟩
          have hs_wc : W2.heap.size ≤ wc.heap.size := hb.size
          replace k_P_0 : wc.cell? ⟨wr.heap.size, 0, none⟩ = some (.bool s) := (hb.cell (p := ⟨wr.heap.size, 0, none⟩) hl_P).trans k_P_0
          replace k_P_1 : wc.cell? ⟨wr.heap.size, 1, none⟩ = some (.slice ra rn rc) := (hb.cell (p := ⟨wr.heap.size, 1, none⟩) hl_P).trans k_P_1
          replace k_P_2 : wc.cell? ⟨wr.heap.size, 2, none⟩ = some (.slice da dn dc) := (hb.cell (p := ⟨wr.heap.size, 2, none⟩) hl_P).trans k_P_2
          replace f_P : ∀ o, wc.frozen? ⟨wr.heap.size, o, none⟩ = false := fun o => (hb.frozen (p := ⟨wr.heap.size, o, none⟩) hl_P).trans (f_P o)
          replace HX_P := Lib.hid (HX_P.out.below hb)
          replace HD1 := Lib.hid (HD1.out.below hb)
          replace HR := Lib.hid (HR.out.below hb)
          replace HB := Lib.hid (HB.out.trans (hb.mono hs0))
          replace hN : N ≤ wc.heap.size := Nat.le_trans hN hb.size
          replace hs0 : w.heap.size ≤ wc.heap.size := Nat.le_trans hs0 hb.size
          replace hl_P : wr.heap.size < wc.heap.size := Nat.lt_of_lt_of_le hl_P hb.size
          replace HN1 := Lib.hid (HN1.out.below hb)
          clear hb
          have HS := Lib.hid hn
          clear hn
          have HF := Lib.hid hn'
          clear hn'
          have HD := Lib.hid hn''
          clear hn''
          clear HR
          have HN2 := Lib.hid (Nl.two (L := L) HF.out HS.out lq3 lq1)
          go_wp2_with fail
          refine calls_name fun W3 hW => ?_
          have hs_W3 : wc.heap.size ≤ W3.heap.size := by rw [← hW]; (first | omega | (simp; done) | (simp; omega))
          have HK_W3 := Lib.hid (show Kp N wc W3 by rw [← hW]; exact KpA)
          rw [hW] at HN2
          have HL_W3 := Lib.hid (show Below wc.heap.size wc W3 by rw [← hW]; exact BlA)
          replace k_P_0 : W3.cell? ⟨wr.heap.size, 0, none⟩ = some (.bool s) := by rw [← hW]; (first | with_reducible exact k_P_0 | (simp [go_sem, k_P_0]; done) | (simp [go_sem, k_P_0, hl_P]; done) | (go_simp; done) | (simp [go_sem, k_P_0, k_P_1, k_P_2, f_P, hl_P]; done))
          replace k_P_1 : W3.cell? ⟨wr.heap.size, 1, none⟩ = some (.slice ra rn rc) := by rw [← hW]; (first | with_reducible exact k_P_1 | (simp [go_sem, k_P_1]; done) | (simp [go_sem, k_P_1, hl_P]; done) | (go_simp; done) | (simp [go_sem, k_P_0, k_P_1, k_P_2, f_P, hl_P]; done))
          replace k_P_2 : W3.cell? ⟨wr.heap.size, 2, none⟩ = some (.slice da dn dc) := by rw [← hW]; (first | with_reducible exact k_P_2 | (simp [go_sem, k_P_2]; done) | (simp [go_sem, k_P_2, hl_P]; done) | (go_simp; done) | (simp [go_sem, k_P_0, k_P_1, k_P_2, f_P, hl_P]; done))
          replace f_P : ∀ o, W3.frozen? ⟨wr.heap.size, o, none⟩ = false := by intro o; rw [← hW]; (first | with_reducible exact f_P o | (simp [go_sem, f_P]; done) | (simp [go_sem, f_P, hl_P]; done) | (go_simp; done) | (simp [go_sem, k_P_0, k_P_1, k_P_2, f_P, hl_P]; done))
          replace HX_P := Lib.hid (show Bn W3 (wr.heap.size) by rw [← hW]; exact KpA)
          replace HD1 := Lib.hid (HD1.out.keep HK_W3.out)
          replace HS := Lib.hid (HS.out.keep HK_W3.out)
          replace HF := Lib.hid (HF.out.keep HK_W3.out)
          replace HD := Lib.hid (HD.out.keep HK_W3.out)
          replace HB := Lib.hid (show Below w.heap.size w W3 by rw [← hW]; exact BlA)
          replace hN : N ≤ W3.heap.size := by rw [← hW]; (first | omega | (simp; done) | (simp; omega))
          replace hs0 : w.heap.size ≤ W3.heap.size := by rw [← hW]; (first | omega | (simp; done) | (simp; omega))
          replace hl_P : wr.heap.size < W3.heap.size := by rw [← hW]; (first | omega | (simp; done) | (simp; omega))
          replace HN1 := Lib.hid (HN1.out.below HL_W3.out)
          clear HL_W3
          clear hW HK_W3
          have lt_HN1 := HN1.out.lt
          refine (product_any (N := N) _ _ (k2 + 1) _ 2 _ ((L + 1) * k2 + 1) L (trN (nuQ q) (faQ q) k2) (twoN ((q k2).den - (q k2).num.natAbs) ((q k2).num.natAbs)) _ hN (HN1.out.ns (by unfold maxLen; omega)) (HN2.out.ns (by unfold maxLen; omega)) (by omega) (by omega) (k2 + 2) (by omega) (by omega) (by omega) (by omega) (by omega)).mono ?_
          rintro e wd ⟨bp, rfl, hbp1, hbp2, hl, hb⟩
          have hs_wd : W3.heap.size ≤ wd.heap.size := hb.size
          replace k_P_0 : wd.cell? ⟨wr.heap.size, 0, none⟩ = some (.bool s) := (hb.cell (p := ⟨wr.heap.size, 0, none⟩) hl_P).trans k_P_0
          replace k_P_1 : wd.cell? ⟨wr.heap.size, 1, none⟩ = some (.slice ra rn rc) := (hb.cell (p := ⟨wr.heap.size, 1, none⟩) hl_P).trans k_P_1
          replace k_P_2 : wd.cell? ⟨wr.heap.size, 2, none⟩ = some (.slice da dn dc) := (hb.cell (p := ⟨wr.heap.size, 2, none⟩) hl_P).trans k_P_2
          replace f_P : ∀ o, wd.frozen? ⟨wr.heap.size, o, none⟩ = false := fun o => (hb.frozen (p := ⟨wr.heap.size, o, none⟩) hl_P).trans (f_P o)
          replace HX_P := Lib.hid (HX_P.out.below hb)
          replace HD1 := Lib.hid (HD1.out.below hb)
          replace HS := Lib.hid (HS.out.below hb)
          replace HF := Lib.hid (HF.out.below hb)
          replace HD := Lib.hid (HD.out.below hb)
          replace HB := Lib.hid (HB.out.trans (hb.mono hs0))
          replace hN : N ≤ wd.heap.size := Nat.le_trans hN hb.size
          replace hs0 : w.heap.size ≤ wd.heap.size := Nat.le_trans hs0 hb.size
          replace hl_P : wr.heap.size < wd.heap.size := Nat.lt_of_lt_of_le hl_P hb.size
          replace HN1 := Lib.hid (HN1.out.below hb)
          replace HN2 := Lib.hid (HN2.out.below hb)
          clear hb
          have HN3 := Lib.hid hl
          clear hl
          go_wp2_with fail
          refine (mul_any (N := N) _ _ _ _ (prN (deQ q) k2) _ _ (q k2).den _ hN HD1.out HD.out (by omega) (by omega)).mono ?_
          rintro e we ⟨rm, cm, rfl, hn, hb⟩
          have hs_we : wd.heap.size ≤ we.heap.size := hb.size
          replace k_P_0 : we.cell? ⟨wr.heap.size, 0, none⟩ = some (.bool s) := (hb.cell (p := ⟨wr.heap.size, 0, none⟩) hl_P).trans k_P_0
          replace k_P_1 : we.cell? ⟨wr.heap.size, 1, none⟩ = some (.slice ra rn rc) := (hb.cell (p := ⟨wr.heap.size, 1, none⟩) hl_P).trans k_P_1
          replace k_P_2 : we.cell? ⟨wr.heap.size, 2, none⟩ = some (.slice da dn dc) := (hb.cell (p := ⟨wr.heap.size, 2, none⟩) hl_P).trans k_P_2
          replace f_P : ∀ o, we.frozen? ⟨wr.heap.size, o, none⟩ = false := fun o => (hb.frozen (p := ⟨wr.heap.size, o, none⟩) hl_P).trans (f_P o)
          replace HX_P := Lib.hid (HX_P.out.below hb)
          replace HD1 := Lib.hid (HD1.out.below hb)
          replace HS := Lib.hid (HS.out.below hb)
          replace HF := Lib.hid (HF.out.below hb)
          replace HD := Lib.hid (HD.out.below hb)
          replace HB := Lib.hid (HB.out.trans (hb.mono hs0))
          replace hN : N ≤ we.heap.size := Nat.le_trans hN hb.size
          replace hs0 : w.heap.size ≤ we.heap.size := Nat.le_trans hs0 hb.size
          replace hl_P : wr.heap.size < we.heap.size := Nat.lt_of_lt_of_le hl_P hb.size
          replace HN1 := Lib.hid (HN1.out.below hb)
          replace HN2 := Lib.hid (HN2.out.below hb)
          replace HN3 := Lib.hid (HN3.out.below hb)
          clear hb
          have HD2 := Lib.hid hn
          clear hn
          go_wp2_with fail
          go_roundw
          case rel => exact ⟨k2 + 1, bp, _, _, by omega, by go_num, rfl, HN3.out.mono (by have := HM1.out; omega), rfl, HD2.out, HB.out, hs0⟩
          case measure => simp [intOf]; omega
        · obtain rfl : k2 = k := by omega
          go_wp2_with fail
          refine (fractions_any (N := N) _ _ (k2 + 1) (k2 + 1) (trN (nuQ q) (faQ q) k2) ((L + 1) * k2 + 1) _ _ (prN (deQ q) k2) _ hN (HN1.out.ns (by unfold maxLen; omega)) HD1.out (by omega) (by omega) (by omega) p HQ.out).mono ?_
          rintro e wb2 ⟨bq, rfl, hb1, hb2, hl, hb⟩
          have HL := Lib.hid hl
          have HB9 := Lib.hid (HB.out.trans (hb.mono (by omega)))
          clear hl hb
          go_wp2_with fail
          go_ret2
          exact ⟨bq, rfl, by omega, hb2, HL.out, HB9.out⟩

end Go.Proofs.YtbjgnpgachdlaaaGreatDoor
