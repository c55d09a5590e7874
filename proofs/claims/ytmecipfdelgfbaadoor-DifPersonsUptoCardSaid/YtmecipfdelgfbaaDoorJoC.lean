/- Contracts of combin.Choose, exact.moments, exact.Hyper. Contracts of exact.Hyper. Short lists of natural numbers that a literal makes; the numbers of trials. No condition. Contracts of exact.Trials. -/
import Derived.Test.YtmecipfdelgfbaaDoorAl
import Derived.Test.YtmecipfdelgfbaaDoorJoB
namespace Go.Proofs.YtmecipfdelgfbaaDoor
open Go.RowKit

theorem cinr_any (n : Nat) (w : World) (hn : n ≤ 200) : Calls Tryd.prog 78 #[.int .i64 n] w fun e w' => e = .returned (.bool true) ∧ w = w' := by
  have d0 : decide ((0 : Int) ≤ (n : Int)) = true := by simp
  have d1 : decide ((n : Int) ≤ 200) = true := by simp; omega
  go_enter Tryd.func78, Tryd.ntmps78
  go_wp2_with fail
  go_ret
  exact ⟨rfl, rfl⟩

set_option maxHeartbeats 1000000 in
theorem Choose_any {N : Nat} (n k : Nat) (w : World) (hN : N ≤ w.heap.size) (hn : n ≤ 200) (hk : k ≤ 9223372036854775807) :
    Calls Tryd.prog 64 #[.int .i64 n, .int .i64 k] w fun e w' => ∃ r cr, e = .returned (.tuple #[.slice r (nlen (chs n k)) cr, .bool true]) ∧ Nt N w' r (nlen (chs n k)) cr (chs n k) ∧ Below w.heap.size w w' := by
  go_enter Tryd.func64, Tryd.ntmps64
  go_wp2_with fail
  refine (cinr_any n _ hn).mono ?_
  rintro e w' ⟨rfl, rfl⟩
  go_wp2_with fail
  refine (choose_any (N := N) n k _ hN hn hk).mono ?_
  rintro e wa ⟨r, c, rfl, hn1, hb1⟩
  have HN1 := Lib.hid hn1
  have HB1 := Lib.hid hb1
  clear hn1 hb1
  go_wp2_with fail
  go_ret2
  exact ⟨_, _, rfl, HN1.out, HB1.out⟩

def mo1 (m : Nat → Nat) (i : Nat) : Nat := m i * i
def mo2 (m : Nat → Nat) (i : Nat) : Nat := m i * i * i

end Go.Proofs.YtmecipfdelgfbaaDoor

namespace Go.Proofs.YtmecipfdelgfbaaDoor
open Go.RowKit

theorem Choose_int {N : Nat} (ni ki : Int) (n k : Nat) (e1 : ni = n) (e2 : ki = k) (w : World) (hN : N ≤ w.heap.size) (hn : n ≤ 200) (hk : k ≤ 9223372036854775807) :
    Calls Tryd.prog 64 #[.int .i64 ni, .int .i64 ki] w fun e w' => ∃ r cr, e = .returned (.tuple #[.slice r (nlen (chs n k)) cr, .bool true]) ∧ Nt N w' r (nlen (chs n k)) cr (chs n k) ∧ Below w.heap.size w w' := by
  subst e1; subst e2; exact Choose_any n k w hN hn hk
/-- it returns a new list of rational numbers in normal form, and OK -/
def DistPost (N : Nat) (w : World) (n : Nat) (q : Nat → Rat) (e : Ending) (w' : World) : Prop :=
  ∃ b, e = .returned (.tuple #[.slice (some ⟨b, 0, none⟩) n n, .int .i64 0]) ∧ w.heap.size ≤ b ∧ b < w'.heap.size ∧ Rl N w' b n n q ∧ Below w.heap.size w w'
/-- it returns no list, and an error -/
def ErrPost (w : World) (c : Int) (e : Ending) (w' : World) : Prop :=
  e = .returned (.tuple #[.slice none 0 0, .int .i64 c]) ∧ Below w.heap.size w w'

set_option maxHeartbeats 1000000 in
theorem hyper_no (t m d : Int) (w : World) (hbad : t < 0 ∨ 121 ≤ t ∨ m < 0 ∨ t < m ∨ d < 0 ∨ t < d) :
    Calls Tryd.prog 43 #[.int .i64 t, .int .i64 m, .int .i64 d] w (ErrPost w 3) := by
  by_cases h0 : t < 0
  · have d0 : decide (t < 0) = true := decide_eq_true h0
    clear hbad
    go_enter Tryd.func43, Tryd.ntmps43
    go_wp2_with fail
    go_ret2
    exact ⟨rfl, Below.refl _ _⟩
  · have d0 : decide (t < 0) = false := decide_eq_false h0
    by_cases h1 : 121 ≤ t
    · have d1 : decide (121 ≤ t) = true := decide_eq_true h1
      clear hbad
      go_enter Tryd.func43, Tryd.ntmps43
      go_wp2_with fail
      go_ret2
      exact ⟨rfl, Below.refl _ _⟩
    · have d1 : decide (121 ≤ t) = false := decide_eq_false h1
      by_cases h2 : m < 0
      · have d2 : decide (m < 0) = true := decide_eq_true h2
        clear hbad
        go_enter Tryd.func43, Tryd.ntmps43
        go_wp2_with fail
        go_ret2
        exact ⟨rfl, Below.refl _ _⟩
      · have d2 : decide (m < 0) = false := decide_eq_false h2
        by_cases h3 : t < m
        · have d3 : decide (t < m) = true := decide_eq_true h3
          clear hbad
          go_enter Tryd.func43, Tryd.ntmps43
          go_wp2_with fail
          go_ret2
          exact ⟨rfl, Below.refl _ _⟩
        · have d3 : decide (t < m) = false := decide_eq_false h3
          by_cases h4 : d < 0
          · have d4 : decide (d < 0) = true := decide_eq_true h4
            clear hbad
            go_enter Tryd.func43, Tryd.ntmps43
            go_wp2_with fail
            go_ret2
            exact ⟨rfl, Below.refl _ _⟩
          · have d4 : decide (d < 0) = false := decide_eq_false h4
            have d5 : decide (t < d) = true := decide_eq_true (by omega)
            clear hbad
            go_enter Tryd.func43, Tryd.ntmps43
            go_wp2_with fail
            go_ret2
            exact ⟨rfl, Below.refl _ _⟩

/-- the numbers up to k -/
def hypS (t m d k i : Nat) : Nat := if i < k then hyp t m d i else 0
theorem hypS_new (t m d k : Nat) : hypS t m d (k + 1) k = chs m k * chs (t - m) (d - k) := by unfold hypS hyp; rw [if_pos (by omega)]
theorem hypS_old (t m d k i : Nat) (h : i ≠ k) : hypS t m d k i = hypS t m d (k + 1) i := by
  unfold hypS
  by_cases h1 : i < k
  · rw [if_pos h1, if_pos (by omega)]
  · rw [if_neg h1, if_neg (by omega)]
theorem hypS_end (t m d k i : Nat) (h : i < k) : hypS t m d k i = hyp t m d i := by unfold hypS; rw [if_pos h]

set_option maxHeartbeats 2000000 in
theorem hyper_ok {N : Nat} (t m d n : Nat) (w : World) (hN : N ≤ w.heap.size) (ht : t ≤ 120) (hm : m ≤ t) (hd : d ≤ t) (hn : min m d + 1 = n) (q : Nat → Rat) (hq : ∀ i, i < n → frq (hyp t m d i) (chs t d) = q i) :
    Calls Tryd.prog 43 #[.int .i64 t, .int .i64 m, .int .i64 d] w (DistPost N w n q) := by
  have d0 : decide ((t : Int) < 0) = false := by simp
  have d1 : decide (121 ≤ (t : Int)) = false := by simp; omega
  have d2 : decide ((m : Int) < 0) = false := by simp
  have d3 : decide (t < m) = false := decide_eq_false (by omega)
  have d4 : decide ((d : Int) < 0) = false := by simp
  have d5 : decide (t < d) = false := decide_eq_false (by omega)
  have HQ := Lib.hid hq
  clear hq
  have hmk := make_nats n (by omega)
  obtain ⟨M, hM⟩ : ∃ M : Nat, M + 1 = n := ⟨n - 1, by omega⟩
  have ec : (n : Int) = (M : Int) + 1 := by omega
  have hmin : min (m : Int) (d : Int) = (M : Int) := by omega
  rw [ec] at hmk
  have hnm : n ≤ m + 1 := by omega
  have hnd : n ≤ d + 1 := by omega
  have hMn : M ≤ 120 := by omega
  clear ec hn hM
  go_enter Tryd.func43, Tryd.ntmps43
  go_wp2_with fail
  go_loopw [47] (fun i wr => ∃ k : Nat, k ≤ n ∧ i = .int .i64 k ∧ Nl N wr w.heap.size n (hypS t m d k) 14 ∧ Below w.heap.size w wr ∧ w.heap.size < wr.heap.size) (fun i _ => n - (intOf i).toNat)
  case atStart => exact ⟨0, Nat.zero_le _, rfl, (Nl.made N w _ _).congr (fun i _ => by unfold hypS; simp), bel1 w _, by simp⟩
  case round =>
    obtain ⟨k, hk, rfl, hr, hbel, hsz⟩ := hrel
    have HR := Lib.hid hr
    have HB := Lib.hid hbel
    have hs0 : w.heap.size ≤ wr.heap.size := by omega
    have hN2 : N ≤ wr.heap.size := by omega
    clear hr hbel hmk
    have hN1 := hN
    clear hN
    have hN := hN2
    clear hN2
    by_cases hkn : k < n
    · have hw1 : ((t : Int) - (m : Int)) = ((t - m : Nat) : Int) := by omega
      have hw2 : ((d : Int) - (k : Int)) = ((d - k : Nat) : Int) := by omega
      have HW1 := Lib.hid hw1
      have HW2 := Lib.hid hw2
      clear hw1 hw2
      have l1 := chs_len m k (by omega)
      have l2 := chs_len (t - m) (d - k) (by omega)
      go_wp2_with fail
      refine (Choose_any (N := N) m k _ hN (by omega) (by omega)).mono ?_
      rintro e wa ⟨ra, ca, rfl, hn, hb⟩
      have hs_wa : wr.heap.size ≤ wa.heap.size := hb.size
      replace HR := Lib.hid (HR.out.below hb)
      replace HB := Lib.hid (HB.out.trans (hb.mono hs0))
      replace hN : N ≤ wa.heap.size := Nat.le_trans hN hb.size
      replace hs0 : w.heap.size ≤ wa.heap.size := Nat.le_trans hs0 hb.size
      clear hb
      have HA := Lib.hid hn
      clear hn
      go_wp2_with fail
      refine (Choose_int (N := N) _ _ (t - m) (d - k) HW1.out HW2.out _ hN (by omega) (by omega)).mono ?_
      rintro e wb ⟨rb, cb, rfl, hn, hb⟩
      have hs_wb : wa.heap.size ≤ wb.heap.size := hb.size
      replace HR := Lib.hid (HR.out.below hb)
      replace HA := Lib.hid (HA.out.below hb)
      replace HB := Lib.hid (HB.out.trans (hb.mono hs0))
      replace hN : N ≤ wb.heap.size := Nat.le_trans hN hb.size
      replace hs0 : w.heap.size ≤ wb.heap.size := Nat.le_trans hs0 hb.size
      clear hb
      have HC := Lib.hid hn
      clear hn
      go_wp2_with fail
      refine (mul_any (N := N) _ _ _ _ (chs m k) _ _ (chs (t - m) (d - k)) _ hN HA.out HC.out (by omega) (by omega)).mono ?_
      rintro e wc ⟨rc, cc, rfl, hn, hb⟩
      have hs_wc : wb.heap.size ≤ wc.heap.size := hb.size
      replace HR := Lib.hid (HR.out.below hb)
      replace HA := Lib.hid (HA.out.below hb)
      replace HC := Lib.hid (HC.out.below hb)
      replace HB := Lib.hid (HB.out.trans (hb.mono hs0))
      replace hN : N ≤ wc.heap.size := Nat.le_trans hN hb.size
      replace hs0 : w.heap.size ≤ wc.heap.size := Nat.le_trans hs0 hb.size
      clear hb
      have HM := Lib.hid hn
      clear hn
      have hl3 := nlen_mul (chs m k) (chs (t - m) (d - k))
      obtain ⟨v0, p0⟩ := HR.out.1.cell (o := k) hkn
      have fz := HR.out.1.frozen k
      go_wp2_with fail
      go_roundw
      case rel => exact ⟨k + 1, by omega, by go_num, HR.out.step (m' := hypS t m d (k + 1)) hN1 hkn (by rw [hypS_new]; exact HM.out) (by omega) (fun i _ hi => hypS_old t m d k i hi), HB.out.setCell (Nat.le_refl _) _, by simp [World.setCell]; omega⟩
      case measure => simp [intOf]; omega
    · obtain rfl : k = n := by omega
      go_wp2_with fail
      refine (Choose_any (N := N) t d _ hN (by omega) (by omega)).mono ?_
      rintro e wa ⟨ra, ca, rfl, hn, hb⟩
      have hs_wa : wr.heap.size ≤ wa.heap.size := hb.size
      replace HR := Lib.hid (HR.out.below hb)
      replace HB := Lib.hid (HB.out.trans (hb.mono hs0))
      replace hN : N ≤ wa.heap.size := Nat.le_trans hN hb.size
      replace hs0 : w.heap.size ≤ wa.heap.size := Nat.le_trans hs0 hb.size
      clear hb
      have HA := Lib.hid hn
      clear hn
      have l3 := chs_len t d (by omega)
      go_wp2_with fail
      refine (fractions_any (N := N) _ _ k k (hypS t m d k) 14 _ _ (chs t d) _ hN (HR.out.ns (by unfold maxLen; omega)) HA.out (by omega) (by omega) (by omega) q (fun i hi => by rw [hypS_end t m d k i hi]; exact HQ.out i hi)).mono ?_
      rintro e wb ⟨b, rfl, hb1, hb2, hl, hb⟩
      have HL := Lib.hid hl
      have HB9 := Lib.hid (HB.out.trans (hb.mono (by omega)))
      clear hl hb
      go_wp2_with fail
      go_ret2
      exact ⟨b, rfl, by omega, hb2, HL.out, HB9.out⟩

end Go.Proofs.YtmecipfdelgfbaaDoor

namespace Go.Proofs.YtmecipfdelgfbaaDoor
open Go.RowKit

theorem all_succ {P : Nat → Prop} {k : Nat} (h : ∀ j, j < k → P j) (hk : P k) : ∀ j, j < k + 1 → P j := by
  intro j hj
  rcases Nat.lt_or_ge j k with h1 | h1
  · exact h j h1
  · obtain rfl : j = k := by omega
    exact hk
theorem Nl.mono {N : Nat} {w : World} {b n L L' : Nat} {m : Nat → Nat} (h : Nl N w b n m L) (hL : L ≤ L') : Nl N w b n m L' :=
  ⟨h.1, fun i hi => by obtain ⟨ra, rn, rc, h3, h4, h5⟩ := h.2 i hi; exact ⟨ra, rn, rc, h3, h4, by omega⟩⟩
def twoN (x y i : Nat) : Nat := if i = 0 then x else y
theorem Nl.one {N : Nat} {w : World} {r : Option Addr} {l c x L : Nat} (h : Nt N w r l c x) (hl : l ≤ L) : Nl N (w.alloc (.cells #[.slice r l c] 24)) w.heap.size 1 (fun _ => x) L := by
  refine ⟨Bk.new w #[.slice r l c] 24, fun i hi => ?_⟩
  obtain rfl : i = 0 := by omega
  exact ⟨r, l, c, by go_simp, h.below (bel1 w _), hl⟩
theorem Nl.two {N : Nat} {w : World} {r r2 : Option Addr} {l c x l2 c2 y L : Nat} (h : Nt N w r l c x) (h2 : Nt N w r2 l2 c2 y) (hl : l ≤ L) (hl2 : l2 ≤ L) : Nl N (w.alloc (.cells #[.slice r l c, .slice r2 l2 c2] 24)) w.heap.size 2 (twoN x y) L := by
  refine ⟨Bk.new w #[.slice r l c, .slice r2 l2 c2] 24, fun i hi => ?_⟩
  obtain rfl | rfl : i = 0 ∨ i = 1 := by omega
  · exact ⟨r, l, c, by go_simp, h.below (bel1 w _), hl⟩
  · exact ⟨r2, l2, c2, by go_simp, h2.below (bel1 w _), hl2⟩

/-- the numerators of k trials; s: of a success, f: of a failure -/
def trN (s f : Nat → Nat) : Nat → Nat → Nat
  | 0, _ => 1
  | k + 1, i => cvN (trN s f k) (twoN (f k) (s k)) 2 i (k + 1)
def nuQ (q : Nat → Rat) (i : Nat) : Nat := (q i).num.natAbs
def deQ (q : Nat → Rat) (i : Nat) : Nat := (q i).den
def faQ (q : Nat → Rat) (i : Nat) : Nat := (q i).den - (q i).num.natAbs
/-- the product of the denominators -/
def prN (d : Nat → Nat) : Nat → Nat
  | 0 => 1
  | k + 1 => prN d k * d k
theorem prN_len {d : Nat → Nat} {L : Nat} : ∀ {n : Nat}, (∀ i, i < n → nlen (d i) ≤ L) → nlen (prN d n) ≤ L * n + 1
  | 0, _ => by have := nlen_small (m := 1) (by decide); simp only [prN]; omega
  | n + 1, h => by
    have h1 := prN_len (n := n) (fun i hi => h i (by omega))
    have h2 := h n (by omega)
    have h3 := nlen_mul (prN d n) (d n)
    simp only [prN]; rw [Nat.mul_add]; omega

end Go.Proofs.YtmecipfdelgfbaaDoor

namespace Go.Proofs.YtmecipfdelgfbaaDoor
open Go.RowKit

end Go.Proofs.YtmecipfdelgfbaaDoor
