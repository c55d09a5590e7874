/- Contracts of exact.Binomial. Contract of exact.numerators. -/
import Derived.Test.YtmecipfdelgfbaaDoorAl
import Derived.Test.YtmecipfdelgfbaaDoorJoC
namespace Go.Proofs.YtmecipfdelgfbaaDoor
open Go.RowKit

/-- the numerators of the binomial distribution; s: of a success, f: of a failure -/
def binN (s f n k : Nat) : Nat := chs n k * (s ^ k * f ^ (n - k))
def binS (s f n k i : Nat) : Nat := if i < k then binN s f n i else 0
theorem binS_new (s f n k : Nat) : binS s f n (k + 1) k = chs n k * (s ^ k * f ^ (n - k)) := by unfold binS binN; rw [if_pos (by omega)]
theorem binS_old (s f n k i : Nat) (h : i ≠ k) : binS s f n k i = binS s f n (k + 1) i := by
  unfold binS
  by_cases h1 : i < k
  · rw [if_pos h1, if_pos (by omega)]
  · rw [if_neg h1, if_neg (by omega)]
theorem binS_end (s f n k i : Nat) (h : i < k) : binS s f n k i = binN s f n i := by unfold binS; rw [if_pos h]

def nuQ1 (q : Rat) : Nat := q.num.natAbs
def faQ1 (q : Rat) : Nat := q.den - q.num.natAbs

end Go.Proofs.YtmecipfdelgfbaaDoor

namespace Go.Proofs.YtmecipfdelgfbaaDoor
open Go.RowKit

/-- the least common multiple of the first k denominators -/
def lcN (d : Nat → Nat) : Nat → Nat
  | 0 => 1
  | k + 1 => lcN d k * (d k / Nat.gcd (lcN d k) (d k))
theorem lcN_len {d : Nat → Nat} {L : Nat} : ∀ {n : Nat}, (∀ i, i < n → nlen (d i) ≤ L) → nlen (lcN d n) ≤ L * n + 1
  | 0, _ => by have := nlen_small (m := 1) (by decide); simp only [lcN]; omega
  | n + 1, h => by
    have h1 := lcN_len (n := n) (fun i hi => h i (by omega))
    have h2 := h n (by omega)
    have h3 := nlen_mul (lcN d n) (d n / Nat.gcd (lcN d n) (d n))
    have h4 := nlen_mono (Nat.div_le_self (d n) (Nat.gcd (lcN d n) (d n)))
    simp only [lcN]; rw [Nat.mul_add]; omega
theorem lcN_pos {d : Nat → Nat} : ∀ {n : Nat}, (∀ i, i < n → 0 < d i) → 0 < lcN d n
  | 0, _ => by simp [lcN]
  | n + 1, h => by
    have h1 := lcN_pos (n := n) (fun i hi => h i (by omega))
    have h2 := h n (by omega)
    simp only [lcN]
    refine Nat.mul_pos h1 (Nat.div_pos ?_ ?_)
    · exact Nat.le_of_dvd h2 (Nat.gcd_dvd_right _ _)
    · exact Nat.gcd_pos_of_pos_right _ h2
theorem lcN_dvd {d : Nat → Nat} : ∀ {n : Nat} (i : Nat), i < n → d i ∣ lcN d n
  | 0, i, h => by omega
  | n + 1, i, h => by
    simp only [lcN]
    rcases Nat.lt_or_ge i n with h1 | h1
    · exact Nat.dvd_trans (lcN_dvd i h1) (Nat.dvd_mul_right _ _)
    · obtain rfl : i = n := by omega
      obtain ⟨c, hc⟩ := Nat.gcd_dvd_left (lcN d i) (d i)
      obtain ⟨e, he⟩ := Nat.gcd_dvd_right (lcN d i) (d i)
      rcases Nat.eq_zero_or_pos (Nat.gcd (lcN d i) (d i)) with h0 | h0
      · rw [h0] at hc; rw [hc]; simp
      · have h2 : d i / Nat.gcd (lcN d i) (d i) = e := by
          apply Nat.div_eq_of_eq_mul_left h0; rw [Nat.mul_comm]; exact he
        rw [h2]
        refine ⟨c, ?_⟩
        rw [he, hc] 
        grind
/-- the numerators over the common denominator -/
def nmN (q : Nat → Rat) (n i : Nat) : Nat := nuQ q i * (lcN (deQ q) n / deQ q i)
def nmS (q : Nat → Rat) (n k i : Nat) : Nat := if i < k then nmN q n i else 0
theorem nmS_new (q : Nat → Rat) (n k : Nat) : nmS q n (k + 1) k = (q k).num.natAbs * (lcN (deQ q) n / (q k).den) := by unfold nmS nmN; rw [if_pos (by omega)]; rfl
theorem nmS_old (q : Nat → Rat) (n k i : Nat) (h : i ≠ k) : nmS q n k i = nmS q n (k + 1) i := by
  unfold nmS
  by_cases h1 : i < k
  · rw [if_pos h1, if_pos (by omega)]
  · rw [if_neg h1, if_neg (by omega)]
theorem dec_neg {x : Int} (h : decide (0 ≤ x) = false) : decide (x < 0) = true := by simp at h ⊢; omega
theorem dec_pos {x : Int} (h : decide (0 ≤ x) = true) : decide (x < 0) = false := by simp at h ⊢; omega
theorem sgn_lt2 (q : Rat) (h : q < 0) : decide (q.num.sign < 0) = true := dec_neg (sgn_lt q h)
theorem sgn_ge2 (q : Rat) (h : 0 ≤ q) : decide (q.num.sign < 0) = false := dec_pos (sgn_ge q h)
theorem cmpN_beq (a b : Nat) : (cmpN a b == 0) = decide (a = b) := by
  unfold cmpN
  by_cases h1 : a < b
  · rw [if_pos h1, decide_eq_false (by omega)]; rfl
  · rw [if_neg h1]
    by_cases h2 : b < a
    · rw [if_pos h2, decide_eq_false (by omega)]; rfl
    · rw [if_neg h2, decide_eq_true (by omega)]; rfl
/-- it returns something, and false -/
def NoPost (w : World) (e : Ending) (w' : World) : Prop := ∃ v1 v2, e = .returned (.tuple #[v1, v2, .bool false]) ∧ Below w.heap.size w w'
/-- it returns the numerators, their denominator, and whether they sum up to it -/
def NumPost (N : Nat) (w : World) (n : Nat) (q : Nat → Rat) (L : Nat) (ok : Bool) (e : Ending) (w' : World) : Prop :=
  ∃ b r c, e = .returned (.tuple #[.slice (some ⟨b, 0, none⟩) n n, .slice r (nlen (lcN (deQ q) n)) c, .bool ok]) ∧ w.heap.size ≤ b ∧ b < w'.heap.size ∧ Nl N w' b n (nmN q n) (L * 123 + 2) ∧ Nt N w' r (nlen (lcN (deQ q) n)) c (lcN (deQ q) n) ∧ Below w.heap.size w w'

set_option maxHeartbeats 1000000 in
theorem num_len (a : Option Addr) (n cap : Nat) (w : World) (hc : n ≤ cap ∧ cap ≤ maxLen) (hn : n < 1 ∨ 121 < n) : Calls Tryd.prog 47 #[.slice a n cap] w (NoPost w) := by
  obtain ⟨bc, bm⟩ := hc
  unfold maxLen at bm
  by_cases h1 : n < 1
  · have d0 : decide ((n : Int) < 1) = true := by simp; omega
    have d00 : decide (n < 1) = true := by simp; omega
    clear hn
    go_enter Tryd.func47, Tryd.ntmps47
    go_wp2_with fail
    go_ret3
    exact ⟨_, _, rfl, Below.refl _ _⟩
  · have d0 : decide ((n : Int) < 1) = false := by simp; omega
    have d1 : decide (121 < (n : Int)) = true := by simp; omega
    clear hn
    go_enter Tryd.func47, Tryd.ntmps47
    go_wp2_with fail
    go_ret3
    exact ⟨_, _, rfl, Below.refl _ _⟩

theorem Rat.lt_or_ge (a b : Rat) : a < b ∨ b ≤ a := by grind

set_option maxHeartbeats 8000000 in
theorem num_neg {N : Nat} (a : Option Addr) (n cap : Nat) (q : Nat → Rat) (L : Nat) (w : World) (hN : N ≤ w.heap.size) (h : Rs N w a n cap q L) (hL : L ≤ 2097152) (n0 : 0 < n) (hn : n ≤ 121) (hx : ∃ j, j < n ∧ q j < 0) : Calls Tryd.prog 47 #[.slice a n cap] w (NoPost w) := by
  have HX := Lib.hid hx
  clear hx
  have hdl := Lib.hid (show ∀ i, i < n → nlen (deQ q i) ≤ L from fun i hi => by have := h.lim i hi; unfold rsz at this; unfold deQ; omega)
  have hnl := Lib.hid (show ∀ i, i < n → nlen (nuQ q i) ≤ L from fun i hi => by have := h.lim i hi; unfold rsz at this; unfold nuQ; omega)
  have HA := Lib.hid h
  have bc := h.1
  have bm := h.2.1
  unfold maxLen at bm
  obtain ⟨ba, oa, rfl, _⟩ := h.2.2 (by omega)
  clear h
  have hN0 := hN
  have d0 : decide ((n : Int) < 1) = false := by simp; omega
  have d1 : decide (121 < (n : Int)) = false := by simp; omega
  have hmk := make_rats n (by omega)
  have hmk2 := make_nats n (by omega)
  have HB := Lib.hid (Below.refl w.heap.size w)
  go_enter Tryd.func47, Tryd.ntmps47
  go_wp2_with fail
  have HRL := Lib.hid (Rl.made N w n q)
  refine calls_name fun W0 hW => ?_
  have hs_W0 : w.heap.size ≤ W0.heap.size := by rw [← hW]; exact OmT
  rw [hW] at HRL
  replace HB := Lib.hid (show Below w.heap.size w W0 by rw [← hW]; exact BlA)
  replace hN : N ≤ W0.heap.size := by rw [← hW]; exact OmT
  have hs0 : w.heap.size ≤ W0.heap.size := by rw [← hW]; exact OmT
  clear hW
  refine (of_any (N := N) 1 _ (by decide)).mono ?_
  rintro e wa ⟨ra, ca, rfl, hn, hb⟩
  have hs_wa : W0.heap.size ≤ wa.heap.size := hb.size
  replace HB := Lib.hid (HB.out.trans (hb.mono hs0))
  replace hN : N ≤ wa.heap.size := Nat.le_trans hN hb.size
  replace hs0 : w.heap.size ≤ wa.heap.size := Nat.le_trans hs0 hb.size
  replace HRL := Lib.hid (HRL.out.below hb)
  clear hb
  have HD1 := Lib.hid hn
  clear hn
  have hlt0 : w.heap.size < wa.heap.size := HRL.out.lt
  go_wp2_with fail
  go_loopw [6, 32] (fun dv i wr => ∃ (k : Nat) (r : Option Addr) (c : Nat), k ≤ n ∧ i = .int .i64 k ∧ dv = .slice r (nlen (lcN (deQ q) k)) c ∧ Nt N wr r (nlen (lcN (deQ q) k)) c (lcN (deQ q) k) ∧ Rl N wr w.heap.size n k q ∧ Hid (∀ j, j < k → 0 ≤ q j) ∧ Below w.heap.size w wr ∧ w.heap.size < wr.heap.size) (fun _ i _ => n - (intOf i).toNat)
  case atStart => exact ⟨0, _, _, Nat.zero_le _, rfl, rfl, HD1.out, HRL.out, (fun j hj => by omega), HB.out, hlt0⟩
  case round =>
    clear HB HRL HD1 hs0
    obtain ⟨k, r0, c0, hk, rfl, rfl, hd1, hrl, hin, hbel, hsz⟩ := hrel
    have HD1 := Lib.hid hd1
    have HRL := Lib.hid hrl
    clear hd1 hrl
    have HB := Lib.hid hbel
    have hs0 : w.heap.size ≤ wr.heap.size := by omega
    have hN2 : N ≤ wr.heap.size := by omega
    clear hbel
    clear hN
    have hN := hN2
    clear hN2
    by_cases hkn : k < n
    · have HA2 := Lib.hid (HA.out.below HB.out)
      obtain ⟨s, ra, rn, rc, da, dn, dc, g0, g1, g2, hrt⟩ := HA2.out.at hkn
      have HR := Lib.hid hrt
      clear hrt HA2
      rcases Rat.lt_or_ge (q k) 0 with hneg | hneg
      · obtain ⟨σ, hσ⟩ : ∃ σ, (q k).num.sign = σ := ⟨_, rfl⟩
        have dσ : decide (σ < 0) = true := by rw [← hσ]; exact sgn_lt2 _ hneg
        have HSG := Lib.hid hσ
        clear hσ
        go_wp2_with fail
        refine calls_name fun W1 hW => ?_
        have hs_W1 : wr.heap.size ≤ W1.heap.size := by rw [← hW]; exact OmT
        have HK_W1 := Lib.hid (show Kp N wr W1 by rw [← hW]; exact KpA)
        have HL_W1 := Lib.hid (show Below wr.heap.size wr W1 by rw [← hW]; exact BlA)
        have k_P_0 : W1.cell? ⟨wr.heap.size, 0, none⟩ = some (.bool s) := by rw [← hW]; exact CeA
        have k_P_1 : W1.cell? ⟨wr.heap.size, 1, none⟩ = some (.slice ra rn rc) := by rw [← hW]; exact CeA
        have k_P_2 : W1.cell? ⟨wr.heap.size, 2, none⟩ = some (.slice da dn dc) := by rw [← hW]; exact CeA
        have f_P : ∀ o, W1.frozen? ⟨wr.heap.size, o, none⟩ = false := by intro o; rw [← hW]; exact CeA
        have HX_P := Lib.hid (show Bn W1 (wr.heap.size) by rw [← hW]; exact KpA)
        replace HD1 := Lib.hid (HD1.out.keep HK_W1.out)
        replace HR := Lib.hid (HR.out.keep HK_W1.out)
        replace HB := Lib.hid (show Below w.heap.size w W1 by rw [← hW]; exact BlA)
        replace hN : N ≤ W1.heap.size := by rw [← hW]; exact OmT
        replace hs0 : w.heap.size ≤ W1.heap.size := by rw [← hW]; exact OmT
        have hl_P : wr.heap.size < W1.heap.size := by rw [← hW]; exact OmT
        replace HRL := Lib.hid (HRL.out.below HL_W1.out)
        clear HL_W1
        clear hW HK_W1
        have lt_HRL := HRL.out.lt
        refine (rsign_any (N := N) _ _ _ _ _ _ _ L (q k) _ hN HR.out).mono ?_
        rw [HSG.out]
        rintro e wb ⟨rfl, hb⟩
        have hs_wb : W1.heap.size ≤ wb.heap.size := hb.size
        replace k_P_0 : wb.cell? ⟨wr.heap.size, 0, none⟩ = some (.bool s) := (hb.cell (p := ⟨wr.heap.size, 0, none⟩) hl_P).trans k_P_0
        replace k_P_1 : wb.cell? ⟨wr.heap.size, 1, none⟩ = some (.slice ra rn rc) := (hb.cell (p := ⟨wr.heap.size, 1, none⟩) hl_P).trans k_P_1
        replace k_P_2 : wb.cell? ⟨wr.heap.size, 2, none⟩ = some (.slice da dn dc) := (hb.cell (p := ⟨wr.heap.size, 2, none⟩) hl_P).trans k_P_2
        replace f_P : ∀ o, wb.frozen? ⟨wr.heap.size, o, none⟩ = false := fun o => (hb.frozen (p := ⟨wr.heap.size, o, none⟩) hl_P).trans (f_P o)
        replace HX_P := Lib.hid (HX_P.out.below hb)
        replace HD1 := Lib.hid (HD1.out.below hb)
        replace HR := Lib.hid (HR.out.below hb)
        replace HB := Lib.hid (HB.out.trans (hb.mono hs0))
        replace hN : N ≤ wb.heap.size := Nat.le_trans hN hb.size
        replace hs0 : w.heap.size ≤ wb.heap.size := Nat.le_trans hs0 hb.size
        replace hl_P : wr.heap.size < wb.heap.size := Nat.lt_of_lt_of_le hl_P hb.size
        replace HRL := Lib.hid (HRL.out.below hb)
        clear hb
        go_wp2_with fail
        go_ret3
        exact ⟨_, _, rfl, HB.out⟩
      · obtain ⟨σ, hσ⟩ : ∃ σ, (q k).num.sign = σ := ⟨_, rfl⟩
        have dσ : decide (σ < 0) = false := by rw [← hσ]; exact sgn_ge2 _ hneg
        have HSG := Lib.hid hσ
        clear hσ
        go_wp2_with fail
        refine calls_name fun W1 hW => ?_
        have hs_W1 : wr.heap.size ≤ W1.heap.size := by rw [← hW]; exact OmT
        have HK_W1 := Lib.hid (show Kp N wr W1 by rw [← hW]; exact KpA)
        have HL_W1 := Lib.hid (show Below wr.heap.size wr W1 by rw [← hW]; exact BlA)
        have k_P_0 : W1.cell? ⟨wr.heap.size, 0, none⟩ = some (.bool s) := by rw [← hW]; exact CeA
        have k_P_1 : W1.cell? ⟨wr.heap.size, 1, none⟩ = some (.slice ra rn rc) := by rw [← hW]; exact CeA
        have k_P_2 : W1.cell? ⟨wr.heap.size, 2, none⟩ = some (.slice da dn dc) := by rw [← hW]; exact CeA
        have f_P : ∀ o, W1.frozen? ⟨wr.heap.size, o, none⟩ = false := by intro o; rw [← hW]; exact CeA
        have HX_P := Lib.hid (show Bn W1 (wr.heap.size) by rw [← hW]; exact KpA)
        replace HD1 := Lib.hid (HD1.out.keep HK_W1.out)
        replace HR := Lib.hid (HR.out.keep HK_W1.out)
        replace HB := Lib.hid (show Below w.heap.size w W1 by rw [← hW]; exact BlA)
        replace hN : N ≤ W1.heap.size := by rw [← hW]; exact OmT
        replace hs0 : w.heap.size ≤ W1.heap.size := by rw [← hW]; exact OmT
        have hl_P : wr.heap.size < W1.heap.size := by rw [← hW]; exact OmT
        replace HRL := Lib.hid (HRL.out.below HL_W1.out)
        clear HL_W1
        clear hW HK_W1
        have lt_HRL := HRL.out.lt
        refine (rsign_any (N := N) _ _ _ _ _ _ _ L (q k) _ hN HR.out).mono ?_
        rw [HSG.out]
        rintro e wb ⟨rfl, hb⟩
        have hs_wb : W1.heap.size ≤ wb.heap.size := hb.size
        replace k_P_0 : wb.cell? ⟨wr.heap.size, 0, none⟩ = some (.bool s) := (hb.cell (p := ⟨wr.heap.size, 0, none⟩) hl_P).trans k_P_0
        replace k_P_1 : wb.cell? ⟨wr.heap.size, 1, none⟩ = some (.slice ra rn rc) := (hb.cell (p := ⟨wr.heap.size, 1, none⟩) hl_P).trans k_P_1
        replace k_P_2 : wb.cell? ⟨wr.heap.size, 2, none⟩ = some (.slice da dn dc) := (hb.cell (p := ⟨wr.heap.size, 2, none⟩) hl_P).trans k_P_2
        replace f_P : ∀ o, wb.frozen? ⟨wr.heap.size, o, none⟩ = false := fun o => (hb.frozen (p := ⟨wr.heap.size, o, none⟩) hl_P).trans (f_P o)
        replace HX_P := Lib.hid (HX_P.out.below hb)
        replace HD1 := Lib.hid (HD1.out.below hb)
        replace HR := Lib.hid (HR.out.below hb)
        replace HB := Lib.hid (HB.out.trans (hb.mono hs0))
        replace hN : N ≤ wb.heap.size := Nat.le_trans hN hb.size
        replace hs0 : w.heap.size ≤ wb.heap.size := Nat.le_trans hs0 hb.size
        replace hl_P : wr.heap.size < wb.heap.size := Nat.lt_of_lt_of_le hl_P hb.size
        replace HRL := Lib.hid (HRL.out.below hb)
        clear hb
        go_wp2_with fail
        refine calls_name fun W2 hW => ?_
        have hs_W2 : wb.heap.size ≤ W2.heap.size := by rw [← hW]; exact OmT
        have HK_W2 := Lib.hid (show Kp N wb W2 by rw [← hW]; exact KpA)
        have HL_W2 := Lib.hid (show Below wb.heap.size wb W2 by rw [← hW]; exact BlA)
        replace k_P_0 : W2.cell? ⟨wr.heap.size, 0, none⟩ = some (.bool s) := by rw [← hW]; (first | with_reducible exact k_P_0 | (simp [go_sem, k_P_0]; done) | (simp [go_sem, k_P_0, hl_P]; done) | (go_simp; done) | (simp [go_sem, k_P_0, k_P_1, k_P_2, f_P, hl_P]; done))
        replace k_P_1 : W2.cell? ⟨wr.heap.size, 1, none⟩ = some (.slice ra rn rc) := by rw [← hW]; (first | with_reducible exact k_P_1 | (simp [go_sem, k_P_1]; done) | (simp [go_sem, k_P_1, hl_P]; done) | (go_simp; done) | (simp [go_sem, k_P_0, k_P_1, k_P_2, f_P, hl_P]; done))
        replace k_P_2 : W2.cell? ⟨wr.heap.size, 2, none⟩ = some (.slice da dn dc) := by rw [← hW]; (first | with_reducible exact k_P_2 | (simp [go_sem, k_P_2]; done) | (simp [go_sem, k_P_2, hl_P]; done) | (go_simp; done) | (simp [go_sem, k_P_0, k_P_1, k_P_2, f_P, hl_P]; done))
        replace f_P : ∀ o, W2.frozen? ⟨wr.heap.size, o, none⟩ = false := by intro o; rw [← hW]; (first | with_reducible exact f_P o | (simp [go_sem, f_P]; done) | (simp [go_sem, f_P, hl_P]; done) | (go_simp; done) | (simp [go_sem, k_P_0, k_P_1, k_P_2, f_P, hl_P]; done))
        replace HX_P := Lib.hid (show Bn W2 (wr.heap.size) by rw [← hW]; exact KpA)
        replace HD1 := Lib.hid (HD1.out.keep HK_W2.out)
        replace HR := Lib.hid (HR.out.keep HK_W2.out)
        replace HB := Lib.hid (show Below w.heap.size w W2 by rw [← hW]; exact BlA)
        replace hN : N ≤ W2.heap.size := by rw [← hW]; exact OmT
        replace hs0 : w.heap.size ≤ W2.heap.size := by rw [← hW]; exact OmT
        replace hl_P : wr.heap.size < W2.heap.size := by rw [← hW]; exact OmT
        replace HRL := Lib.hid (HRL.out.below HL_W2.out)
        clear HL_W2
        clear hW HK_W2
        have lt_HRL := HRL.out.lt
        refine (rnorm_any (N := N) _ _ _ _ _ _ _ L (q k) _ hN HR.out (by omega)).mono ?_
        rintro e wc ⟨rx, cx, rx2, cx2, rfl, hn, hn', hb⟩
        have hs_wc : W2.heap.size ≤ wc.heap.size := hb.size
        replace k_P_0 : wc.cell? ⟨wr.heap.size, 0, none⟩ = some (.bool s) := (hb.cell (p := ⟨wr.heap.size, 0, none⟩) hl_P).trans k_P_0
        replace k_P_1 : wc.cell? ⟨wr.heap.size, 1, none⟩ = some (.slice ra rn rc) := (hb.cell (p := ⟨wr.heap.size, 1, none⟩) hl_P).trans k_P_1
        replace k_P_2 : wc.cell? ⟨wr.heap.size, 2, none⟩ = some (.slice da dn dc) := (hb.cell (p := ⟨wr.heap.size, 2, none⟩) hl_P).trans k_P_2
        replace f_P : ∀ o, wc.frozen? ⟨wr.heap.size, o, none⟩ = false := fun o => (hb.frozen (p := ⟨wr.heap.size, o, none⟩) hl_P).trans (f_P o)
        replace HX_P := Lib.hid (HX_P.out.below hb)
        replace HD1 := Lib.hid (HD1.out.below hb)
        replace HR := Lib.hid (HR.out.below hb)
        replace HB := Lib.hid (HB.out.trans (hb.mono hs0))
        replace hN : N ≤ wc.heap.size := Nat.le_trans hN hb.size
        replace hs0 : w.heap.size ≤ wc.heap.size := Nat.le_trans hs0 hb.size
        replace hl_P : wr.heap.size < wc.heap.size := Nat.lt_of_lt_of_le hl_P hb.size
        replace HRL := Lib.hid (HRL.out.below hb)
        clear hb
        have HX1 := Lib.hid hn
        clear hn
        have HX2 := Lib.hid hn'
        clear hn'
        clear HR
        clear hl_P f_P HX_P k_P_0 k_P_1 k_P_2
        obtain ⟨v0, p0⟩ := HRL.out.1.cell (o := k * 3) (by omega)
        obtain ⟨v1, p1⟩ := HRL.out.1.cell (o := k * 3 + 1) (by omega)
        obtain ⟨v2, p2⟩ := HRL.out.1.cell (o := k * 3 + 2) (by omega)
        have fz := HRL.out.1.frozen
        have HXn := Lib.hid HRL.out.bn
        have hlw := HRL.out.lt
        have HRL2 := Lib.hid (HRL.out.step hN0 hkn HX1.out HX2.out)
        go_wp2_with fail
        have hl_n := hlw
        have f_n := fz
        have HX_n := HXn
        clear hlw fz HXn p0 p1 p2 HRL
        refine region_name fun W3 hW => ?_
        have hs_W3 : wc.heap.size ≤ W3.heap.size := by rw [← hW]; exact OmT
        have HK_W3 := Lib.hid (show Kp N wc W3 by rw [← hW]; exact KpA)
        rw [hW] at HRL2
        replace f_n : ∀ o, W3.frozen? ⟨w.heap.size, o, none⟩ = false := by intro o; rw [← hW]; (first | with_reducible exact f_n o | (simp [go_sem, f_n]; done) | (simp [go_sem, f_n, hl_n]; done) | (go_simp; done) | (simp [go_sem, f_n, hl_n]; done))
        replace HX_n := Lib.hid (show Bn W3 (w.heap.size) by rw [← hW]; exact KpA)
        replace HD1 := Lib.hid (HD1.out.keep HK_W3.out)
        replace HX1 := Lib.hid (HX1.out.keep HK_W3.out)
        replace HX2 := Lib.hid (HX2.out.keep HK_W3.out)
        replace HB := Lib.hid (show Below w.heap.size w W3 by rw [← hW]; exact BlA)
        replace hN : N ≤ W3.heap.size := by rw [← hW]; exact OmT
        replace hs0 : w.heap.size ≤ W3.heap.size := by rw [← hW]; exact OmT
        replace hl_n : w.heap.size < W3.heap.size := by rw [← hW]; exact OmT
        clear hW HK_W3
        obtain ⟨ry, cy, ry2, cy2, e0, e1, kc0, e3, e4⟩ := HRL2.out.2 k (by omega)
        have HY := Lib.hid e4
        clear e0 e1 e3 e4
        have hix0 : (0 : Int) ≤ (k : Int) := by omega
        have hix1 : (k : Int) < (n : Int) := by omega
        have hlq := hdl.out k hkn
        have hlq' : nlen (q k).den ≤ L := hlq
        have hdp : 0 < (q k).den := (q k).den_pos
        have hgp : 0 < Nat.gcd (lcN (deQ q) k) (q k).den := Nat.gcd_pos_of_pos_right _ hdp
        have hgl : nlen (Nat.gcd (lcN (deQ q) k) (q k).den) ≤ L := Nat.le_trans (nlen_mono (Nat.gcd_le_right _ hdp)) hlq'
        have hll : nlen (lcN (deQ q) k) ≤ L * k + 1 := lcN_len (fun i hi => hdl.out i (by omega))
        have hm4 : L * k ≤ L * 121 := Nat.mul_le_mul_left _ (by omega)
        go_region_held3 (fun w' => w'.cell? ⟨w.heap.size, k * 3 + 2, none⟩ = some (.slice ry2 (nlen (q k).den) cy2))
          (first | (go_keep; done) | ((try dsimp only); (repeat' apply And.intro) <;> (first | (go_keep; done) | (exact cell_keep_alloc_drew (by first | omega | (simp; omega)) (by first | assumption | go_simp)) | (exact cell_keep_alloc (by first | omega | (simp; omega)) (by first | assumption | go_simp)) | (rw [cell_set2 _ _ _ _ _ _ _ _ (by omega)]; assumption) | (rw [cell_set3 _ _ _ _ _ _ _ _ _ _ (by omega)]; assumption))))
          (first
            | (go_at_call 69; refine (gcd_any (N := N) _ _ _ _ (lcN (deQ q) k) _ _ (q k).den _ (by exact hN) (by exact HD1.out) (by exact HY.out) (by omega) (by omega)).mono ?_; rintro e wd ⟨rd, cd, rfl, hn, hb⟩; replace hb : Below W3.heap.size W3 wd := (by first | exact hb | exact bel_of_drew hb); have kc_wd : wd.cell? ⟨w.heap.size, k * 3 + 2, none⟩ = some (.slice ry2 (nlen (q k).den) cy2) := (hb.cell (p := ⟨w.heap.size, k * 3 + 2, none⟩) hl_n).trans kc0; have hs_wd : W3.heap.size ≤ wd.heap.size := hb.size; replace f_n : ∀ o, wd.frozen? ⟨w.heap.size, o, none⟩ = false := fun o => (hb.frozen (p := ⟨w.heap.size, o, none⟩) hl_n).trans (f_n o); replace HX_n := Lib.hid (HX_n.out.below hb); replace HD1 := Lib.hid (HD1.out.below hb); replace HX1 := Lib.hid (HX1.out.below hb); replace HX2 := Lib.hid (HX2.out.below hb); replace HY := Lib.hid (HY.out.below hb); replace HB := Lib.hid (HB.out.trans (hb.mono hs0)); replace hN : N ≤ wd.heap.size := Nat.le_trans hN hb.size; replace hs0 : w.heap.size ≤ wd.heap.size := Nat.le_trans hs0 hb.size; replace hl_n : w.heap.size < wd.heap.size := Nat.lt_of_lt_of_le hl_n hb.size; replace HRL2 := Lib.hid (HRL2.out.below hb); clear hb; have HG := Lib.hid hn; clear hn; skip)
            | (go_at_call 68; refine (divMod_any (N := N) _ _ _ _ (q k).den _ _ (Nat.gcd (lcN (deQ q) k) (q k).den) _ (by exact hN) (by exact HY.out) (by exact HG.out) (by omega) hgp).mono ?_; rintro e we ⟨re, ce, re2, ce2, rfl, hn, _, hb⟩; replace hb : Below wd.heap.size wd we := (by first | exact hb | exact bel_of_drew hb); have kc_we : we.cell? ⟨w.heap.size, k * 3 + 2, none⟩ = some (.slice ry2 (nlen (q k).den) cy2) := (hb.cell (p := ⟨w.heap.size, k * 3 + 2, none⟩) hl_n).trans kc_wd; have hs_we : wd.heap.size ≤ we.heap.size := hb.size; replace f_n : ∀ o, we.frozen? ⟨w.heap.size, o, none⟩ = false := fun o => (hb.frozen (p := ⟨w.heap.size, o, none⟩) hl_n).trans (f_n o); replace HX_n := Lib.hid (HX_n.out.below hb); replace HD1 := Lib.hid (HD1.out.below hb); replace HX1 := Lib.hid (HX1.out.below hb); replace HX2 := Lib.hid (HX2.out.below hb); replace HY := Lib.hid (HY.out.below hb); replace HG := Lib.hid (HG.out.below hb); replace HB := Lib.hid (HB.out.trans (hb.mono hs0)); replace hN : N ≤ we.heap.size := Nat.le_trans hN hb.size; replace hs0 : w.heap.size ≤ we.heap.size := Nat.le_trans hs0 hb.size; replace hl_n : w.heap.size < we.heap.size := Nat.lt_of_lt_of_le hl_n hb.size; replace HRL2 := Lib.hid (HRL2.out.below hb); clear hb; have HE := Lib.hid hn; clear hn; skip))
        have hel : nlen ((q k).den / Nat.gcd (lcN (deQ q) k) (q k).den) ≤ L := Nat.le_trans (nlen_mono (Nat.div_le_self _ _)) hlq'
        go_wp2_with fail
        refine (mul_any (N := N) _ _ _ _ (lcN (deQ q) k) _ _ ((q k).den / Nat.gcd (lcN (deQ q) k) (q k).den) _ hN HD1.out HE.out (by omega) (by omega)).mono ?_
        rintro e wf ⟨rf, cf, rfl, hn, hb⟩
        have hs_wf : we.heap.size ≤ wf.heap.size := hb.size
        replace f_n : ∀ o, wf.frozen? ⟨w.heap.size, o, none⟩ = false := fun o => (hb.frozen (p := ⟨w.heap.size, o, none⟩) hl_n).trans (f_n o)
        replace HX_n := Lib.hid (HX_n.out.below hb)
        replace HD1 := Lib.hid (HD1.out.below hb)
        replace HX1 := Lib.hid (HX1.out.below hb)
        replace HX2 := Lib.hid (HX2.out.below hb)
        replace HY := Lib.hid (HY.out.below hb)
        replace HG := Lib.hid (HG.out.below hb)
        replace HE := Lib.hid (HE.out.below hb)
        replace HB := Lib.hid (HB.out.trans (hb.mono hs0))
        replace hN : N ≤ wf.heap.size := Nat.le_trans hN hb.size
        replace hs0 : w.heap.size ≤ wf.heap.size := Nat.le_trans hs0 hb.size
        replace hl_n : w.heap.size < wf.heap.size := Nat.lt_of_lt_of_le hl_n hb.size
        replace HRL2 := Lib.hid (HRL2.out.below hb)
        clear hb
        have HD2 := Lib.hid hn
        clear hn
        go_wp2_with fail
        go_roundw
        case rel => exact ⟨k + 1, _, _, by omega, by go_num, rfl, HD2.out, HRL2.out, all_succ hin.out hneg, HB.out, hl_n⟩
        case measure => simp [intOf]; omega
    · obtain rfl : k = n := by omega
      obtain ⟨j, hj, hjb⟩ := HX.out
      have := hin.out j hj
      exfalso
      grind

set_option maxHeartbeats 8000000 in
theorem num_main {N : Nat} (a : Option Addr) (n cap : Nat) (q : Nat → Rat) (L : Nat) (w : World) (hN : N ≤ w.heap.size) (h : Rs N w a n cap q L) (hL : L ≤ 2097152) (n0 : 0 < n) (hn : n ≤ 121) (hx : ∀ j, j < n → 0 ≤ q j) (ok : Bool) (hok : decide (sN (nmN q n) n = lcN (deQ q) n) = ok) : Calls Tryd.prog 47 #[.slice a n cap] w (NumPost N w n q L ok) := by
  have HX := Lib.hid hx
  have HOK := Lib.hid hok
  clear hx hok
  have hdl := Lib.hid (show ∀ i, i < n → nlen (deQ q i) ≤ L from fun i hi => by have := h.lim i hi; unfold rsz at this; unfold deQ; omega)
  have hnl := Lib.hid (show ∀ i, i < n → nlen (nuQ q i) ≤ L from fun i hi => by have := h.lim i hi; unfold rsz at this; unfold nuQ; omega)
  have HA := Lib.hid h
  have bc := h.1
  have bm := h.2.1
  unfold maxLen at bm
  obtain ⟨ba, oa, rfl, _⟩ := h.2.2 (by omega)
  clear h
  have hN0 := hN
  have d0 : decide ((n : Int) < 1) = false := by simp; omega
  have d1 : decide (121 < (n : Int)) = false := by simp; omega
  have hmk := make_rats n (by omega)
  have hmk2 := make_nats n (by omega)
  have HB := Lib.hid (Below.refl w.heap.size w)
  go_enter Tryd.func47, Tryd.ntmps47
  go_wp2_with fail
  have HRL := Lib.hid (Rl.made N w n q)
  refine calls_name fun W0 hW => ?_
  have hs_W0 : w.heap.size ≤ W0.heap.size := by rw [← hW]; exact OmT
  rw [hW] at HRL
  replace HB := Lib.hid (show Below w.heap.size w W0 by rw [← hW]; exact BlA)
  replace hN : N ≤ W0.heap.size := by rw [← hW]; exact OmT
  have hs0 : w.heap.size ≤ W0.heap.size := by rw [← hW]; exact OmT
  clear hW
  refine (of_any (N := N) 1 _ (by decide)).mono ?_
  rintro e wa ⟨ra, ca, rfl, hn, hb⟩
  have hs_wa : W0.heap.size ≤ wa.heap.size := hb.size
  replace HB := Lib.hid (HB.out.trans (hb.mono hs0))
  replace hN : N ≤ wa.heap.size := Nat.le_trans hN hb.size
  replace hs0 : w.heap.size ≤ wa.heap.size := Nat.le_trans hs0 hb.size
  replace HRL := Lib.hid (HRL.out.below hb)
  clear hb
  have HD1 := Lib.hid hn
  clear hn
  have hlt0 : w.heap.size < wa.heap.size := HRL.out.lt
  go_wp2_with fail
  go_loopw [6, 32] (fun dv i wr => ∃ (k : Nat) (r : Option Addr) (c : Nat), k ≤ n ∧ i = .int .i64 k ∧ dv = .slice r (nlen (lcN (deQ q) k)) c ∧ Nt N wr r (nlen (lcN (deQ q) k)) c (lcN (deQ q) k) ∧ Rl N wr w.heap.size n k q ∧ Hid (∀ j, j < k → 0 ≤ q j) ∧ Below w.heap.size w wr ∧ w.heap.size < wr.heap.size) (fun _ i _ => n - (intOf i).toNat)
  case atStart => exact ⟨0, _, _, Nat.zero_le _, rfl, rfl, HD1.out, HRL.out, (fun j hj => by omega), HB.out, hlt0⟩
  case round =>
    clear HB HRL HD1 hs0
    obtain ⟨k, r0, c0, hk, rfl, rfl, hd1, hrl, hin, hbel, hsz⟩ := hrel
    have HD1 := Lib.hid hd1
    have HRL := Lib.hid hrl
    clear hd1 hrl
    have HB := Lib.hid hbel
    have hs0 : w.heap.size ≤ wr.heap.size := by omega
    have hN2 : N ≤ wr.heap.size := by omega
    clear hbel
    clear hN
    have hN := hN2
    clear hN2
    by_cases hkn : k < n
    · have HA2 := Lib.hid (HA.out.below HB.out)
      obtain ⟨s, ra, rn, rc, da, dn, dc, g0, g1, g2, hrt⟩ := HA2.out.at hkn
      have HR := Lib.hid hrt
      clear hrt HA2
      have hneg : 0 ≤ q k := HX.out k hkn
      obtain ⟨σ, hσ⟩ : ∃ σ, (q k).num.sign = σ := ⟨_, rfl⟩
      have dσ : decide (σ < 0) = false := by rw [← hσ]; exact sgn_ge2 _ hneg
      have HSG := Lib.hid hσ
      clear hσ
      go_wp2_with fail
      refine calls_name fun W1 hW => ?_
      have hs_W1 : wr.heap.size ≤ W1.heap.size := by rw [← hW]; exact OmT
      have HK_W1 := Lib.hid (show Kp N wr W1 by rw [← hW]; exact KpA)
      have HL_W1 := Lib.hid (show Below wr.heap.size wr W1 by rw [← hW]; exact BlA)
      have k_P_0 : W1.cell? ⟨wr.heap.size, 0, none⟩ = some (.bool s) := by rw [← hW]; exact CeA
      have k_P_1 : W1.cell? ⟨wr.heap.size, 1, none⟩ = some (.slice ra rn rc) := by rw [← hW]; exact CeA
      have k_P_2 : W1.cell? ⟨wr.heap.size, 2, none⟩ = some (.slice da dn dc) := by rw [← hW]; exact CeA
      have f_P : ∀ o, W1.frozen? ⟨wr.heap.size, o, none⟩ = false := by intro o; rw [← hW]; exact CeA
      have HX_P := Lib.hid (show Bn W1 (wr.heap.size) by rw [← hW]; exact KpA)
      replace HD1 := Lib.hid (HD1.out.keep HK_W1.out)
      replace HR := Lib.hid (HR.out.keep HK_W1.out)
      replace HB := Lib.hid (show Below w.heap.size w W1 by rw [← hW]; exact BlA)
      replace hN : N ≤ W1.heap.size := by rw [← hW]; exact OmT
      replace hs0 : w.heap.size ≤ W1.heap.size := by rw [← hW]; exact OmT
      have hl_P : wr.heap.size < W1.heap.size := by rw [← hW]; exact OmT
      replace HRL := Lib.hid (HRL.out.below HL_W1.out)
      clear HL_W1
      clear hW HK_W1
      have lt_HRL := HRL.out.lt
      refine (rsign_any (N := N) _ _ _ _ _ _ _ L (q k) _ hN HR.out).mono ?_
      rw [HSG.out]
      rintro e wb ⟨rfl, hb⟩
      have hs_wb : W1.heap.size ≤ wb.heap.size := hb.size
      replace k_P_0 : wb.cell? ⟨wr.heap.size, 0, none⟩ = some (.bool s) := (hb.cell (p := ⟨wr.heap.size, 0, none⟩) hl_P).trans k_P_0
      replace k_P_1 : wb.cell? ⟨wr.heap.size, 1, none⟩ = some (.slice ra rn rc) := (hb.cell (p := ⟨wr.heap.size, 1, none⟩) hl_P).trans k_P_1
      replace k_P_2 : wb.cell? ⟨wr.heap.size, 2, none⟩ = some (.slice da dn dc) := (hb.cell (p := ⟨wr.heap.size, 2, none⟩) hl_P).trans k_P_2
      replace f_P : ∀ o, wb.frozen? ⟨wr.heap.size, o, none⟩ = false := fun o => (hb.frozen (p := ⟨wr.heap.size, o, none⟩) hl_P).trans (f_P o)
      replace HX_P := Lib.hid (HX_P.out.below hb)
      replace HD1 := Lib.hid (HD1.out.below hb)
      replace HR := Lib.hid (HR.out.below hb)
      replace HB := Lib.hid (HB.out.trans (hb.mono hs0))
      replace hN : N ≤ wb.heap.size := Nat.le_trans hN hb.size
      replace hs0 : w.heap.size ≤ wb.heap.size := Nat.le_trans hs0 hb.size
      replace hl_P : wr.heap.size < wb.heap.size := Nat.lt_of_lt_of_le hl_P hb.size
      replace HRL := Lib.hid (HRL.out.below hb)
      clear hb
      go_wp2_with fail
      refine calls_name fun W2 hW => ?_
      have hs_W2 : wb.heap.size ≤ W2.heap.size := by rw [← hW]; exact OmT
      have HK_W2 := Lib.hid (show Kp N wb W2 by rw [← hW]; exact KpA)
      have HL_W2 := Lib.hid (show Below wb.heap.size wb W2 by rw [← hW]; exact BlA)
      replace k_P_0 : W2.cell? ⟨wr.heap.size, 0, none⟩ = some (.bool s) := by rw [← hW]; (first | with_reducible exact k_P_0 | (simp [go_sem, k_P_0]; done) | (simp [go_sem, k_P_0, hl_P]; done) | (go_simp; done) | (simp [go_sem, k_P_0, k_P_1, k_P_2, f_P, hl_P]; done))
      replace k_P_1 : W2.cell? ⟨wr.heap.size, 1, none⟩ = some (.slice ra rn rc) := by rw [← hW]; (first | with_reducible exact k_P_1 | (simp [go_sem, k_P_1]; done) | (simp [go_sem, k_P_1, hl_P]; done) | (go_simp; done) | (simp [go_sem, k_P_0, k_P_1, k_P_2, f_P, hl_P]; done))
      replace k_P_2 : W2.cell? ⟨wr.heap.size, 2, none⟩ = some (.slice da dn dc) := by rw [← hW]; (first | with_reducible exact k_P_2 | (simp [go_sem, k_P_2]; done) | (simp [go_sem, k_P_2, hl_P]; done) | (go_simp; done) | (simp [go_sem, k_P_0, k_P_1, k_P_2, f_P, hl_P]; done))
      replace f_P : ∀ o, W2.frozen? ⟨wr.heap.size, o, none⟩ = false := by intro o; rw [← hW]; (first | with_reducible exact f_P o | (simp [go_sem, f_P]; done) | (simp [go_sem, f_P, hl_P]; done) | (go_simp; done) | (simp [go_sem, k_P_0, k_P_1, k_P_2, f_P, hl_P]; done))
      replace HX_P := Lib.hid (show Bn W2 (wr.heap.size) by rw [← hW]; exact KpA)
      replace HD1 := Lib.hid (HD1.out.keep HK_W2.out)
      replace HR := Lib.hid (HR.out.keep HK_W2.out)
      replace HB := Lib.hid (show Below w.heap.size w W2 by rw [← hW]; exact BlA)
      replace hN : N ≤ W2.heap.size := by rw [← hW]; exact OmT
      replace hs0 : w.heap.size ≤ W2.heap.size := by rw [← hW]; exact OmT
      replace hl_P : wr.heap.size < W2.heap.size := by rw [← hW]; exact OmT
      replace HRL := Lib.hid (HRL.out.below HL_W2.out)
      clear HL_W2
      clear hW HK_W2
      have lt_HRL := HRL.out.lt
      refine (rnorm_any (N := N) _ _ _ _ _ _ _ L (q k) _ hN HR.out (by omega)).mono ?_
      rintro e wc ⟨rx, cx, rx2, cx2, rfl, hn, hn', hb⟩
      have hs_wc : W2.heap.size ≤ wc.heap.size := hb.size
      replace k_P_0 : wc.cell? ⟨wr.heap.size, 0, none⟩ = some (.bool s) := (hb.cell (p := ⟨wr.heap.size, 0, none⟩) hl_P).trans k_P_0
      replace k_P_1 : wc.cell? ⟨wr.heap.size, 1, none⟩ = some (.slice ra rn rc) := (hb.cell (p := ⟨wr.heap.size, 1, none⟩) hl_P).trans k_P_1
      replace k_P_2 : wc.cell? ⟨wr.heap.size, 2, none⟩ = some (.slice da dn dc) := (hb.cell (p := ⟨wr.heap.size, 2, none⟩) hl_P).trans k_P_2
      replace f_P : ∀ o, wc.frozen? ⟨wr.heap.size, o, none⟩ = false := fun o => (hb.frozen (p := ⟨wr.heap.size, o, none⟩) hl_P).trans (f_P o)
      replace HX_P := Lib.hid (HX_P.out.below hb)
      replace HD1 := Lib.hid (HD1.out.below hb)
      replace HR := Lib.hid (HR.out.below hb)
      replace HB := Lib.hid (HB.out.trans (hb.mono hs0))
      replace hN : N ≤ wc.heap.size := Nat.le_trans hN hb.size
      replace hs0 : w.heap.size ≤ wc.heap.size := Nat.le_trans hs0 hb.size
      replace hl_P : wr.heap.size < wc.heap.size := Nat.lt_of_lt_of_le hl_P hb.size
      replace HRL := Lib.hid (HRL.out.below hb)
      clear hb
      have HX1 := Lib.hid hn
      clear hn
      have HX2 := Lib.hid hn'
      clear hn'
      clear HR
      clear hl_P f_P HX_P k_P_0 k_P_1 k_P_2
      obtain ⟨v0, p0⟩ := HRL.out.1.cell (o := k * 3) (by omega)
      obtain ⟨v1, p1⟩ := HRL.out.1.cell (o := k * 3 + 1) (by omega)
      obtain ⟨v2, p2⟩ := HRL.out.1.cell (o := k * 3 + 2) (by omega)
      have fz := HRL.out.1.frozen
      have HXn := Lib.hid HRL.out.bn
      have hlw := HRL.out.lt
      have HRL2 := Lib.hid (HRL.out.step hN0 hkn HX1.out HX2.out)
      go_wp2_with fail
      have hl_n := hlw
      have f_n := fz
      have HX_n := HXn
      clear hlw fz HXn p0 p1 p2 HRL
      refine region_name fun W3 hW => ?_
      have hs_W3 : wc.heap.size ≤ W3.heap.size := by rw [← hW]; exact OmT
      have HK_W3 := Lib.hid (show Kp N wc W3 by rw [← hW]; exact KpA)
      rw [hW] at HRL2
      replace f_n : ∀ o, W3.frozen? ⟨w.heap.size, o, none⟩ = false := by intro o; rw [← hW]; (first | with_reducible exact f_n o | (simp [go_sem, f_n]; done) | (simp [go_sem, f_n, hl_n]; done) | (go_simp; done) | (simp [go_sem, f_n, hl_n]; done))
      replace HX_n := Lib.hid (show Bn W3 (w.heap.size) by rw [← hW]; exact KpA)
      replace HD1 := Lib.hid (HD1.out.keep HK_W3.out)
      replace HX1 := Lib.hid (HX1.out.keep HK_W3.out)
      replace HX2 := Lib.hid (HX2.out.keep HK_W3.out)
      replace HB := Lib.hid (show Below w.heap.size w W3 by rw [← hW]; exact BlA)
      replace hN : N ≤ W3.heap.size := by rw [← hW]; exact OmT
      replace hs0 : w.heap.size ≤ W3.heap.size := by rw [← hW]; exact OmT
      replace hl_n : w.heap.size < W3.heap.size := by rw [← hW]; exact OmT
      clear hW HK_W3
      obtain ⟨ry, cy, ry2, cy2, e0, e1, kc0, e3, e4⟩ := HRL2.out.2 k (by omega)
      have HY := Lib.hid e4
      clear e0 e1 e3 e4
      have hix0 : (0 : Int) ≤ (k : Int) := by omega
      have hix1 : (k : Int) < (n : Int) := by omega
      have hlq := hdl.out k hkn
      have hlq' : nlen (q k).den ≤ L := hlq
      have hdp : 0 < (q k).den := (q k).den_pos
      have hgp : 0 < Nat.gcd (lcN (deQ q) k) (q k).den := Nat.gcd_pos_of_pos_right _ hdp
      have hgl : nlen (Nat.gcd (lcN (deQ q) k) (q k).den) ≤ L := Nat.le_trans (nlen_mono (Nat.gcd_le_right _ hdp)) hlq'
      have hll : nlen (lcN (deQ q) k) ≤ L * k + 1 := lcN_len (fun i hi => hdl.out i (by omega))
      have hm4 : L * k ≤ L * 121 := Nat.mul_le_mul_left _ (by omega)
      go_region_held3 (fun w' => w'.cell? ⟨w.heap.size, k * 3 + 2, none⟩ = some (.slice ry2 (nlen (q k).den) cy2))
        (first | (go_keep; done) | ((try dsimp only); (repeat' apply And.intro) <;> (first | (go_keep; done) | (exact cell_keep_alloc_drew (by first | omega | (simp; omega)) (by first | assumption | go_simp)) | (exact cell_keep_alloc (by first | omega | (simp; omega)) (by first | assumption | go_simp)) | (rw [cell_set2 _ _ _ _ _ _ _ _ (by omega)]; assumption) | (rw [cell_set3 _ _ _ _ _ _ _ _ _ _ (by omega)]; assumption))))
        (first
          | (go_at_call 69; refine (gcd_any (N := N) _ _ _ _ (lcN (deQ q) k) _ _ (q k).den _ (by exact hN) (by exact HD1.out) (by exact HY.out) (by omega) (by omega)).mono ?_; rintro e wd ⟨rd, cd, rfl, hn, hb⟩; replace hb : Below W3.heap.size W3 wd := (by first | exact hb | exact bel_of_drew hb); have kc_wd : wd.cell? ⟨w.heap.size, k * 3 + 2, none⟩ = some (.slice ry2 (nlen (q k).den) cy2) := (hb.cell (p := ⟨w.heap.size, k * 3 + 2, none⟩) hl_n).trans kc0; have hs_wd : W3.heap.size ≤ wd.heap.size := hb.size; replace f_n : ∀ o, wd.frozen? ⟨w.heap.size, o, none⟩ = false := fun o => (hb.frozen (p := ⟨w.heap.size, o, none⟩) hl_n).trans (f_n o); replace HX_n := Lib.hid (HX_n.out.below hb); replace HD1 := Lib.hid (HD1.out.below hb); replace HX1 := Lib.hid (HX1.out.below hb); replace HX2 := Lib.hid (HX2.out.below hb); replace HY := Lib.hid (HY.out.below hb); replace HB := Lib.hid (HB.out.trans (hb.mono hs0)); replace hN : N ≤ wd.heap.size := Nat.le_trans hN hb.size; replace hs0 : w.heap.size ≤ wd.heap.size := Nat.le_trans hs0 hb.size; replace hl_n : w.heap.size < wd.heap.size := Nat.lt_of_lt_of_le hl_n hb.size; replace HRL2 := Lib.hid (HRL2.out.below hb); clear hb; have HG := Lib.hid hn; clear hn; skip)
          | (go_at_call 68; refine (divMod_any (N := N) _ _ _ _ (q k).den _ _ (Nat.gcd (lcN (deQ q) k) (q k).den) _ (by exact hN) (by exact HY.out) (by exact HG.out) (by omega) hgp).mono ?_; rintro e we ⟨re, ce, re2, ce2, rfl, hn, _, hb⟩; replace hb : Below wd.heap.size wd we := (by first | exact hb | exact bel_of_drew hb); have kc_we : we.cell? ⟨w.heap.size, k * 3 + 2, none⟩ = some (.slice ry2 (nlen (q k).den) cy2) := (hb.cell (p := ⟨w.heap.size, k * 3 + 2, none⟩) hl_n).trans kc_wd; have hs_we : wd.heap.size ≤ we.heap.size := hb.size; replace f_n : ∀ o, we.frozen? ⟨w.heap.size, o, none⟩ = false := fun o => (hb.frozen (p := ⟨w.heap.size, o, none⟩) hl_n).trans (f_n o); replace HX_n := Lib.hid (HX_n.out.below hb); replace HD1 := Lib.hid (HD1.out.below hb); replace HX1 := Lib.hid (HX1.out.below hb); replace HX2 := Lib.hid (HX2.out.below hb); replace HY := Lib.hid (HY.out.below hb); replace HG := Lib.hid (HG.out.below hb); replace HB := Lib.hid (HB.out.trans (hb.mono hs0)); replace hN : N ≤ we.heap.size := Nat.le_trans hN hb.size; replace hs0 : w.heap.size ≤ we.heap.size := Nat.le_trans hs0 hb.size; replace hl_n : w.heap.size < we.heap.size := Nat.lt_of_lt_of_le hl_n hb.size; replace HRL2 := Lib.hid (HRL2.out.below hb); clear hb; have HE := Lib.hid hn; clear hn; skip))
      have hel : nlen ((q k).den / Nat.gcd (lcN (deQ q) k) (q k).den) ≤ L := Nat.le_trans (nlen_mono (Nat.div_le_self _ _)) hlq'
      go_wp2_with fail
      refine (mul_any (N := N) _ _ _ _ (lcN (deQ q) k) _ _ ((q k).den / Nat.gcd (lcN (deQ q) k) (q k).den) _ hN HD1.out HE.out (by omega) (by omega)).mono ?_
      rintro e wf ⟨rf, cf, rfl, hn, hb⟩
      have hs_wf : we.heap.size ≤ wf.heap.size := hb.size
      replace f_n : ∀ o, wf.frozen? ⟨w.heap.size, o, none⟩ = false := fun o => (hb.frozen (p := ⟨w.heap.size, o, none⟩) hl_n).trans (f_n o)
      replace HX_n := Lib.hid (HX_n.out.below hb)
      replace HD1 := Lib.hid (HD1.out.below hb)
      replace HX1 := Lib.hid (HX1.out.below hb)
      replace HX2 := Lib.hid (HX2.out.below hb)
      replace HY := Lib.hid (HY.out.below hb)
      replace HG := Lib.hid (HG.out.below hb)
      replace HE := Lib.hid (HE.out.below hb)
      replace HB := Lib.hid (HB.out.trans (hb.mono hs0))
      replace hN : N ≤ wf.heap.size := Nat.le_trans hN hb.size
      replace hs0 : w.heap.size ≤ wf.heap.size := Nat.le_trans hs0 hb.size
      replace hl_n : w.heap.size < wf.heap.size := Nat.lt_of_lt_of_le hl_n hb.size
      replace HRL2 := Lib.hid (HRL2.out.below hb)
      clear hb
      have HD2 := Lib.hid hn
      clear hn
      go_wp2_with fail
      go_roundw
      case rel => exact ⟨k + 1, _, _, by omega, by go_num, rfl, HD2.out, HRL2.out, all_succ hin.out hneg, HB.out, hl_n⟩
      case measure => simp [intOf]; omega
    · obtain rfl : k = n := by omega
      obtain ⟨w1, rfl⟩ : ∃ w1 : World, w1 = wr := ⟨_, rfl⟩
      have hsz1 := hsz
      have hNw := hN
      have HB1 := HB
      have HDp := Lib.hid (show 0 < lcN (deQ q) k from lcN_pos (fun i _ => (q i).den_pos))
      have hll : nlen (lcN (deQ q) k) ≤ L * k + 1 := lcN_len hdl.out
      have hm4 : L * k ≤ L * 121 := Nat.mul_le_mul_left _ (by omega)
      clear hin hmk
      go_wp2_with fail
      go_loopw [71] (fun i wq => ∃ k2 : Nat, k2 ≤ k ∧ i = .int .i64 k2 ∧ Nl N wq w1.heap.size k (nmS q k k2) (L * 123 + 2) ∧ Below w1.heap.size w1 wq ∧ w1.heap.size < wq.heap.size) (fun i _ => k - (intOf i).toNat)
      case atStart => exact ⟨0, Nat.zero_le _, rfl, (Nl.made N w1 _ _).congr (fun i _ => by unfold nmS; simp), bel1 w1 _, by simp⟩
      case round =>
        obtain ⟨k2, hk2, rfl, hnl2, hbel, hsz2⟩ := hrel
        have HNq := Lib.hid hnl2
        have HRq := Lib.hid (HRL.out.below hbel)
        have HDq := Lib.hid (HD1.out.below hbel)
        clear hnl2 HB hs0 hN
        have HB := Lib.hid hbel
        have hs0 : w1.heap.size ≤ wr.heap.size := by omega
        have hN : N ≤ wr.heap.size := by omega
        clear hbel hmk2
        by_cases hkn : k2 < k
        · obtain ⟨ry, cy, ry2, cy2, e0, e1, e2, e3, e4⟩ := HRq.out.2 k2 hkn
          have HY1 := Lib.hid e3
          have HY2 := Lib.hid e4
          clear e3 e4 HRq
          have hlq : nlen (q k2).den ≤ L := hdl.out k2 hkn
          have hlq2 : nlen (q k2).num.natAbs ≤ L := hnl.out k2 hkn
          have hdp : 0 < (q k2).den := (q k2).den_pos
          go_wp2_with fail
          refine calls_name fun W1 hW => ?_
          have hs_W1 : wr.heap.size ≤ W1.heap.size := by rw [← hW]; exact OmT
          have HK_W1 := Lib.hid (show Kp N wr W1 by rw [← hW]; exact KpA)
          have HL_W1 := Lib.hid (show Below wr.heap.size wr W1 by rw [← hW]; exact BlA)
          have k_P_0 : W1.cell? ⟨wr.heap.size, 0, none⟩ = some (.bool (decide ((q k2).num < 0))) := by rw [← hW]; exact CeA
          have k_P_1 : W1.cell? ⟨wr.heap.size, 1, none⟩ = some (.slice ry (nlen (q k2).num.natAbs) cy) := by rw [← hW]; exact CeA
          have k_P_2 : W1.cell? ⟨wr.heap.size, 2, none⟩ = some (.slice ry2 (nlen (q k2).den) cy2) := by rw [← hW]; exact CeA
          have f_P : ∀ o, W1.frozen? ⟨wr.heap.size, o, none⟩ = false := by intro o; rw [← hW]; exact CeA
          have HX_P := Lib.hid (show Bn W1 (wr.heap.size) by rw [← hW]; exact KpA)
          replace HDq := Lib.hid (HDq.out.keep HK_W1.out)
          replace HY1 := Lib.hid (HY1.out.keep HK_W1.out)
          replace HY2 := Lib.hid (HY2.out.keep HK_W1.out)
          replace HB := Lib.hid (show Below w1.heap.size w1 W1 by rw [← hW]; exact BlA)
          replace hN : N ≤ W1.heap.size := by rw [← hW]; exact OmT
          replace hs0 : w1.heap.size ≤ W1.heap.size := by rw [← hW]; exact OmT
          have hl_P : wr.heap.size < W1.heap.size := by rw [← hW]; exact OmT
          replace HNq := Lib.hid (HNq.out.below HL_W1.out)
          clear HL_W1
          clear hW HK_W1
          have lt_HNq := HNq.out.lt
          refine (divMod_any (N := N) _ _ _ _ (lcN (deQ q) k) _ _ (q k2).den _ hN HDq.out HY2.out (by omega) hdp).mono ?_
          rintro e wb ⟨re, ce, re2, ce2, rfl, hn, _, hb⟩
          have hs_wb : W1.heap.size ≤ wb.heap.size := hb.size
          replace k_P_0 : wb.cell? ⟨wr.heap.size, 0, none⟩ = some (.bool (decide ((q k2).num < 0))) := (hb.cell (p := ⟨wr.heap.size, 0, none⟩) hl_P).trans k_P_0
          replace k_P_1 : wb.cell? ⟨wr.heap.size, 1, none⟩ = some (.slice ry (nlen (q k2).num.natAbs) cy) := (hb.cell (p := ⟨wr.heap.size, 1, none⟩) hl_P).trans k_P_1
          replace k_P_2 : wb.cell? ⟨wr.heap.size, 2, none⟩ = some (.slice ry2 (nlen (q k2).den) cy2) := (hb.cell (p := ⟨wr.heap.size, 2, none⟩) hl_P).trans k_P_2
          replace f_P : ∀ o, wb.frozen? ⟨wr.heap.size, o, none⟩ = false := fun o => (hb.frozen (p := ⟨wr.heap.size, o, none⟩) hl_P).trans (f_P o)
          replace HX_P := Lib.hid (HX_P.out.below hb)
          replace HDq := Lib.hid (HDq.out.below hb)
          replace HY1 := Lib.hid (HY1.out.below hb)
          replace HY2 := Lib.hid (HY2.out.below hb)
          replace HB := Lib.hid (HB.out.trans (hb.mono hs0))
          replace hN : N ≤ wb.heap.size := Nat.le_trans hN hb.size
          replace hs0 : w1.heap.size ≤ wb.heap.size := Nat.le_trans hs0 hb.size
          replace hl_P : wr.heap.size < wb.heap.size := Nat.lt_of_lt_of_le hl_P hb.size
          replace HNq := Lib.hid (HNq.out.below hb)
          clear hb
          have HE := Lib.hid hn
          clear hn
          have hel : nlen (lcN (deQ q) k / (q k2).den) ≤ L * k + 1 := Nat.le_trans (nlen_mono (Nat.div_le_self _ _)) hll
          go_wp2_with fail
          refine (mul_any (N := N) _ _ _ _ (q k2).num.natAbs _ _ (lcN (deQ q) k / (q k2).den) _ hN HY1.out HE.out (by omega) (by omega)).mono ?_
          rintro e wc ⟨rm, cm, rfl, hn, hb⟩
          have hs_wc : wb.heap.size ≤ wc.heap.size := hb.size
          replace k_P_0 : wc.cell? ⟨wr.heap.size, 0, none⟩ = some (.bool (decide ((q k2).num < 0))) := (hb.cell (p := ⟨wr.heap.size, 0, none⟩) hl_P).trans k_P_0
          replace k_P_1 : wc.cell? ⟨wr.heap.size, 1, none⟩ = some (.slice ry (nlen (q k2).num.natAbs) cy) := (hb.cell (p := ⟨wr.heap.size, 1, none⟩) hl_P).trans k_P_1
          replace k_P_2 : wc.cell? ⟨wr.heap.size, 2, none⟩ = some (.slice ry2 (nlen (q k2).den) cy2) := (hb.cell (p := ⟨wr.heap.size, 2, none⟩) hl_P).trans k_P_2
          replace f_P : ∀ o, wc.frozen? ⟨wr.heap.size, o, none⟩ = false := fun o => (hb.frozen (p := ⟨wr.heap.size, o, none⟩) hl_P).trans (f_P o)
          replace HX_P := Lib.hid (HX_P.out.below hb)
          replace HDq := Lib.hid (HDq.out.below hb)
          replace HY1 := Lib.hid (HY1.out.below hb)
          replace HY2 := Lib.hid (HY2.out.below hb)
          replace HE := Lib.hid (HE.out.below hb)
          replace HB := Lib.hid (HB.out.trans (hb.mono hs0))
          replace hN : N ≤ wc.heap.size := Nat.le_trans hN hb.size
          replace hs0 : w1.heap.size ≤ wc.heap.size := Nat.le_trans hs0 hb.size
          replace hl_P : wr.heap.size < wc.heap.size := Nat.lt_of_lt_of_le hl_P hb.size
          replace HNq := Lib.hid (HNq.out.below hb)
          clear hb
          have HM := Lib.hid hn
          clear hn
          have hml := nlen_mul (q k2).num.natAbs (lcN (deQ q) k / (q k2).den)
          obtain ⟨v0, p0⟩ := HNq.out.1.cell (o := k2) hkn
          have fz := HNq.out.1.frozen k2
          go_wp2_with fail
          go_roundw
          case rel => exact ⟨k2 + 1, by omega, by go_num, HNq.out.step (m' := nmS q k (k2 + 1)) hNw hkn (by rw [nmS_new]; exact HM.out) (by omega) (fun i _ hi => nmS_old q k k2 i hi), HB.out.setCell (Nat.le_refl _) _, by simp [World.setCell]; omega⟩
          case measure => simp [intOf]; omega
        · obtain rfl : k2 = k := by omega
          have HNf := Lib.hid (HNq.out.congr (m' := nmN q k2) (fun i hi => by unfold nmS; rw [if_pos hi]))
          clear HNq HRq
          go_wp2_with fail
          refine (total_any (N := N) _ k2 k2 (nmN q k2) (L * 123 + 2) _ hN (HNf.out.ns (by unfold maxLen; omega)) (by omega) (by omega)).mono ?_
          rintro e wb ⟨rt, ct, rfl, hn, hb⟩
          have hs_wb : wr.heap.size ≤ wb.heap.size := hb.size
          replace HDq := Lib.hid (HDq.out.below hb)
          replace HB := Lib.hid (HB.out.trans (hb.mono hs0))
          replace hN : N ≤ wb.heap.size := Nat.le_trans hN hb.size
          replace hs0 : w1.heap.size ≤ wb.heap.size := Nat.le_trans hs0 hb.size
          replace HNf := Lib.hid (HNf.out.below hb)
          clear hb
          have HT := Lib.hid hn
          clear hn
          go_wp2_with fail
          refine (cmp_any (N := N) _ _ _ _ (sN (nmN q k2) k2) _ _ (lcN (deQ q) k2) _ HT.out HDq.out).mono ?_
          obtain ⟨κ, hκ⟩ : ∃ κ, cmpN (sN (nmN q k2) k2) (lcN (deQ q) k2) = κ := ⟨_, rfl⟩
          have dκ : (κ == 0) = ok := by rw [← hκ, cmpN_beq]; exact HOK.out
          rw [hκ]
          clear hκ
          rintro e wd ⟨rfl, nq, rfl⟩
          have bN := bel_drewN wb.heap.size wb nq
          have HNg := Lib.hid (HNf.out.below bN)
          have HDg := Lib.hid (HDq.out.below bN)
          have HBg := Lib.hid (HB1.out.trans ((HB.out.trans (bN.mono hs0)).mono (by omega)))
          have hltg : w1.heap.size < (wb.drewN nq).heap.size := HNg.out.lt
          have hlw : w.heap.size < w1.heap.size := hsz1
          clear bN
          go_wp2_with fail
          go_ret3
          exact ⟨w1.heap.size, _, _, rfl, by omega, hltg, HNg.out, HDg.out, HBg.out⟩

end Go.Proofs.YtmecipfdelgfbaaDoor
