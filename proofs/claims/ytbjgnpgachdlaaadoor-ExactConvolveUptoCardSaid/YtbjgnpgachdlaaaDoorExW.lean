/- Contract of the reference's SameList for lists in normal form; sizes of the numbers of trials. -/
import Derived.Test.YtbjgnpgachdlaaaDoorExZ
import Derived.Test.YtbjgnpgachdlaaaDoorExX
namespace Go.Proofs.YtbjgnpgachdlaaaDoor
open Go.RowKit

theorem natQ_nonneg (n : Nat) : (0 : Rat) ≤ (n : Rat) := by exact_mod_cast Nat.zero_le n
theorem natQ_le {a b : Nat} : (a : Rat) ≤ (b : Rat) ↔ a ≤ b := by exact_mod_cast Iff.rfl
theorem prN_sum {d : Nat → Nat} : ∀ {n : Nat}, nlen (prN d n) ≤ sN (fun i => nlen (d i)) n + 1
  | 0 => show nlen 1 ≤ 1 from nlen_small (by decide)
  | n + 1 => by
    have h1 := nlen_mul (prN d n) (d n)
    have h2 := prN_sum (d := d) (n := n)
    show nlen (prN d n * d n) ≤ sN (fun i => nlen (d i)) n + nlen (d n) + 1
    omega
theorem tri_le_one (q : Nat → Rat) (n : Nat) (h : ∀ j, j < n → prb (q j) = true) (i : Nat) (hi : i < n + 1) : tri q n i ≤ 1 := by
  rw [← tri_total q n]
  exact sQ_one_le (f := tri q n) (fun k _ => tri_nonneg (fun j hj => prb_iff.1 (h j hj)) k) hi
theorem trN_le (q : Nat → Rat) (n : Nat) (h : ∀ j, j < n → prb (q j) = true) (i : Nat) (hi : i < n + 1) : trN (nuQ q) (faQ q) n i ≤ prN (deQ q) n := by
  have h1 := tr_cast q n h i hi
  have h2 := tri_le_one q n h i hi
  have h3 : (0 : Rat) ≤ ((prN (deQ q) n : Nat) : Rat) := natQ_nonneg _
  have h4 : ((trN (nuQ q) (faQ q) n i : Nat) : Rat) ≤ ((prN (deQ q) n : Nat) : Rat) := by
    rw [h1]
    have := Rat.mul_le_mul_of_nonneg_right h2 h3
    rwa [Rat.one_mul] at this
  exact natQ_le.1 h4
/-- the limbs of the denominators, together -/
def szQ (q : Nat → Rat) (n : Nat) : Nat := sN (fun i => nlen (deQ q i)) n
theorem tri_rsz (q : Nat → Rat) (n : Nat) (h : ∀ j, j < n → prb (q j) = true) (i : Nat) (hi : i < n + 1) : rsz (tri q n i) ≤ szQ q n + 1 := by
  rw [← tri_frq q n h i hi]
  have h1 := prN_sum (d := deQ q) (n := n)
  exact frq_len _ _ _ (by omega) (Nat.le_trans (nlen_mono (trN_le q n h i hi)) h1) h1
theorem sN_app (f : Rat → Nat) (p q : Nat → Rat) (n m : Nat) : sN (fun i => f (app p n q i)) (n + m) = sN (fun i => f (p i)) n + sN (fun i => f (q i)) m := by
  induction m with
  | zero => exact sN_congr (fun i hi => by unfold app; rw [if_pos (show i < n from hi)])
  | succ m ih =>
    show sN (fun i => f (app p n q i)) (n + m) + f (app p n q (n + m)) = sN (fun i => f (p i)) n + (sN (fun i => f (q i)) m + f (q m))
    rw [ih]
    have e : app p n q (n + m) = q m := by unfold app; rw [if_neg (by omega), Nat.add_sub_cancel_left]
    rw [e]; omega
theorem szQ_app (p q : Nat → Rat) (n m : Nat) : szQ (app p n q) (n + m) = szQ p n + szQ q m := sN_app (fun x => nlen x.den) p q n m
theorem app_prb (p q : Nat → Rat) (n m : Nat) (h1 : ∀ j, j < n → prb (p j) = true) (h2 : ∀ j, j < m → prb (q j) = true) : ∀ j, j < n + m → prb (app p n q j) = true := by
  intro j hj
  unfold app
  rcases Nat.lt_or_ge j n with h | h
  · rw [if_pos h]; exact h1 j h
  · rw [if_neg (by omega)]; exact h2 _ (by omega)
/-- a list of rational numbers joined to a list, as append leaves it -/
theorem app_er {N : Nat} {w : World} {n m L : Nat} {p q : Nat → Rat} {xs ys : List Value} (h1 : Cl n (Er N w p L) xs) (h2 : Cl m (Er N w q L) ys) : Cl (n + m) (Er N w (app p n q) L) (xs ++ ys) :=
  (h1.app h2).imp fun i v0 v1 v2 hi e => by
    rcases Nat.lt_or_ge i n with h | h
    · simp only [if_pos h] at e
      unfold Er app; rw [if_pos h]; exact e
    · simp only [if_neg (Nat.not_lt.2 h)] at e
      unfold Er app; rw [if_neg (by omega)]; exact e

set_option maxHeartbeats 2000000 in
theorem SameList_rn {N : Nat} (a a' : Option Addr) (n ca ca' : Nat) (q : Nat → Rat) (w : World) (hN : N ≤ w.heap.size) (h : Rn N w a n ca q) (h' : Rn N w a' n ca' q) :
    Calls Tryd.prog 23 #[.slice a n ca, .slice a' n ca'] w fun e w' => e = .returned (.bool true) ∧ Below w.heap.size w w' := by
  have bc1 := h.1
  have bc2 := h.2.1
  have bd1 := h'.1
  have bd2 := h'.2.1
  unfold maxLen at bc2 bd2
  have HA := Lib.hid h
  have HC := Lib.hid h'
  clear h h'
  have hN0 := hN
  go_enter Tryd.func23, Tryd.ntmps23
  go_wp2_with fail
  go_loopw [5] (fun i wr => ∃ k : Nat, k ≤ n ∧ i = .int .i64 k ∧ Below w.heap.size w wr ∧ w.heap.size ≤ wr.heap.size) (fun i _ => n - (intOf i).toNat)
  case atStart => exact ⟨0, Nat.zero_le _, rfl, Below.refl _ _, Nat.le_refl _⟩
  case round =>
    obtain ⟨k, hk, rfl, hbel, hsz⟩ := hrel
    have HAr := Lib.hid (HA.out.below hbel)
    have HCr := Lib.hid (HC.out.below hbel)
    have HB := Lib.hid hbel
    have hs0 : w.heap.size ≤ wr.heap.size := by omega
    have hN2 : N ≤ wr.heap.size := by omega
    clear hbel
    clear hN
    have hN := hN2
    clear hN2
    by_cases hkn : k < n
    · obtain ⟨b1, o1, rfl, hc1⟩ := HAr.out.2.2 (by omega)
      obtain ⟨b2, o2, rfl, hc2⟩ := HCr.out.2.2 (by omega)
      obtain ⟨r, c, r2, c2, g0, g1, g2, e1, e2⟩ := hc1 k hkn
      obtain ⟨t, d, t2, d2, g3, g4, g5, e3, e4⟩ := hc2 k hkn
      have H1 := Lib.hid e1
      have H2 := Lib.hid e2
      have H3 := Lib.hid e3
      have H4 := Lib.hid e4
      have hl1 : b1 < wr.heap.size := World.block_lt_of_cell? wr _ g0
      have hl2 : b2 < wr.heap.size := World.block_lt_of_cell? wr _ g3
      clear e1 e2 e3 e4 HAr HCr hc1 hc2
      have hix0 : (0 : Int) ≤ (k : Int) := by omega
      have hix1 : (k : Int) < (n : Int) := by omega
      go_wp2_with fail
      go_region_held3 (fun w' => w'.cell? ⟨b1, o1 + k * 3, none⟩ = some (.bool (decide ((q k).num < 0))) ∧ w'.cell? ⟨b1, o1 + k * 3 + 1, none⟩ = some (.slice r (nlen (q k).num.natAbs) c) ∧ w'.cell? ⟨b1, o1 + k * 3 + 2, none⟩ = some (.slice r2 (nlen (q k).den) c2) ∧ w'.cell? ⟨b2, o2 + k * 3, none⟩ = some (.bool (decide ((q k).num < 0))) ∧ w'.cell? ⟨b2, o2 + k * 3 + 1, none⟩ = some (.slice t (nlen (q k).num.natAbs) d) ∧ w'.cell? ⟨b2, o2 + k * 3 + 2, none⟩ = some (.slice t2 (nlen (q k).den) d2))
        (first | (go_keep; done) | ((try dsimp only); (repeat' apply And.intro) <;> (first | (go_keep; done) | (exact cell_keep_alloc_drew (by first | omega | (simp; omega)) (by first | assumption | go_simp)) | (exact cell_keep_alloc (by first | omega | (simp; omega)) (by first | assumption | go_simp)) | (rw [cell_set2 _ _ _ _ _ _ _ _ (by omega)]; assumption) | (rw [cell_set3 _ _ _ _ _ _ _ _ _ _ (by omega)]; assumption))))
        (first
          | (go_at_call 61; refine (SameRatio_any (N := N) _ _ _ _ _ _ _ _ (q k).num.natAbs _ _ _ (q k).den _ (by exact hN) (by exact H1.out) (by exact H3.out) (by exact H2.out) (by exact H4.out)).mono ?_; rintro e wa ⟨rfl, hb⟩; replace hb : Below wr.heap.size wr wa := (by first | exact hb | exact bel_of_drew hb); have g0' : wa.cell? ⟨b1, o1 + k * 3, none⟩ = some (.bool (decide ((q k).num < 0))) := (hb.cell (p := ⟨b1, o1 + k * 3, none⟩) hl1).trans g0; have g1' : wa.cell? ⟨b1, o1 + k * 3 + 1, none⟩ = some (.slice r (nlen (q k).num.natAbs) c) := (hb.cell (p := ⟨b1, o1 + k * 3 + 1, none⟩) hl1).trans g1; have g2' : wa.cell? ⟨b1, o1 + k * 3 + 2, none⟩ = some (.slice r2 (nlen (q k).den) c2) := (hb.cell (p := ⟨b1, o1 + k * 3 + 2, none⟩) hl1).trans g2; have g3' : wa.cell? ⟨b2, o2 + k * 3, none⟩ = some (.bool (decide ((q k).num < 0))) := (hb.cell (p := ⟨b2, o2 + k * 3, none⟩) hl2).trans g3; have g4' : wa.cell? ⟨b2, o2 + k * 3 + 1, none⟩ = some (.slice t (nlen (q k).num.natAbs) d) := (hb.cell (p := ⟨b2, o2 + k * 3 + 1, none⟩) hl2).trans g4; have g5' : wa.cell? ⟨b2, o2 + k * 3 + 2, none⟩ = some (.slice t2 (nlen (q k).den) d2) := (hb.cell (p := ⟨b2, o2 + k * 3 + 2, none⟩) hl2).trans g5; have hN_wa : N ≤ wa.heap.size := Nat.le_trans hN hb.size; have hs_wa : wr.heap.size ≤ wa.heap.size := hb.size; have hs0_wa : w.heap.size ≤ wa.heap.size := Nat.le_trans hs0 hb.size; have H1_wa := Lib.hid (H1.out.below hb); have H2_wa := Lib.hid (H2.out.below hb); have H3_wa := Lib.hid (H3.out.below hb); have H4_wa := Lib.hid (H4.out.below hb); have HB_wa := Lib.hid (HB.out.trans (hb.mono hs0)); clear hb; clear H1 H2 H3 H4 HB hN hs0; have hN := hN_wa; have HB := HB_wa; have hs0 := hs0_wa; have H1 := H1_wa; have H2 := H2_wa; have H3 := H3_wa; have H4 := H4_wa; clear hN_wa HB_wa hs0_wa H1_wa H2_wa H3_wa H4_wa; skip))
      go_wp2_with fail
      go_roundw
      case rel => exact ⟨k + 1, by omega, by go_num, HB.out, hs0⟩
      case measure => simp [intOf]; omega
    · obtain rfl : k = n := by omega
      go_wp2_with fail
      go_ret
      exact ⟨rfl, HB.out⟩

end Go.Proofs.YtbjgnpgachdlaaaDoor
