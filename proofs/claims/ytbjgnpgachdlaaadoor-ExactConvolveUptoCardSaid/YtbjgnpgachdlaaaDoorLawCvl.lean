/- ExactConvolve returns true for every input whose numbers have at most 2^21 limbs together (the walk). -/
import Derived.Test.YtbjgnpgachdlaaaDoorExU
import Derived.Test.YtbjgnpgachdlaaaDoorExW
import Derived.Test.YtbjgnpgachdlaaaDoorExY
namespace Go.Proofs.YtbjgnpgachdlaaaDoor
open Go.RowKit

/-- Trials refuses -/
def TrE (q : Nat → Rat) (n : Nat) : Prop := (∃ j, j < n ∧ prb (q j) = false) ∨ ((∀ j, j < n → prb (q j) = true) ∧ 121 ≤ n)
theorem trials_err {N : Nat} (a : Option Addr) (n cap : Nat) (q : Nat → Rat) (L : Nat) (w : World) (hN : N ≤ w.heap.size) (h : Rs N w a n cap q L) (hL : L ≤ 2097152) (hx : TrE q n) :
    Calls Tryd.prog 19 #[.slice a n cap] w fun e w' => ∃ c, (c != 0) = true ∧ e = .returned (.tuple #[.slice none 0 0, .int .i64 c]) ∧ Below w.heap.size w w' := by
  rcases hx with hx | ⟨hx, hn⟩
  · exact (trials_bad a n cap q L w hN h hL hx).mono fun e w' h => ⟨1, by decide, h⟩
  · exact (trials_long a n cap q L w hN h hL hx hn).mono fun e w' h => ⟨3, by decide, h⟩
theorem trials_all {N : Nat} (a : Option Addr) (n cap : Nat) (q : Nat → Rat) (L : Nat) (w : World) (hN : N ≤ w.heap.size) (h : Rs N w a n cap q L) (hL : L ≤ 2097152) (hz : szQ q n + 1 ≤ 2097152) :
    Calls Tryd.prog 19 #[.slice a n cap] w fun e w' => ∃ c a' k cap' x, e = .returned (.tuple #[.slice a' k cap', .int .i64 c]) ∧ Rs N w' a' k cap' x 2097152 ∧ Below w.heap.size w w' := by
  by_cases hx : TrE q n
  · exact (trials_err a n cap q L w hN h hL hx).mono fun e w' ⟨c, _, e1, hb⟩ => ⟨c, none, 0, 0, fun _ => 0, e1, ⟨Nat.le_refl _, Nat.zero_le _, fun h => by omega⟩, hb⟩
  · have hp : ∀ j, j < n → prb (q j) = true := fun j hj => by
      cases hc : prb (q j)
      · exact absurd (Or.inl ⟨j, hj, hc⟩) hx
      · rfl
    have hn : n ≤ 120 := Nat.not_lt.1 fun hh => hx (Or.inr ⟨hp, hh⟩)
    exact (trials_ok a n cap q L w hN h hL hp hn (tri q n) (tri_frq q n hp)).mono fun e w' ⟨b, e1, _, _, hr, hb⟩ => ⟨0, _, _, _, tri q n, e1, hr.rs (by unfold maxLen; omega) 2097152 (fun i hi => Nat.le_trans (tri_rsz q n hp i hi) hz), hb⟩
theorem trE_left {p q : Nat → Rat} {n m : Nat} (h : TrE p n) : TrE (app p n q) (n + m) := by
  rcases h with ⟨j, hj, hf⟩ | ⟨hp, hn⟩
  · exact Or.inl ⟨j, by omega, by unfold app; rw [if_pos hj]; exact hf⟩
  · by_cases hx : ∃ j, j < n + m ∧ prb (app p n q j) = false
    · exact Or.inl hx
    · exact Or.inr ⟨fun j hj => by cases hc : prb (app p n q j); (· exact absurd ⟨j, hj, hc⟩ hx); (· rfl), by omega⟩
theorem trE_right {p q : Nat → Rat} {n m : Nat} (h : TrE q m) : TrE (app p n q) (n + m) := by
  rcases h with ⟨j, hj, hf⟩ | ⟨hp, hn⟩
  · exact Or.inl ⟨n + j, by omega, by unfold app; rw [if_neg (by omega), Nat.add_sub_cancel_left]; exact hf⟩
  · by_cases hx : ∃ j, j < n + m ∧ prb (app p n q j) = false
    · exact Or.inl hx
    · exact Or.inr ⟨fun j hj => by cases hc : prb (app p n q j); (· exact absurd ⟨j, hj, hc⟩ hx); (· rfl), by omega⟩
theorem valid_nil (q : Nat → Rat) : valid q 0 = false := by
  cases h : valid q 0
  · rfl
  · exact absurd (valid_iff.1 h).1 (by omega)
theorem Rs.nil (N : Nat) (w : World) (q : Nat → Rat) (L : Nat) : Rs N w none 0 0 q L := ⟨Nat.le_refl _, Nat.zero_le _, fun h => by omega⟩
theorem Er.keep {N : Nat} {w w' : World} {q : Nat → Rat} {L i : Nat} {v0 v1 v2 : Value} (h : Er N w q L i v0 v1 v2) (hb : Kp N w w') : Er N w' q L i v0 v1 v2 := by
  obtain ⟨s, a, na, ca, d, nd, cd, e0, e1, e2, h⟩ := h
  exact ⟨s, a, na, ca, d, nd, cd, e0, e1, e2, h.keep hb⟩
theorem own_kp {N B : Nat} {w w1 : World} {x : Value} {n : Nat} {xs : List Value} (hx : w.ownsRow B 28 3 x n xs) (hN : N ≤ B) (hg : w.grownBy w1 x.ownBlock) : Kp N w w1 := by
  refine ⟨hg.size, fun b hb ho => hg.block b hb fun e => ?_⟩
  have h1 := hx.lt b e.symm
  rcases hx.2 with ⟨rfl, _⟩ | ⟨g, cap, cur, rfl, hbg, hgg, _⟩
  · simp [Value.ownBlock] at e
  · simp [Value.ownBlock] at e
    subst e
    rcases ho with ho | ⟨c, z, ho⟩
    · omega
    · rw [hgg] at ho; simp at ho
theorem app_first {w w1 : World} (hg : (w.alloc (.cells #[] 28)).grownBy w1 (Value.ownBlock (.slice (some ⟨w.heap.size, 0, none⟩) 0 0))) : Below w.heap.size w w1 :=
  (bel1 w _).grown hg (by simp) (by intro k hk; simp [Value.ownBlock] at hk; omega)
/-- the list that two appends leave -/
theorem joined {N : Nat} {wx wy w2 : World} {n m L base : Nat} {p q : Nat → Rat} {v2 : Value} {xs ys : List Value} (k1 : Cl n (Er N wx p L) xs) (kp1 : Kp N wx w2) (k2 : Cl m (Er N wy q L) ys) (kp2 : Kp N wy w2)
    (own : w2.ownsRow base 28 3 v2 (0 + n + m) ([] ++ xs ++ ys)) : ∃ a2 cap2, v2 = .slice a2 (n + m) cap2 ∧ Rs N w2 a2 (n + m) cap2 (app p n q) L := by
  rw [Nat.zero_add, List.nil_append] at own
  exact Cl.rs own (app_er (k1.imp fun i v0 v1 v2 _ e => e.keep kp1) (k2.imp fun i v0 v1 v2 _ e => e.keep kp2))

set_option maxHeartbeats 8000000 in
theorem cvl_ok {N : Nat} (a a' : Option Addr) (n cap m cap' : Nat) (p q : Nat → Rat) (L : Nat) (w : World) (hN : N ≤ w.heap.size) (h : Rs N w a n cap p L) (h' : Rs N w a' m cap' q L) (hL : L ≤ 2097152) (htab : TabW w) (hz : szQ p n + szQ q m ≤ 1048576) (_hnm : n + m ≤ 1048576) (hp : ∀ j, j < n → prb (p j) = true) (hq : ∀ j, j < m → prb (q j) = true) (hn : n + m ≤ 120) :
    Calls Tryd.prog 5 #[.slice a n cap, .slice a' m cap'] w fun e w' => e = .returned (.bool true) ∧ Below w.heap.size w w' := by
  have HP := Lib.hid hp
  have HQ := Lib.hid hq
  have HPQ := Lib.hid (app_prb p q n m hp hq)
  have hm : m ≤ 120 := by omega
  have hn2 := hn
  have hn : n ≤ 120 := by omega
  have HZa := Lib.hid (show ∀ i, i < n + 1 → rsz (tri p n i) ≤ 2097152 from fun i hi => by have := tri_rsz p n hp i hi; omega)
  have HZb := Lib.hid (show ∀ i, i < m + 1 → rsz (tri q m i) ≤ 2097152 from fun i hi => by have := tri_rsz q m hq i hi; omega)
  have HZc := Lib.hid (show ∀ i, i < n + m + 1 → rsz (tri (app p n q) (n + m) i) ≤ 2097152 from fun i hi => by have := tri_rsz (app p n q) (n + m) (app_prb p q n m hp hq) i hi; rw [szQ_app] at this; omega)
  have HVa := Lib.hid (tri_valid p n hp hn)
  have HVb := Lib.hid (tri_valid q m hq hm)
  have HVc := Lib.hid (tri_valid (app p n q) (n + m) (app_prb p q n m hp hq) hn2)
  have HCV := Lib.hid (show ∀ k, k < n + m + 1 → cnv (tri p n) (n + 1) (tri q m) (m + 1) k = tri (app p n q) (n + m) k from fun k _ => (tri_app p q n m k).symm)
  have d1 : decide (121 - (m : Int) ≤ (n : Int)) = false := by simp; omega
  clear hp hq
  have hN0 := hN
  have HT := Lib.hid htab
  have HA := Lib.hid h
  have HC := Lib.hid h'
  have bc1 := h.1
  have bc2 := h.2.1
  have bd1 := h'.1
  have bd2 := h'.2.1
  unfold maxLen at bc2 bd2
  clear htab h h'
  have HB := Lib.hid (Below.refl w.heap.size w)
  obtain ⟨i0, hi, hz0, hz1, hz2⟩ := info_parts Tryd.infoRat
  go_enter Tryd.func5, Tryd.ntmps5
  go_wp2_with fail
  refine calls_name fun W0 hW => ?_
  have hN_W0 : N ≤ W0.heap.size := by rw [← hW]; (first | omega | (simp; done) | (simp; omega))
  have hs_W0 : w.heap.size ≤ W0.heap.size := by rw [← hW]; (first | omega | (simp; done) | (simp; omega))
  have hs0_W0 : w.heap.size ≤ W0.heap.size := by rw [← hW]; (first | omega | (simp; done) | (simp; omega))
  have HB_W0 := Lib.hid (show Below w.heap.size w W0 by rw [← hW]; (repeat' (first | with_reducible exact Below.refl _ _ | with_reducible exact HB.out | (with_reducible refine Below.alloc ?_ ?_ _; rotate_left; (focus (first | omega | (simp; done) | (simp; omega)))) | with_reducible apply Below.drew | (with_reducible refine Below.setCell ?_ ?_ _; rotate_left; (focus (first | omega | (simp; done) | (simp; omega)))))))
  have HL_W0 := Lib.hid (show Below w.heap.size w W0 by rw [← hW]; (repeat' (first | with_reducible exact Below.refl _ _ | (with_reducible refine Below.alloc ?_ ?_ _; rotate_left; (focus (first | omega | (simp; done) | (simp; omega)))) | with_reducible apply Below.drew | (with_reducible refine Below.setCell ?_ ?_ _; rotate_left; (focus (first | omega | (simp; done) | (simp; omega)))))))
  have HT_W0 := Lib.hid (HT.out.below HL_W0.out)
  have HA_W0 := Lib.hid (HA.out.below HL_W0.out)
  have HC_W0 := Lib.hid (HC.out.below HL_W0.out)
  clear HL_W0
  clear hW
  clear HB hN
  have hN := hN_W0
  have HB := HB_W0
  have hs0 := hs0_W0
  clear hN_W0 HB_W0 hs0_W0
  clear HT HA HC
  have HT := HT_W0
  have HA := HA_W0
  have HC := HC_W0
  clear HT_W0 HA_W0 HC_W0
  refine (trials_ok (N := N) _ _ _ p L _ hN HA.out hL HP.out hn (tri p n) (tri_frq p n HP.out)).mono ?_
  rintro e wa ⟨ba, rfl, hb1a, hb2a, hn, hb⟩
  have HT_wa := Lib.hid (HT.out.below hb)
  have HA_wa := Lib.hid (HA.out.below hb)
  have HC_wa := Lib.hid (HC.out.below hb)
  have hN_wa : N ≤ wa.heap.size := Nat.le_trans hN hb.size
  have hs_wa : W0.heap.size ≤ wa.heap.size := hb.size
  have hs0_wa : w.heap.size ≤ wa.heap.size := Nat.le_trans hs0 hb.size
  have HB_wa := Lib.hid (HB.out.trans (hb.mono hs0))
  clear hb
  clear HB hN hs0
  have hN := hN_wa
  have HB := HB_wa
  have hs0 := hs0_wa
  clear hN_wa HB_wa hs0_wa
  clear HT HA HC
  have HT := HT_wa
  have HA := HA_wa
  have HC := HC_wa
  clear HT_wa HA_wa HC_wa
  have HTa := Lib.hid hn
  clear hn
  go_wp2_with fail
  refine calls_name fun W1 hW => ?_
  have hN_W1 : N ≤ W1.heap.size := by rw [← hW]; (first | omega | (simp; done) | (simp; omega))
  have hs_W1 : wa.heap.size ≤ W1.heap.size := by rw [← hW]; (first | omega | (simp; done) | (simp; omega))
  have hs0_W1 : w.heap.size ≤ W1.heap.size := by rw [← hW]; (first | omega | (simp; done) | (simp; omega))
  have HB_W1 := Lib.hid (show Below w.heap.size w W1 by rw [← hW]; (repeat' (first | with_reducible exact Below.refl _ _ | with_reducible exact HB.out | (with_reducible refine Below.alloc ?_ ?_ _; rotate_left; (focus (first | omega | (simp; done) | (simp; omega)))) | with_reducible apply Below.drew | (with_reducible refine Below.setCell ?_ ?_ _; rotate_left; (focus (first | omega | (simp; done) | (simp; omega)))))))
  have HL_W1 := Lib.hid (show Below wa.heap.size wa W1 by rw [← hW]; (repeat' (first | with_reducible exact Below.refl _ _ | (with_reducible refine Below.alloc ?_ ?_ _; rotate_left; (focus (first | omega | (simp; done) | (simp; omega)))) | with_reducible apply Below.drew | (with_reducible refine Below.setCell ?_ ?_ _; rotate_left; (focus (first | omega | (simp; done) | (simp; omega)))))))
  have HTa_W1 := Lib.hid (HTa.out.below HL_W1.out)
  have HT_W1 := Lib.hid (HT.out.below HL_W1.out)
  have HA_W1 := Lib.hid (HA.out.below HL_W1.out)
  have HC_W1 := Lib.hid (HC.out.below HL_W1.out)
  clear HL_W1
  clear hW
  clear HB hN hs0
  have hN := hN_W1
  have HB := HB_W1
  have hs0 := hs0_W1
  clear hN_W1 HB_W1 hs0_W1
  clear HTa HT HA HC
  have HTa := HTa_W1
  have HT := HT_W1
  have HA := HA_W1
  have HC := HC_W1
  clear HTa_W1 HT_W1 HA_W1 HC_W1
  have lt_HTa := HTa.out.lt
  refine (trials_ok (N := N) _ _ _ q L _ hN HC.out hL HQ.out hm (tri q m) (tri_frq q m HQ.out)).mono ?_
  rintro e wb ⟨bb, rfl, hb1b, hb2b, hn, hb⟩
  have HTa_wb := Lib.hid (HTa.out.below hb)
  have HT_wb := Lib.hid (HT.out.below hb)
  have HA_wb := Lib.hid (HA.out.below hb)
  have HC_wb := Lib.hid (HC.out.below hb)
  have hN_wb : N ≤ wb.heap.size := Nat.le_trans hN hb.size
  have hs_wb : W1.heap.size ≤ wb.heap.size := hb.size
  have hs0_wb : w.heap.size ≤ wb.heap.size := Nat.le_trans hs0 hb.size
  have HB_wb := Lib.hid (HB.out.trans (hb.mono hs0))
  clear hb
  clear HB hN hs0
  have hN := hN_wb
  have HB := HB_wb
  have hs0 := hs0_wb
  clear hN_wb HB_wb hs0_wb
  clear HTa HT HA HC
  have HTa := HTa_wb
  have HT := HT_wb
  have HA := HA_wb
  have HC := HC_wb
  clear HTa_wb HT_wb HA_wb HC_wb
  have HTb := Lib.hid hn
  clear hn
  go_wp2_with (first | (at_builtin; refine wpList_append_rats (N := N) rfl (.tmp 24) (.tmp 25) 47 rfl wb.heap.size i0 (.agg #[.bool false, .slice none 0 0, .slice none 0 0]) Tryd.underRats hi hz0 hz1 hz2 rfl _ 0 [] rfl (World.ownsRow_made wb #[] 0 (Nat.le_refl _) (by decide) rfl) _ n cap p L rfl (HA.out.below (bel1 wb _)) (by unfold maxLen; omega) (by omega) (by simp) ?_; intro v1 w1 xs hc1 ho1 hg1 _; have R1 := Lib.hid (app_first hg1); have KP1 := Lib.hid (own_kp (N := N) (World.ownsRow_made wb #[] 0 (Nat.le_refl _) (by decide) rfl) hN hg1); have HC1 := Lib.hid hc1; have HO1 := Lib.hid ho1; have hsz1 := R1.out.size; clear hc1 ho1 hg1) | (at_builtin; refine wpList_append_rats (N := N) rfl (.tmp 26) (.tmp 27) 47 rfl wb.heap.size i0 (.agg #[.bool false, .slice none 0 0, .slice none 0 0]) Tryd.underRats hi hz0 hz1 hz2 rfl _ (0 + n) ([] ++ xs) rfl HO1.out _ m cap' q L rfl (HC.out.below R1.out) (by unfold maxLen; omega) (by omega) hsz1 ?_; intro v2 w2 ys hc2 ho2 hg2 _; have hb : Below wb.heap.size wb w2 := own_bel HO1.out R1.out hsz1 hg2; obtain ⟨a2, cap2, rfl, hj⟩ := joined HC1.out (KP1.out.trans (own_kp HO1.out hN hg2)) hc2 (own_kp HO1.out hN hg2) ho2; clear hc2 ho2 hg2 HC1 HO1 KP1 R1 hsz1; have HTa_w2 := Lib.hid (HTa.out.below hb); have HTb_w2 := Lib.hid (HTb.out.below hb); have HT_w2 := Lib.hid (HT.out.below hb); have HA_w2 := Lib.hid (HA.out.below hb); have HC_w2 := Lib.hid (HC.out.below hb); have hN_w2 : N ≤ w2.heap.size := Nat.le_trans hN hb.size; have hs_w2 : wb.heap.size ≤ w2.heap.size := hb.size; have hs0_w2 : w.heap.size ≤ w2.heap.size := Nat.le_trans hs0 hb.size; have HB_w2 := Lib.hid (HB.out.trans (hb.mono hs0)); clear hb; clear HB hN hs0; have hN := hN_w2; have HB := HB_w2; have hs0 := hs0_w2; clear hN_w2 HB_w2 hs0_w2; clear HTa HTb HT HA HC; have HTa := HTa_w2; have HTb := HTb_w2; have HT := HT_w2; have HA := HA_w2; have HC := HC_w2; clear HTa_w2 HTb_w2 HT_w2 HA_w2 HC_w2; have HJ := Lib.hid hj; clear hj))
  refine calls_name fun W2 hW => ?_
  have hN_W2 : N ≤ W2.heap.size := by rw [← hW]; (first | omega | (simp; done) | (simp; omega))
  have hs_W2 : w2.heap.size ≤ W2.heap.size := by rw [← hW]; (first | omega | (simp; done) | (simp; omega))
  have hs0_W2 : w.heap.size ≤ W2.heap.size := by rw [← hW]; (first | omega | (simp; done) | (simp; omega))
  have HB_W2 := Lib.hid (show Below w.heap.size w W2 by rw [← hW]; (repeat' (first | with_reducible exact Below.refl _ _ | with_reducible exact HB.out | (with_reducible refine Below.alloc ?_ ?_ _; rotate_left; (focus (first | omega | (simp; done) | (simp; omega)))) | with_reducible apply Below.drew | (with_reducible refine Below.setCell ?_ ?_ _; rotate_left; (focus (first | omega | (simp; done) | (simp; omega)))))))
  have HL_W2 := Lib.hid (show Below w2.heap.size w2 W2 by rw [← hW]; (repeat' (first | with_reducible exact Below.refl _ _ | (with_reducible refine Below.alloc ?_ ?_ _; rotate_left; (focus (first | omega | (simp; done) | (simp; omega)))) | with_reducible apply Below.drew | (with_reducible refine Below.setCell ?_ ?_ _; rotate_left; (focus (first | omega | (simp; done) | (simp; omega)))))))
  have HTa_W2 := Lib.hid (HTa.out.below HL_W2.out)
  have HTb_W2 := Lib.hid (HTb.out.below HL_W2.out)
  have HT_W2 := Lib.hid (HT.out.below HL_W2.out)
  have HA_W2 := Lib.hid (HA.out.below HL_W2.out)
  have HC_W2 := Lib.hid (HC.out.below HL_W2.out)
  have HJ_W2 := Lib.hid (HJ.out.below HL_W2.out)
  clear HL_W2
  clear hW
  clear HB hN hs0
  have hN := hN_W2
  have HB := HB_W2
  have hs0 := hs0_W2
  clear hN_W2 HB_W2 hs0_W2
  clear HTa HTb HT HA HC HJ
  have HTa := HTa_W2
  have HTb := HTb_W2
  have HT := HT_W2
  have HA := HA_W2
  have HC := HC_W2
  have HJ := HJ_W2
  clear HTa_W2 HTb_W2 HT_W2 HA_W2 HC_W2 HJ_W2
  have lt_HTa := HTa.out.lt
  have lt_HTb := HTb.out.lt
  refine (trials_ok (N := N) _ _ _ (app p n q) L _ hN HJ.out hL HPQ.out hn2 (tri (app p n q) (n + m)) (tri_frq (app p n q) (n + m) HPQ.out)).mono ?_
  rintro e wc ⟨bc, rfl, hb1c, hb2c, hn, hb⟩
  have HTa_wc := Lib.hid (HTa.out.below hb)
  have HTb_wc := Lib.hid (HTb.out.below hb)
  have HT_wc := Lib.hid (HT.out.below hb)
  have HA_wc := Lib.hid (HA.out.below hb)
  have HC_wc := Lib.hid (HC.out.below hb)
  have HJ_wc := Lib.hid (HJ.out.below hb)
  have hN_wc : N ≤ wc.heap.size := Nat.le_trans hN hb.size
  have hs_wc : W2.heap.size ≤ wc.heap.size := hb.size
  have hs0_wc : w.heap.size ≤ wc.heap.size := Nat.le_trans hs0 hb.size
  have HB_wc := Lib.hid (HB.out.trans (hb.mono hs0))
  clear hb
  clear HB hN hs0
  have hN := hN_wc
  have HB := HB_wc
  have hs0 := hs0_wc
  clear hN_wc HB_wc hs0_wc
  clear HTa HTb HT HA HC HJ
  have HTa := HTa_wc
  have HTb := HTb_wc
  have HT := HT_wc
  have HA := HA_wc
  have HC := HC_wc
  have HJ := HJ_wc
  clear HTa_wc HTb_wc HT_wc HA_wc HC_wc HJ_wc
  have HTc := Lib.hid hn
  clear hn
  go_wp2_with fail
  refine calls_name fun W4 hW => ?_
  have hN_W4 : N ≤ W4.heap.size := by rw [← hW]; (first | omega | (simp; done) | (simp; omega))
  have hs_W4 : wc.heap.size ≤ W4.heap.size := by rw [← hW]; (first | omega | (simp; done) | (simp; omega))
  have hs0_W4 : w.heap.size ≤ W4.heap.size := by rw [← hW]; (first | omega | (simp; done) | (simp; omega))
  have HB_W4 := Lib.hid (show Below w.heap.size w W4 by rw [← hW]; (repeat' (first | with_reducible exact Below.refl _ _ | with_reducible exact HB.out | (with_reducible refine Below.alloc ?_ ?_ _; rotate_left; (focus (first | omega | (simp; done) | (simp; omega)))) | with_reducible apply Below.drew | (with_reducible refine Below.setCell ?_ ?_ _; rotate_left; (focus (first | omega | (simp; done) | (simp; omega)))))))
  have HL_W4 := Lib.hid (show Below wc.heap.size wc W4 by rw [← hW]; (repeat' (first | with_reducible exact Below.refl _ _ | (with_reducible refine Below.alloc ?_ ?_ _; rotate_left; (focus (first | omega | (simp; done) | (simp; omega)))) | with_reducible apply Below.drew | (with_reducible refine Below.setCell ?_ ?_ _; rotate_left; (focus (first | omega | (simp; done) | (simp; omega)))))))
  have HTa_W4 := Lib.hid (HTa.out.below HL_W4.out)
  have HTb_W4 := Lib.hid (HTb.out.below HL_W4.out)
  have HTc_W4 := Lib.hid (HTc.out.below HL_W4.out)
  have HT_W4 := Lib.hid (HT.out.below HL_W4.out)
  have HA_W4 := Lib.hid (HA.out.below HL_W4.out)
  have HC_W4 := Lib.hid (HC.out.below HL_W4.out)
  have HJ_W4 := Lib.hid (HJ.out.below HL_W4.out)
  clear HL_W4
  clear hW
  clear HB hN hs0
  have hN := hN_W4
  have HB := HB_W4
  have hs0 := hs0_W4
  clear hN_W4 HB_W4 hs0_W4
  clear HTa HTb HTc HT HA HC HJ
  have HTa := HTa_W4
  have HTb := HTb_W4
  have HTc := HTc_W4
  have HT := HT_W4
  have HA := HA_W4
  have HC := HC_W4
  have HJ := HJ_W4
  clear HTa_W4 HTb_W4 HTc_W4 HT_W4 HA_W4 HC_W4 HJ_W4
  have lt_HTa := HTa.out.lt
  have lt_HTb := HTb.out.lt
  have lt_HTc := HTc.out.lt
  refine (Convolve_ok (N := N) _ _ _ _ _ _ (tri p n) (tri q m) 2097152 _ hN (HTa.out.rs (by unfold maxLen; omega) 2097152 HZa.out) (HTb.out.rs (by unfold maxLen; omega) 2097152 HZb.out) (by omega) HVa.out HVb.out (n + m + 1) (by omega) (by omega) (tri (app p n q) (n + m)) HCV.out).mono ?_
  rintro e wd ⟨bd, rfl, hb1d, hb2d, hn, hb⟩
  have HTa_wd := Lib.hid (HTa.out.below hb)
  have HTb_wd := Lib.hid (HTb.out.below hb)
  have HTc_wd := Lib.hid (HTc.out.below hb)
  have HT_wd := Lib.hid (HT.out.below hb)
  have HA_wd := Lib.hid (HA.out.below hb)
  have HC_wd := Lib.hid (HC.out.below hb)
  have HJ_wd := Lib.hid (HJ.out.below hb)
  have hN_wd : N ≤ wd.heap.size := Nat.le_trans hN hb.size
  have hs_wd : W4.heap.size ≤ wd.heap.size := hb.size
  have hs0_wd : w.heap.size ≤ wd.heap.size := Nat.le_trans hs0 hb.size
  have HB_wd := Lib.hid (HB.out.trans (hb.mono hs0))
  clear hb
  clear HB hN hs0
  have hN := hN_wd
  have HB := HB_wd
  have hs0 := hs0_wd
  clear hN_wd HB_wd hs0_wd
  clear HTa HTb HTc HT HA HC HJ
  have HTa := HTa_wd
  have HTb := HTb_wd
  have HTc := HTc_wd
  have HT := HT_wd
  have HA := HA_wd
  have HC := HC_wd
  have HJ := HJ_wd
  clear HTa_wd HTb_wd HTc_wd HT_wd HA_wd HC_wd HJ_wd
  have HTd := Lib.hid hn
  clear hn
  go_wp2_with fail
  refine calls_name fun W5 hW => ?_
  have hN_W5 : N ≤ W5.heap.size := by rw [← hW]; (first | omega | (simp; done) | (simp; omega))
  have hs_W5 : wd.heap.size ≤ W5.heap.size := by rw [← hW]; (first | omega | (simp; done) | (simp; omega))
  have hs0_W5 : w.heap.size ≤ W5.heap.size := by rw [← hW]; (first | omega | (simp; done) | (simp; omega))
  have HB_W5 := Lib.hid (show Below w.heap.size w W5 by rw [← hW]; (repeat' (first | with_reducible exact Below.refl _ _ | with_reducible exact HB.out | (with_reducible refine Below.alloc ?_ ?_ _; rotate_left; (focus (first | omega | (simp; done) | (simp; omega)))) | with_reducible apply Below.drew | (with_reducible refine Below.setCell ?_ ?_ _; rotate_left; (focus (first | omega | (simp; done) | (simp; omega)))))))
  have HL_W5 := Lib.hid (show Below wd.heap.size wd W5 by rw [← hW]; (repeat' (first | with_reducible exact Below.refl _ _ | (with_reducible refine Below.alloc ?_ ?_ _; rotate_left; (focus (first | omega | (simp; done) | (simp; omega)))) | with_reducible apply Below.drew | (with_reducible refine Below.setCell ?_ ?_ _; rotate_left; (focus (first | omega | (simp; done) | (simp; omega)))))))
  have HTa_W5 := Lib.hid (HTa.out.below HL_W5.out)
  have HTb_W5 := Lib.hid (HTb.out.below HL_W5.out)
  have HTc_W5 := Lib.hid (HTc.out.below HL_W5.out)
  have HTd_W5 := Lib.hid (HTd.out.below HL_W5.out)
  have HT_W5 := Lib.hid (HT.out.below HL_W5.out)
  have HA_W5 := Lib.hid (HA.out.below HL_W5.out)
  have HC_W5 := Lib.hid (HC.out.below HL_W5.out)
  have HJ_W5 := Lib.hid (HJ.out.below HL_W5.out)
  clear HL_W5
  clear hW
  clear HB hN hs0
  have hN := hN_W5
  have HB := HB_W5
  have hs0 := hs0_W5
  clear hN_W5 HB_W5 hs0_W5
  clear HTa HTb HTc HTd HT HA HC HJ
  have HTa := HTa_W5
  have HTb := HTb_W5
  have HTc := HTc_W5
  have HTd := HTd_W5
  have HT := HT_W5
  have HA := HA_W5
  have HC := HC_W5
  have HJ := HJ_W5
  clear HTa_W5 HTb_W5 HTc_W5 HTd_W5 HT_W5 HA_W5 HC_W5 HJ_W5
  have lt_HTa := HTa.out.lt
  have lt_HTb := HTb.out.lt
  have lt_HTc := HTc.out.lt
  have lt_HTd := HTd.out.lt
  refine (Valid_any (N := N) _ _ _ (tri (app p n q) (n + m)) 2097152 _ hN (HTc.out.rs (by unfold maxLen; omega) 2097152 HZc.out) (by omega) true HVc.out).mono ?_
  rintro e we ⟨rfl, hb⟩
  have HTa_we := Lib.hid (HTa.out.below hb)
  have HTb_we := Lib.hid (HTb.out.below hb)
  have HTc_we := Lib.hid (HTc.out.below hb)
  have HTd_we := Lib.hid (HTd.out.below hb)
  have HT_we := Lib.hid (HT.out.below hb)
  have HA_we := Lib.hid (HA.out.below hb)
  have HC_we := Lib.hid (HC.out.below hb)
  have HJ_we := Lib.hid (HJ.out.below hb)
  have hN_we : N ≤ we.heap.size := Nat.le_trans hN hb.size
  have hs_we : W5.heap.size ≤ we.heap.size := hb.size
  have hs0_we : w.heap.size ≤ we.heap.size := Nat.le_trans hs0 hb.size
  have HB_we := Lib.hid (HB.out.trans (hb.mono hs0))
  clear hb
  clear HB hN hs0
  have hN := hN_we
  have HB := HB_we
  have hs0 := hs0_we
  clear hN_we HB_we hs0_we
  clear HTa HTb HTc HTd HT HA HC HJ
  have HTa := HTa_we
  have HTb := HTb_we
  have HTc := HTc_we
  have HTd := HTd_we
  have HT := HT_we
  have HA := HA_we
  have HC := HC_we
  have HJ := HJ_we
  clear HTa_we HTb_we HTc_we HTd_we HT_we HA_we HC_we HJ_we
  go_wp2_with fail
  refine calls_name fun W6 hW => ?_
  have hN_W6 : N ≤ W6.heap.size := by rw [← hW]; (first | omega | (simp; done) | (simp; omega))
  have hs_W6 : we.heap.size ≤ W6.heap.size := by rw [← hW]; (first | omega | (simp; done) | (simp; omega))
  have hs0_W6 : w.heap.size ≤ W6.heap.size := by rw [← hW]; (first | omega | (simp; done) | (simp; omega))
  have HB_W6 := Lib.hid (show Below w.heap.size w W6 by rw [← hW]; (repeat' (first | with_reducible exact Below.refl _ _ | with_reducible exact HB.out | (with_reducible refine Below.alloc ?_ ?_ _; rotate_left; (focus (first | omega | (simp; done) | (simp; omega)))) | with_reducible apply Below.drew | (with_reducible refine Below.setCell ?_ ?_ _; rotate_left; (focus (first | omega | (simp; done) | (simp; omega)))))))
  have HL_W6 := Lib.hid (show Below we.heap.size we W6 by rw [← hW]; (repeat' (first | with_reducible exact Below.refl _ _ | (with_reducible refine Below.alloc ?_ ?_ _; rotate_left; (focus (first | omega | (simp; done) | (simp; omega)))) | with_reducible apply Below.drew | (with_reducible refine Below.setCell ?_ ?_ _; rotate_left; (focus (first | omega | (simp; done) | (simp; omega)))))))
  have HTa_W6 := Lib.hid (HTa.out.below HL_W6.out)
  have HTb_W6 := Lib.hid (HTb.out.below HL_W6.out)
  have HTc_W6 := Lib.hid (HTc.out.below HL_W6.out)
  have HTd_W6 := Lib.hid (HTd.out.below HL_W6.out)
  have HT_W6 := Lib.hid (HT.out.below HL_W6.out)
  have HA_W6 := Lib.hid (HA.out.below HL_W6.out)
  have HC_W6 := Lib.hid (HC.out.below HL_W6.out)
  have HJ_W6 := Lib.hid (HJ.out.below HL_W6.out)
  clear HL_W6
  clear hW
  clear HB hN hs0
  have hN := hN_W6
  have HB := HB_W6
  have hs0 := hs0_W6
  clear hN_W6 HB_W6 hs0_W6
  clear HTa HTb HTc HTd HT HA HC HJ
  have HTa := HTa_W6
  have HTb := HTb_W6
  have HTc := HTc_W6
  have HTd := HTd_W6
  have HT := HT_W6
  have HA := HA_W6
  have HC := HC_W6
  have HJ := HJ_W6
  clear HTa_W6 HTb_W6 HTc_W6 HTd_W6 HT_W6 HA_W6 HC_W6 HJ_W6
  have lt_HTa := HTa.out.lt
  have lt_HTb := HTb.out.lt
  have lt_HTc := HTc.out.lt
  have lt_HTd := HTd.out.lt
  refine (SameList_any (N := N) _ _ _ (tri (app p n q) (n + m)) _ hN (by omega) HTc.out HTd.out).mono ?_
  rintro e wf ⟨rfl, hb⟩
  have HTa_wf := Lib.hid (HTa.out.below hb)
  have HTb_wf := Lib.hid (HTb.out.below hb)
  have HTc_wf := Lib.hid (HTc.out.below hb)
  have HTd_wf := Lib.hid (HTd.out.below hb)
  have HT_wf := Lib.hid (HT.out.below hb)
  have HA_wf := Lib.hid (HA.out.below hb)
  have HC_wf := Lib.hid (HC.out.below hb)
  have HJ_wf := Lib.hid (HJ.out.below hb)
  have hN_wf : N ≤ wf.heap.size := Nat.le_trans hN hb.size
  have hs_wf : W6.heap.size ≤ wf.heap.size := hb.size
  have hs0_wf : w.heap.size ≤ wf.heap.size := Nat.le_trans hs0 hb.size
  have HB_wf := Lib.hid (HB.out.trans (hb.mono hs0))
  clear hb
  clear HB hN hs0
  have hN := hN_wf
  have HB := HB_wf
  have hs0 := hs0_wf
  clear hN_wf HB_wf hs0_wf
  clear HTa HTb HTc HTd HT HA HC HJ
  have HTa := HTa_wf
  have HTb := HTb_wf
  have HTc := HTc_wf
  have HTd := HTd_wf
  have HT := HT_wf
  have HA := HA_wf
  have HC := HC_wf
  have HJ := HJ_wf
  clear HTa_wf HTb_wf HTc_wf HTd_wf HT_wf HA_wf HC_wf HJ_wf
  go_wp2_with fail
  refine calls_name fun W7 hW => ?_
  have hN_W7 : N ≤ W7.heap.size := by rw [← hW]; (first | omega | (simp; done) | (simp; omega))
  have hs_W7 : wf.heap.size ≤ W7.heap.size := by rw [← hW]; (first | omega | (simp; done) | (simp; omega))
  have hs0_W7 : w.heap.size ≤ W7.heap.size := by rw [← hW]; (first | omega | (simp; done) | (simp; omega))
  have HB_W7 := Lib.hid (show Below w.heap.size w W7 by rw [← hW]; (repeat' (first | with_reducible exact Below.refl _ _ | with_reducible exact HB.out | (with_reducible refine Below.alloc ?_ ?_ _; rotate_left; (focus (first | omega | (simp; done) | (simp; omega)))) | with_reducible apply Below.drew | (with_reducible refine Below.setCell ?_ ?_ _; rotate_left; (focus (first | omega | (simp; done) | (simp; omega)))))))
  have HL_W7 := Lib.hid (show Below wf.heap.size wf W7 by rw [← hW]; (repeat' (first | with_reducible exact Below.refl _ _ | (with_reducible refine Below.alloc ?_ ?_ _; rotate_left; (focus (first | omega | (simp; done) | (simp; omega)))) | with_reducible apply Below.drew | (with_reducible refine Below.setCell ?_ ?_ _; rotate_left; (focus (first | omega | (simp; done) | (simp; omega)))))))
  have HTa_W7 := Lib.hid (HTa.out.below HL_W7.out)
  have HTb_W7 := Lib.hid (HTb.out.below HL_W7.out)
  have HTc_W7 := Lib.hid (HTc.out.below HL_W7.out)
  have HTd_W7 := Lib.hid (HTd.out.below HL_W7.out)
  have HT_W7 := Lib.hid (HT.out.below HL_W7.out)
  have HA_W7 := Lib.hid (HA.out.below HL_W7.out)
  have HC_W7 := Lib.hid (HC.out.below HL_W7.out)
  have HJ_W7 := Lib.hid (HJ.out.below HL_W7.out)
  clear HL_W7
  clear hW
  clear HB hN hs0
  have hN := hN_W7
  have HB := HB_W7
  have hs0 := hs0_W7
  clear hN_W7 HB_W7 hs0_W7
  clear HTa HTb HTc HTd HT HA HC HJ
  have HTa := HTa_W7
  have HTb := HTb_W7
  have HTc := HTc_W7
  have HTd := HTd_W7
  have HT := HT_W7
  have HA := HA_W7
  have HC := HC_W7
  have HJ := HJ_W7
  clear HTa_W7 HTb_W7 HTc_W7 HTd_W7 HT_W7 HA_W7 HC_W7 HJ_W7
  have lt_HTa := HTa.out.lt
  have lt_HTb := HTb.out.lt
  have lt_HTc := HTc.out.lt
  have lt_HTd := HTd.out.lt
  refine (adds_any (N := N) _ _ _ _ _ _ _ _ _ (tri p n) (tri q m) (tri (app p n q) (n + m)) 2097152 _ hN (HTa.out.rs (by unfold maxLen; omega) 2097152 HZa.out) (HTb.out.rs (by unfold maxLen; omega) 2097152 HZb.out) (HTc.out.rs (by unfold maxLen; omega) 2097152 HZc.out) (by omega) HVa.out HVb.out HVc.out (app_mean p q n m) (app_var p q n m)).mono ?_
  rintro e wg ⟨rfl, hb⟩
  have HTa_wg := Lib.hid (HTa.out.below hb)
  have HTb_wg := Lib.hid (HTb.out.below hb)
  have HTc_wg := Lib.hid (HTc.out.below hb)
  have HTd_wg := Lib.hid (HTd.out.below hb)
  have HT_wg := Lib.hid (HT.out.below hb)
  have HA_wg := Lib.hid (HA.out.below hb)
  have HC_wg := Lib.hid (HC.out.below hb)
  have HJ_wg := Lib.hid (HJ.out.below hb)
  have hN_wg : N ≤ wg.heap.size := Nat.le_trans hN hb.size
  have hs_wg : W7.heap.size ≤ wg.heap.size := hb.size
  have hs0_wg : w.heap.size ≤ wg.heap.size := Nat.le_trans hs0 hb.size
  have HB_wg := Lib.hid (HB.out.trans (hb.mono hs0))
  clear hb
  clear HB hN hs0
  have hN := hN_wg
  have HB := HB_wg
  have hs0 := hs0_wg
  clear hN_wg HB_wg hs0_wg
  clear HTa HTb HTc HTd HT HA HC HJ
  have HTa := HTa_wg
  have HTb := HTb_wg
  have HTc := HTc_wg
  have HTd := HTd_wg
  have HT := HT_wg
  have HA := HA_wg
  have HC := HC_wg
  have HJ := HJ_wg
  clear HTa_wg HTb_wg HTc_wg HTd_wg HT_wg HA_wg HC_wg HJ_wg
  go_wp2_with fail
  refine calls_name fun W8 hW => ?_
  have hN_W8 : N ≤ W8.heap.size := by rw [← hW]; (first | omega | (simp; done) | (simp; omega))
  have hs_W8 : wg.heap.size ≤ W8.heap.size := by rw [← hW]; (first | omega | (simp; done) | (simp; omega))
  have hs0_W8 : w.heap.size ≤ W8.heap.size := by rw [← hW]; (first | omega | (simp; done) | (simp; omega))
  have HB_W8 := Lib.hid (show Below w.heap.size w W8 by rw [← hW]; (repeat' (first | with_reducible exact Below.refl _ _ | with_reducible exact HB.out | (with_reducible refine Below.alloc ?_ ?_ _; rotate_left; (focus (first | omega | (simp; done) | (simp; omega)))) | with_reducible apply Below.drew | (with_reducible refine Below.setCell ?_ ?_ _; rotate_left; (focus (first | omega | (simp; done) | (simp; omega)))))))
  have HL_W8 := Lib.hid (show Below wg.heap.size wg W8 by rw [← hW]; (repeat' (first | with_reducible exact Below.refl _ _ | (with_reducible refine Below.alloc ?_ ?_ _; rotate_left; (focus (first | omega | (simp; done) | (simp; omega)))) | with_reducible apply Below.drew | (with_reducible refine Below.setCell ?_ ?_ _; rotate_left; (focus (first | omega | (simp; done) | (simp; omega)))))))
  have HTa_W8 := Lib.hid (HTa.out.below HL_W8.out)
  have HTb_W8 := Lib.hid (HTb.out.below HL_W8.out)
  have HTc_W8 := Lib.hid (HTc.out.below HL_W8.out)
  have HTd_W8 := Lib.hid (HTd.out.below HL_W8.out)
  have HT_W8 := Lib.hid (HT.out.below HL_W8.out)
  have HA_W8 := Lib.hid (HA.out.below HL_W8.out)
  have HC_W8 := Lib.hid (HC.out.below HL_W8.out)
  have HJ_W8 := Lib.hid (HJ.out.below HL_W8.out)
  clear HL_W8
  clear hW
  clear HB hN hs0
  have hN := hN_W8
  have HB := HB_W8
  have hs0 := hs0_W8
  clear hN_W8 HB_W8 hs0_W8
  clear HTa HTb HTc HTd HT HA HC HJ
  have HTa := HTa_W8
  have HTb := HTb_W8
  have HTc := HTc_W8
  have HTd := HTd_W8
  have HT := HT_W8
  have HA := HA_W8
  have HC := HC_W8
  have HJ := HJ_W8
  clear HTa_W8 HTb_W8 HTc_W8 HTd_W8 HT_W8 HA_W8 HC_W8 HJ_W8
  have lt_HTa := HTa.out.lt
  have lt_HTb := HTb.out.lt
  have lt_HTc := HTc.out.lt
  have lt_HTd := HTd.out.lt
  refine (awake_any (N := N) _ hN HT.out).mono ?_
  rintro e wh ⟨rfl, hb⟩
  have HTa_wh := Lib.hid (HTa.out.below hb)
  have HTb_wh := Lib.hid (HTb.out.below hb)
  have HTc_wh := Lib.hid (HTc.out.below hb)
  have HTd_wh := Lib.hid (HTd.out.below hb)
  have HT_wh := Lib.hid (HT.out.below hb)
  have HA_wh := Lib.hid (HA.out.below hb)
  have HC_wh := Lib.hid (HC.out.below hb)
  have HJ_wh := Lib.hid (HJ.out.below hb)
  have hN_wh : N ≤ wh.heap.size := Nat.le_trans hN hb.size
  have hs_wh : W8.heap.size ≤ wh.heap.size := hb.size
  have hs0_wh : w.heap.size ≤ wh.heap.size := Nat.le_trans hs0 hb.size
  have HB_wh := Lib.hid (HB.out.trans (hb.mono hs0))
  clear hb
  clear HB hN hs0
  have hN := hN_wh
  have HB := HB_wh
  have hs0 := hs0_wh
  clear hN_wh HB_wh hs0_wh
  clear HTa HTb HTc HTd HT HA HC HJ
  have HTa := HTa_wh
  have HTb := HTb_wh
  have HTc := HTc_wh
  have HTd := HTd_wh
  have HT := HT_wh
  have HA := HA_wh
  have HC := HC_wh
  have HJ := HJ_wh
  clear HTa_wh HTb_wh HTc_wh HTd_wh HT_wh HA_wh HC_wh HJ_wh
  go_wp2_with fail
  go_ret
  exact ⟨rfl, HB.out⟩

set_option maxHeartbeats 8000000 in
theorem cvl_long {N : Nat} (a a' : Option Addr) (n cap m cap' : Nat) (p q : Nat → Rat) (L : Nat) (w : World) (hN : N ≤ w.heap.size) (h : Rs N w a n cap p L) (h' : Rs N w a' m cap' q L) (hL : L ≤ 2097152) (htab : TabW w) (hz : szQ p n + szQ q m ≤ 1048576) (hnm : n + m ≤ 1048576) (hp : ∀ j, j < n → prb (p j) = true) (hq : ∀ j, j < m → prb (q j) = true) (hn : n ≤ 120) (hm : m ≤ 120) (hlong : 121 ≤ n + m) :
    Calls Tryd.prog 5 #[.slice a n cap, .slice a' m cap'] w fun e w' => e = .returned (.bool true) ∧ Below w.heap.size w w' := by
  have d1 : decide (121 - (m : Int) ≤ (n : Int)) = true := by simp; omega
  have HP := Lib.hid hp
  have HQ := Lib.hid hq
  have HPQ := Lib.hid (app_prb p q n m hp hq)
  have HZa := Lib.hid (show ∀ i, i < n + 1 → rsz (tri p n i) ≤ 2097152 from fun i hi => by have := tri_rsz p n hp i hi; omega)
  have HZb := Lib.hid (show ∀ i, i < m + 1 → rsz (tri q m i) ≤ 2097152 from fun i hi => by have := tri_rsz q m hq i hi; omega)
  have HVa := Lib.hid (tri_valid p n hp hn)
  have HVb := Lib.hid (tri_valid q m hq hm)
  clear hp hq
  have hN0 := hN
  have HT := Lib.hid htab
  have HA := Lib.hid h
  have HC := Lib.hid h'
  have bc1 := h.1
  have bc2 := h.2.1
  have bd1 := h'.1
  have bd2 := h'.2.1
  unfold maxLen at bc2 bd2
  clear htab h h'
  have HB := Lib.hid (Below.refl w.heap.size w)
  obtain ⟨i0, hi, hz0, hz1, hz2⟩ := info_parts Tryd.infoRat
  go_enter Tryd.func5, Tryd.ntmps5
  go_wp2_with fail
  refine calls_name fun W0 hW => ?_
  have hN_W0 : N ≤ W0.heap.size := by rw [← hW]; (first | omega | (simp; done) | (simp; omega))
  have hs_W0 : w.heap.size ≤ W0.heap.size := by rw [← hW]; (first | omega | (simp; done) | (simp; omega))
  have hs0_W0 : w.heap.size ≤ W0.heap.size := by rw [← hW]; (first | omega | (simp; done) | (simp; omega))
  have HB_W0 := Lib.hid (show Below w.heap.size w W0 by rw [← hW]; (repeat' (first | with_reducible exact Below.refl _ _ | with_reducible exact HB.out | (with_reducible refine Below.alloc ?_ ?_ _; rotate_left; (focus (first | omega | (simp; done) | (simp; omega)))) | with_reducible apply Below.drew | (with_reducible refine Below.setCell ?_ ?_ _; rotate_left; (focus (first | omega | (simp; done) | (simp; omega)))))))
  have HL_W0 := Lib.hid (show Below w.heap.size w W0 by rw [← hW]; (repeat' (first | with_reducible exact Below.refl _ _ | (with_reducible refine Below.alloc ?_ ?_ _; rotate_left; (focus (first | omega | (simp; done) | (simp; omega)))) | with_reducible apply Below.drew | (with_reducible refine Below.setCell ?_ ?_ _; rotate_left; (focus (first | omega | (simp; done) | (simp; omega)))))))
  have HT_W0 := Lib.hid (HT.out.below HL_W0.out)
  have HA_W0 := Lib.hid (HA.out.below HL_W0.out)
  have HC_W0 := Lib.hid (HC.out.below HL_W0.out)
  clear HL_W0
  clear hW
  clear HB hN
  have hN := hN_W0
  have HB := HB_W0
  have hs0 := hs0_W0
  clear hN_W0 HB_W0 hs0_W0
  clear HT HA HC
  have HT := HT_W0
  have HA := HA_W0
  have HC := HC_W0
  clear HT_W0 HA_W0 HC_W0
  refine (trials_ok (N := N) _ _ _ p L _ hN HA.out hL HP.out hn (tri p n) (tri_frq p n HP.out)).mono ?_
  rintro e wa ⟨ba, rfl, hb1a, hb2a, hn, hb⟩
  have HT_wa := Lib.hid (HT.out.below hb)
  have HA_wa := Lib.hid (HA.out.below hb)
  have HC_wa := Lib.hid (HC.out.below hb)
  have hN_wa : N ≤ wa.heap.size := Nat.le_trans hN hb.size
  have hs_wa : W0.heap.size ≤ wa.heap.size := hb.size
  have hs0_wa : w.heap.size ≤ wa.heap.size := Nat.le_trans hs0 hb.size
  have HB_wa := Lib.hid (HB.out.trans (hb.mono hs0))
  clear hb
  clear HB hN hs0
  have hN := hN_wa
  have HB := HB_wa
  have hs0 := hs0_wa
  clear hN_wa HB_wa hs0_wa
  clear HT HA HC
  have HT := HT_wa
  have HA := HA_wa
  have HC := HC_wa
  clear HT_wa HA_wa HC_wa
  have HTa := Lib.hid hn
  clear hn
  go_wp2_with fail
  refine calls_name fun W1 hW => ?_
  have hN_W1 : N ≤ W1.heap.size := by rw [← hW]; (first | omega | (simp; done) | (simp; omega))
  have hs_W1 : wa.heap.size ≤ W1.heap.size := by rw [← hW]; (first | omega | (simp; done) | (simp; omega))
  have hs0_W1 : w.heap.size ≤ W1.heap.size := by rw [← hW]; (first | omega | (simp; done) | (simp; omega))
  have HB_W1 := Lib.hid (show Below w.heap.size w W1 by rw [← hW]; (repeat' (first | with_reducible exact Below.refl _ _ | with_reducible exact HB.out | (with_reducible refine Below.alloc ?_ ?_ _; rotate_left; (focus (first | omega | (simp; done) | (simp; omega)))) | with_reducible apply Below.drew | (with_reducible refine Below.setCell ?_ ?_ _; rotate_left; (focus (first | omega | (simp; done) | (simp; omega)))))))
  have HL_W1 := Lib.hid (show Below wa.heap.size wa W1 by rw [← hW]; (repeat' (first | with_reducible exact Below.refl _ _ | (with_reducible refine Below.alloc ?_ ?_ _; rotate_left; (focus (first | omega | (simp; done) | (simp; omega)))) | with_reducible apply Below.drew | (with_reducible refine Below.setCell ?_ ?_ _; rotate_left; (focus (first | omega | (simp; done) | (simp; omega)))))))
  have HTa_W1 := Lib.hid (HTa.out.below HL_W1.out)
  have HT_W1 := Lib.hid (HT.out.below HL_W1.out)
  have HA_W1 := Lib.hid (HA.out.below HL_W1.out)
  have HC_W1 := Lib.hid (HC.out.below HL_W1.out)
  clear HL_W1
  clear hW
  clear HB hN hs0
  have hN := hN_W1
  have HB := HB_W1
  have hs0 := hs0_W1
  clear hN_W1 HB_W1 hs0_W1
  clear HTa HT HA HC
  have HTa := HTa_W1
  have HT := HT_W1
  have HA := HA_W1
  have HC := HC_W1
  clear HTa_W1 HT_W1 HA_W1 HC_W1
  have lt_HTa := HTa.out.lt
  refine (trials_ok (N := N) _ _ _ q L _ hN HC.out hL HQ.out hm (tri q m) (tri_frq q m HQ.out)).mono ?_
  rintro e wb ⟨bb, rfl, hb1b, hb2b, hn, hb⟩
  have HTa_wb := Lib.hid (HTa.out.below hb)
  have HT_wb := Lib.hid (HT.out.below hb)
  have HA_wb := Lib.hid (HA.out.below hb)
  have HC_wb := Lib.hid (HC.out.below hb)
  have hN_wb : N ≤ wb.heap.size := Nat.le_trans hN hb.size
  have hs_wb : W1.heap.size ≤ wb.heap.size := hb.size
  have hs0_wb : w.heap.size ≤ wb.heap.size := Nat.le_trans hs0 hb.size
  have HB_wb := Lib.hid (HB.out.trans (hb.mono hs0))
  clear hb
  clear HB hN hs0
  have hN := hN_wb
  have HB := HB_wb
  have hs0 := hs0_wb
  clear hN_wb HB_wb hs0_wb
  clear HTa HT HA HC
  have HTa := HTa_wb
  have HT := HT_wb
  have HA := HA_wb
  have HC := HC_wb
  clear HTa_wb HT_wb HA_wb HC_wb
  have HTb := Lib.hid hn
  clear hn
  go_wp2_with (first | (at_builtin; refine wpList_append_rats (N := N) rfl (.tmp 24) (.tmp 25) 47 rfl wb.heap.size i0 (.agg #[.bool false, .slice none 0 0, .slice none 0 0]) Tryd.underRats hi hz0 hz1 hz2 rfl _ 0 [] rfl (World.ownsRow_made wb #[] 0 (Nat.le_refl _) (by decide) rfl) _ n cap p L rfl (HA.out.below (bel1 wb _)) (by unfold maxLen; omega) (by omega) (by simp) ?_; intro v1 w1 xs hc1 ho1 hg1 _; have R1 := Lib.hid (app_first hg1); have KP1 := Lib.hid (own_kp (N := N) (World.ownsRow_made wb #[] 0 (Nat.le_refl _) (by decide) rfl) hN hg1); have HC1 := Lib.hid hc1; have HO1 := Lib.hid ho1; have hsz1 := R1.out.size; clear hc1 ho1 hg1) | (at_builtin; refine wpList_append_rats (N := N) rfl (.tmp 26) (.tmp 27) 47 rfl wb.heap.size i0 (.agg #[.bool false, .slice none 0 0, .slice none 0 0]) Tryd.underRats hi hz0 hz1 hz2 rfl _ (0 + n) ([] ++ xs) rfl HO1.out _ m cap' q L rfl (HC.out.below R1.out) (by unfold maxLen; omega) (by omega) hsz1 ?_; intro v2 w2 ys hc2 ho2 hg2 _; have hb : Below wb.heap.size wb w2 := own_bel HO1.out R1.out hsz1 hg2; obtain ⟨a2, cap2, rfl, hj⟩ := joined HC1.out (KP1.out.trans (own_kp HO1.out hN hg2)) hc2 (own_kp HO1.out hN hg2) ho2; clear hc2 ho2 hg2 HC1 HO1 KP1 R1 hsz1; have HTa_w2 := Lib.hid (HTa.out.below hb); have HTb_w2 := Lib.hid (HTb.out.below hb); have HT_w2 := Lib.hid (HT.out.below hb); have HA_w2 := Lib.hid (HA.out.below hb); have HC_w2 := Lib.hid (HC.out.below hb); have hN_w2 : N ≤ w2.heap.size := Nat.le_trans hN hb.size; have hs_w2 : wb.heap.size ≤ w2.heap.size := hb.size; have hs0_w2 : w.heap.size ≤ w2.heap.size := Nat.le_trans hs0 hb.size; have HB_w2 := Lib.hid (HB.out.trans (hb.mono hs0)); clear hb; clear HB hN hs0; have hN := hN_w2; have HB := HB_w2; have hs0 := hs0_w2; clear hN_w2 HB_w2 hs0_w2; clear HTa HTb HT HA HC; have HTa := HTa_w2; have HTb := HTb_w2; have HT := HT_w2; have HA := HA_w2; have HC := HC_w2; clear HTa_w2 HTb_w2 HT_w2 HA_w2 HC_w2; have HJ := Lib.hid hj; clear hj))
  refine calls_name fun W2 hW => ?_
  have hN_W2 : N ≤ W2.heap.size := by rw [← hW]; (first | omega | (simp; done) | (simp; omega))
  have hs_W2 : w2.heap.size ≤ W2.heap.size := by rw [← hW]; (first | omega | (simp; done) | (simp; omega))
  have hs0_W2 : w.heap.size ≤ W2.heap.size := by rw [← hW]; (first | omega | (simp; done) | (simp; omega))
  have HB_W2 := Lib.hid (show Below w.heap.size w W2 by rw [← hW]; (repeat' (first | with_reducible exact Below.refl _ _ | with_reducible exact HB.out | (with_reducible refine Below.alloc ?_ ?_ _; rotate_left; (focus (first | omega | (simp; done) | (simp; omega)))) | with_reducible apply Below.drew | (with_reducible refine Below.setCell ?_ ?_ _; rotate_left; (focus (first | omega | (simp; done) | (simp; omega)))))))
  have HL_W2 := Lib.hid (show Below w2.heap.size w2 W2 by rw [← hW]; (repeat' (first | with_reducible exact Below.refl _ _ | (with_reducible refine Below.alloc ?_ ?_ _; rotate_left; (focus (first | omega | (simp; done) | (simp; omega)))) | with_reducible apply Below.drew | (with_reducible refine Below.setCell ?_ ?_ _; rotate_left; (focus (first | omega | (simp; done) | (simp; omega)))))))
  have HTa_W2 := Lib.hid (HTa.out.below HL_W2.out)
  have HTb_W2 := Lib.hid (HTb.out.below HL_W2.out)
  have HT_W2 := Lib.hid (HT.out.below HL_W2.out)
  have HA_W2 := Lib.hid (HA.out.below HL_W2.out)
  have HC_W2 := Lib.hid (HC.out.below HL_W2.out)
  have HJ_W2 := Lib.hid (HJ.out.below HL_W2.out)
  clear HL_W2
  clear hW
  clear HB hN hs0
  have hN := hN_W2
  have HB := HB_W2
  have hs0 := hs0_W2
  clear hN_W2 HB_W2 hs0_W2
  clear HTa HTb HT HA HC HJ
  have HTa := HTa_W2
  have HTb := HTb_W2
  have HT := HT_W2
  have HA := HA_W2
  have HC := HC_W2
  have HJ := HJ_W2
  clear HTa_W2 HTb_W2 HT_W2 HA_W2 HC_W2 HJ_W2
  have lt_HTa := HTa.out.lt
  have lt_HTb := HTb.out.lt
  refine (trials_long (N := N) _ _ _ (app p n q) L _ hN HJ.out hL HPQ.out hlong).mono ?_
  rintro e wc ⟨rfl, hb⟩
  have HTa_wc := Lib.hid (HTa.out.below hb)
  have HTb_wc := Lib.hid (HTb.out.below hb)
  have HT_wc := Lib.hid (HT.out.below hb)
  have HA_wc := Lib.hid (HA.out.below hb)
  have HC_wc := Lib.hid (HC.out.below hb)
  have HJ_wc := Lib.hid (HJ.out.below hb)
  have hN_wc : N ≤ wc.heap.size := Nat.le_trans hN hb.size
  have hs_wc : W2.heap.size ≤ wc.heap.size := hb.size
  have hs0_wc : w.heap.size ≤ wc.heap.size := Nat.le_trans hs0 hb.size
  have HB_wc := Lib.hid (HB.out.trans (hb.mono hs0))
  clear hb
  clear HB hN hs0
  have hN := hN_wc
  have HB := HB_wc
  have hs0 := hs0_wc
  clear hN_wc HB_wc hs0_wc
  clear HTa HTb HT HA HC HJ
  have HTa := HTa_wc
  have HTb := HTb_wc
  have HT := HT_wc
  have HA := HA_wc
  have HC := HC_wc
  have HJ := HJ_wc
  clear HTa_wc HTb_wc HT_wc HA_wc HC_wc HJ_wc
  go_wp2_with fail
  refine calls_name fun W4 hW => ?_
  have hN_W4 : N ≤ W4.heap.size := by rw [← hW]; (first | omega | (simp; done) | (simp; omega))
  have hs_W4 : wc.heap.size ≤ W4.heap.size := by rw [← hW]; (first | omega | (simp; done) | (simp; omega))
  have hs0_W4 : w.heap.size ≤ W4.heap.size := by rw [← hW]; (first | omega | (simp; done) | (simp; omega))
  have HB_W4 := Lib.hid (show Below w.heap.size w W4 by rw [← hW]; (repeat' (first | with_reducible exact Below.refl _ _ | with_reducible exact HB.out | (with_reducible refine Below.alloc ?_ ?_ _; rotate_left; (focus (first | omega | (simp; done) | (simp; omega)))) | with_reducible apply Below.drew | (with_reducible refine Below.setCell ?_ ?_ _; rotate_left; (focus (first | omega | (simp; done) | (simp; omega)))))))
  have HL_W4 := Lib.hid (show Below wc.heap.size wc W4 by rw [← hW]; (repeat' (first | with_reducible exact Below.refl _ _ | (with_reducible refine Below.alloc ?_ ?_ _; rotate_left; (focus (first | omega | (simp; done) | (simp; omega)))) | with_reducible apply Below.drew | (with_reducible refine Below.setCell ?_ ?_ _; rotate_left; (focus (first | omega | (simp; done) | (simp; omega)))))))
  have HTa_W4 := Lib.hid (HTa.out.below HL_W4.out)
  have HTb_W4 := Lib.hid (HTb.out.below HL_W4.out)
  have HT_W4 := Lib.hid (HT.out.below HL_W4.out)
  have HA_W4 := Lib.hid (HA.out.below HL_W4.out)
  have HC_W4 := Lib.hid (HC.out.below HL_W4.out)
  have HJ_W4 := Lib.hid (HJ.out.below HL_W4.out)
  clear HL_W4
  clear hW
  clear HB hN hs0
  have hN := hN_W4
  have HB := HB_W4
  have hs0 := hs0_W4
  clear hN_W4 HB_W4 hs0_W4
  clear HTa HTb HT HA HC HJ
  have HTa := HTa_W4
  have HTb := HTb_W4
  have HT := HT_W4
  have HA := HA_W4
  have HC := HC_W4
  have HJ := HJ_W4
  clear HTa_W4 HTb_W4 HT_W4 HA_W4 HC_W4 HJ_W4
  have lt_HTa := HTa.out.lt
  have lt_HTb := HTb.out.lt
  refine (Convolve_long (N := N) _ _ _ _ _ _ (tri p n) (tri q m) 2097152 _ hN (HTa.out.rs (by unfold maxLen; omega) 2097152 HZa.out) (HTb.out.rs (by unfold maxLen; omega) 2097152 HZb.out) (by omega) HVa.out HVb.out (by omega)).mono ?_
  rintro e wd ⟨rfl, hb⟩
  have HTa_wd := Lib.hid (HTa.out.below hb)
  have HTb_wd := Lib.hid (HTb.out.below hb)
  have HT_wd := Lib.hid (HT.out.below hb)
  have HA_wd := Lib.hid (HA.out.below hb)
  have HC_wd := Lib.hid (HC.out.below hb)
  have HJ_wd := Lib.hid (HJ.out.below hb)
  have hN_wd : N ≤ wd.heap.size := Nat.le_trans hN hb.size
  have hs_wd : W4.heap.size ≤ wd.heap.size := hb.size
  have hs0_wd : w.heap.size ≤ wd.heap.size := Nat.le_trans hs0 hb.size
  have HB_wd := Lib.hid (HB.out.trans (hb.mono hs0))
  clear hb
  clear HB hN hs0
  have hN := hN_wd
  have HB := HB_wd
  have hs0 := hs0_wd
  clear hN_wd HB_wd hs0_wd
  clear HTa HTb HT HA HC HJ
  have HTa := HTa_wd
  have HTb := HTb_wd
  have HT := HT_wd
  have HA := HA_wd
  have HC := HC_wd
  have HJ := HJ_wd
  clear HTa_wd HTb_wd HT_wd HA_wd HC_wd HJ_wd
  go_wp2_with fail
  refine calls_name fun W5 hW => ?_
  have hN_W5 : N ≤ W5.heap.size := by rw [← hW]; (first | omega | (simp; done) | (simp; omega))
  have hs_W5 : wd.heap.size ≤ W5.heap.size := by rw [← hW]; (first | omega | (simp; done) | (simp; omega))
  have hs0_W5 : w.heap.size ≤ W5.heap.size := by rw [← hW]; (first | omega | (simp; done) | (simp; omega))
  have HB_W5 := Lib.hid (show Below w.heap.size w W5 by rw [← hW]; (repeat' (first | with_reducible exact Below.refl _ _ | with_reducible exact HB.out | (with_reducible refine Below.alloc ?_ ?_ _; rotate_left; (focus (first | omega | (simp; done) | (simp; omega)))) | with_reducible apply Below.drew | (with_reducible refine Below.setCell ?_ ?_ _; rotate_left; (focus (first | omega | (simp; done) | (simp; omega)))))))
  have HL_W5 := Lib.hid (show Below wd.heap.size wd W5 by rw [← hW]; (repeat' (first | with_reducible exact Below.refl _ _ | (with_reducible refine Below.alloc ?_ ?_ _; rotate_left; (focus (first | omega | (simp; done) | (simp; omega)))) | with_reducible apply Below.drew | (with_reducible refine Below.setCell ?_ ?_ _; rotate_left; (focus (first | omega | (simp; done) | (simp; omega)))))))
  have HTa_W5 := Lib.hid (HTa.out.below HL_W5.out)
  have HTb_W5 := Lib.hid (HTb.out.below HL_W5.out)
  have HT_W5 := Lib.hid (HT.out.below HL_W5.out)
  have HA_W5 := Lib.hid (HA.out.below HL_W5.out)
  have HC_W5 := Lib.hid (HC.out.below HL_W5.out)
  have HJ_W5 := Lib.hid (HJ.out.below HL_W5.out)
  clear HL_W5
  clear hW
  clear HB hN hs0
  have hN := hN_W5
  have HB := HB_W5
  have hs0 := hs0_W5
  clear hN_W5 HB_W5 hs0_W5
  clear HTa HTb HT HA HC HJ
  have HTa := HTa_W5
  have HTb := HTb_W5
  have HT := HT_W5
  have HA := HA_W5
  have HC := HC_W5
  have HJ := HJ_W5
  clear HTa_W5 HTb_W5 HT_W5 HA_W5 HC_W5 HJ_W5
  have lt_HTa := HTa.out.lt
  have lt_HTb := HTb.out.lt
  refine (awake_any (N := N) _ hN HT.out).mono ?_
  rintro e wh ⟨rfl, hb⟩
  have HTa_wh := Lib.hid (HTa.out.below hb)
  have HTb_wh := Lib.hid (HTb.out.below hb)
  have HT_wh := Lib.hid (HT.out.below hb)
  have HA_wh := Lib.hid (HA.out.below hb)
  have HC_wh := Lib.hid (HC.out.below hb)
  have HJ_wh := Lib.hid (HJ.out.below hb)
  have hN_wh : N ≤ wh.heap.size := Nat.le_trans hN hb.size
  have hs_wh : W5.heap.size ≤ wh.heap.size := hb.size
  have hs0_wh : w.heap.size ≤ wh.heap.size := Nat.le_trans hs0 hb.size
  have HB_wh := Lib.hid (HB.out.trans (hb.mono hs0))
  clear hb
  clear HB hN hs0
  have hN := hN_wh
  have HB := HB_wh
  have hs0 := hs0_wh
  clear hN_wh HB_wh hs0_wh
  clear HTa HTb HT HA HC HJ
  have HTa := HTa_wh
  have HTb := HTb_wh
  have HT := HT_wh
  have HA := HA_wh
  have HC := HC_wh
  have HJ := HJ_wh
  clear HTa_wh HTb_wh HT_wh HA_wh HC_wh HJ_wh
  go_wp2_with fail
  go_ret
  exact ⟨rfl, HB.out⟩

set_option maxHeartbeats 8000000 in
theorem cvl_err1 {N : Nat} (a a' : Option Addr) (n cap m cap' : Nat) (p q : Nat → Rat) (L : Nat) (w : World) (hN : N ≤ w.heap.size) (h : Rs N w a n cap p L) (h' : Rs N w a' m cap' q L) (hL : L ≤ 2097152) (htab : TabW w) (hz : szQ p n + szQ q m ≤ 1048576) (hnm : n + m ≤ 1048576) (he : TrE p n) :
    Calls Tryd.prog 5 #[.slice a n cap, .slice a' m cap'] w fun e w' => e = .returned (.bool true) ∧ Below w.heap.size w w' := by
  have HE := Lib.hid he
  have HEJ := Lib.hid (trE_left (q := q) (m := m) he)
  clear he
  have hN0 := hN
  have HT := Lib.hid htab
  have HA := Lib.hid h
  have HC := Lib.hid h'
  have bc1 := h.1
  have bc2 := h.2.1
  have bd1 := h'.1
  have bd2 := h'.2.1
  unfold maxLen at bc2 bd2
  clear htab h h'
  have HB := Lib.hid (Below.refl w.heap.size w)
  obtain ⟨i0, hi, hz0, hz1, hz2⟩ := info_parts Tryd.infoRat
  go_enter Tryd.func5, Tryd.ntmps5
  go_wp2_with fail
  refine calls_name fun W0 hW => ?_
  have hN_W0 : N ≤ W0.heap.size := by rw [← hW]; (first | omega | (simp; done) | (simp; omega))
  have hs_W0 : w.heap.size ≤ W0.heap.size := by rw [← hW]; (first | omega | (simp; done) | (simp; omega))
  have hs0_W0 : w.heap.size ≤ W0.heap.size := by rw [← hW]; (first | omega | (simp; done) | (simp; omega))
  have HB_W0 := Lib.hid (show Below w.heap.size w W0 by rw [← hW]; (repeat' (first | with_reducible exact Below.refl _ _ | with_reducible exact HB.out | (with_reducible refine Below.alloc ?_ ?_ _; rotate_left; (focus (first | omega | (simp; done) | (simp; omega)))) | with_reducible apply Below.drew | (with_reducible refine Below.setCell ?_ ?_ _; rotate_left; (focus (first | omega | (simp; done) | (simp; omega)))))))
  have HL_W0 := Lib.hid (show Below w.heap.size w W0 by rw [← hW]; (repeat' (first | with_reducible exact Below.refl _ _ | (with_reducible refine Below.alloc ?_ ?_ _; rotate_left; (focus (first | omega | (simp; done) | (simp; omega)))) | with_reducible apply Below.drew | (with_reducible refine Below.setCell ?_ ?_ _; rotate_left; (focus (first | omega | (simp; done) | (simp; omega)))))))
  have HT_W0 := Lib.hid (HT.out.below HL_W0.out)
  have HA_W0 := Lib.hid (HA.out.below HL_W0.out)
  have HC_W0 := Lib.hid (HC.out.below HL_W0.out)
  clear HL_W0
  clear hW
  clear HB hN
  have hN := hN_W0
  have HB := HB_W0
  have hs0 := hs0_W0
  clear hN_W0 HB_W0 hs0_W0
  clear HT HA HC
  have HT := HT_W0
  have HA := HA_W0
  have HC := HC_W0
  clear HT_W0 HA_W0 HC_W0
  refine (trials_err (N := N) _ _ _ p L _ hN HA.out hL HE.out).mono ?_
  rintro e wa ⟨c1, hc1, rfl, hb⟩
  have HT_wa := Lib.hid (HT.out.below hb)
  have HA_wa := Lib.hid (HA.out.below hb)
  have HC_wa := Lib.hid (HC.out.below hb)
  have hN_wa : N ≤ wa.heap.size := Nat.le_trans hN hb.size
  have hs_wa : W0.heap.size ≤ wa.heap.size := hb.size
  have hs0_wa : w.heap.size ≤ wa.heap.size := Nat.le_trans hs0 hb.size
  have HB_wa := Lib.hid (HB.out.trans (hb.mono hs0))
  clear hb
  clear HB hN hs0
  have hN := hN_wa
  have HB := HB_wa
  have hs0 := hs0_wa
  clear hN_wa HB_wa hs0_wa
  clear HT HA HC
  have HT := HT_wa
  have HA := HA_wa
  have HC := HC_wa
  clear HT_wa HA_wa HC_wa
  go_wp2_with fail
  refine calls_name fun W1 hW => ?_
  have hN_W1 : N ≤ W1.heap.size := by rw [← hW]; (first | omega | (simp; done) | (simp; omega))
  have hs_W1 : wa.heap.size ≤ W1.heap.size := by rw [← hW]; (first | omega | (simp; done) | (simp; omega))
  have hs0_W1 : w.heap.size ≤ W1.heap.size := by rw [← hW]; (first | omega | (simp; done) | (simp; omega))
  have HB_W1 := Lib.hid (show Below w.heap.size w W1 by rw [← hW]; (repeat' (first | with_reducible exact Below.refl _ _ | with_reducible exact HB.out | (with_reducible refine Below.alloc ?_ ?_ _; rotate_left; (focus (first | omega | (simp; done) | (simp; omega)))) | with_reducible apply Below.drew | (with_reducible refine Below.setCell ?_ ?_ _; rotate_left; (focus (first | omega | (simp; done) | (simp; omega)))))))
  have HL_W1 := Lib.hid (show Below wa.heap.size wa W1 by rw [← hW]; (repeat' (first | with_reducible exact Below.refl _ _ | (with_reducible refine Below.alloc ?_ ?_ _; rotate_left; (focus (first | omega | (simp; done) | (simp; omega)))) | with_reducible apply Below.drew | (with_reducible refine Below.setCell ?_ ?_ _; rotate_left; (focus (first | omega | (simp; done) | (simp; omega)))))))
  have HT_W1 := Lib.hid (HT.out.below HL_W1.out)
  have HA_W1 := Lib.hid (HA.out.below HL_W1.out)
  have HC_W1 := Lib.hid (HC.out.below HL_W1.out)
  clear HL_W1
  clear hW
  clear HB hN hs0
  have hN := hN_W1
  have HB := HB_W1
  have hs0 := hs0_W1
  clear hN_W1 HB_W1 hs0_W1
  clear HT HA HC
  have HT := HT_W1
  have HA := HA_W1
  have HC := HC_W1
  clear HT_W1 HA_W1 HC_W1
  refine (trials_all (N := N) _ _ _ q L _ hN HC.out hL (by omega)).mono ?_
  rintro e wb ⟨c2, a2', k2, cap2', x2, rfl, hn, hb⟩
  have HT_wb := Lib.hid (HT.out.below hb)
  have HA_wb := Lib.hid (HA.out.below hb)
  have HC_wb := Lib.hid (HC.out.below hb)
  have hN_wb : N ≤ wb.heap.size := Nat.le_trans hN hb.size
  have hs_wb : W1.heap.size ≤ wb.heap.size := hb.size
  have hs0_wb : w.heap.size ≤ wb.heap.size := Nat.le_trans hs0 hb.size
  have HB_wb := Lib.hid (HB.out.trans (hb.mono hs0))
  clear hb
  clear HB hN hs0
  have hN := hN_wb
  have HB := HB_wb
  have hs0 := hs0_wb
  clear hN_wb HB_wb hs0_wb
  clear HT HA HC
  have HT := HT_wb
  have HA := HA_wb
  have HC := HC_wb
  clear HT_wb HA_wb HC_wb
  have HX2 := Lib.hid hn
  clear hn
  go_wp2_with (first | (at_builtin; refine wpList_append_rats (N := N) rfl (.tmp 24) (.tmp 25) 47 rfl wb.heap.size i0 (.agg #[.bool false, .slice none 0 0, .slice none 0 0]) Tryd.underRats hi hz0 hz1 hz2 rfl _ 0 [] rfl (World.ownsRow_made wb #[] 0 (Nat.le_refl _) (by decide) rfl) _ n cap p L rfl (HA.out.below (bel1 wb _)) (by unfold maxLen; omega) (by omega) (by simp) ?_; intro v1 w1 xs hc1 ho1 hg1 _; have R1 := Lib.hid (app_first hg1); have KP1 := Lib.hid (own_kp (N := N) (World.ownsRow_made wb #[] 0 (Nat.le_refl _) (by decide) rfl) hN hg1); have HC1 := Lib.hid hc1; have HO1 := Lib.hid ho1; have hsz1 := R1.out.size; clear hc1 ho1 hg1) | (at_builtin; refine wpList_append_rats (N := N) rfl (.tmp 26) (.tmp 27) 47 rfl wb.heap.size i0 (.agg #[.bool false, .slice none 0 0, .slice none 0 0]) Tryd.underRats hi hz0 hz1 hz2 rfl _ (0 + n) ([] ++ xs) rfl HO1.out _ m cap' q L rfl (HC.out.below R1.out) (by unfold maxLen; omega) (by omega) hsz1 ?_; intro v2 w2 ys hc2 ho2 hg2 _; have hb : Below wb.heap.size wb w2 := own_bel HO1.out R1.out hsz1 hg2; obtain ⟨a2, cap2, rfl, hj⟩ := joined HC1.out (KP1.out.trans (own_kp HO1.out hN hg2)) hc2 (own_kp HO1.out hN hg2) ho2; clear hc2 ho2 hg2 HC1 HO1 KP1 R1 hsz1; have HT_w2 := Lib.hid (HT.out.below hb); have HA_w2 := Lib.hid (HA.out.below hb); have HC_w2 := Lib.hid (HC.out.below hb); have HX2_w2 := Lib.hid (HX2.out.below hb); have hN_w2 : N ≤ w2.heap.size := Nat.le_trans hN hb.size; have hs_w2 : wb.heap.size ≤ w2.heap.size := hb.size; have hs0_w2 : w.heap.size ≤ w2.heap.size := Nat.le_trans hs0 hb.size; have HB_w2 := Lib.hid (HB.out.trans (hb.mono hs0)); clear hb; clear HB hN hs0; have hN := hN_w2; have HB := HB_w2; have hs0 := hs0_w2; clear hN_w2 HB_w2 hs0_w2; clear HT HA HC HX2; have HT := HT_w2; have HA := HA_w2; have HC := HC_w2; have HX2 := HX2_w2; clear HT_w2 HA_w2 HC_w2 HX2_w2; have HJ := Lib.hid hj; clear hj))
  refine calls_name fun W2 hW => ?_
  have hN_W2 : N ≤ W2.heap.size := by rw [← hW]; (first | omega | (simp; done) | (simp; omega))
  have hs_W2 : w2.heap.size ≤ W2.heap.size := by rw [← hW]; (first | omega | (simp; done) | (simp; omega))
  have hs0_W2 : w.heap.size ≤ W2.heap.size := by rw [← hW]; (first | omega | (simp; done) | (simp; omega))
  have HB_W2 := Lib.hid (show Below w.heap.size w W2 by rw [← hW]; (repeat' (first | with_reducible exact Below.refl _ _ | with_reducible exact HB.out | (with_reducible refine Below.alloc ?_ ?_ _; rotate_left; (focus (first | omega | (simp; done) | (simp; omega)))) | with_reducible apply Below.drew | (with_reducible refine Below.setCell ?_ ?_ _; rotate_left; (focus (first | omega | (simp; done) | (simp; omega)))))))
  have HL_W2 := Lib.hid (show Below w2.heap.size w2 W2 by rw [← hW]; (repeat' (first | with_reducible exact Below.refl _ _ | (with_reducible refine Below.alloc ?_ ?_ _; rotate_left; (focus (first | omega | (simp; done) | (simp; omega)))) | with_reducible apply Below.drew | (with_reducible refine Below.setCell ?_ ?_ _; rotate_left; (focus (first | omega | (simp; done) | (simp; omega)))))))
  have HT_W2 := Lib.hid (HT.out.below HL_W2.out)
  have HA_W2 := Lib.hid (HA.out.below HL_W2.out)
  have HC_W2 := Lib.hid (HC.out.below HL_W2.out)
  have HX2_W2 := Lib.hid (HX2.out.below HL_W2.out)
  have HJ_W2 := Lib.hid (HJ.out.below HL_W2.out)
  clear HL_W2
  clear hW
  clear HB hN hs0
  have hN := hN_W2
  have HB := HB_W2
  have hs0 := hs0_W2
  clear hN_W2 HB_W2 hs0_W2
  clear HT HA HC HX2 HJ
  have HT := HT_W2
  have HA := HA_W2
  have HC := HC_W2
  have HX2 := HX2_W2
  have HJ := HJ_W2
  clear HT_W2 HA_W2 HC_W2 HX2_W2 HJ_W2
  refine (trials_err (N := N) _ _ _ (app p n q) L _ hN HJ.out hL HEJ.out).mono ?_
  rintro e wc ⟨c3, hc3, rfl, hb⟩
  have HT_wc := Lib.hid (HT.out.below hb)
  have HA_wc := Lib.hid (HA.out.below hb)
  have HC_wc := Lib.hid (HC.out.below hb)
  have HX2_wc := Lib.hid (HX2.out.below hb)
  have HJ_wc := Lib.hid (HJ.out.below hb)
  have hN_wc : N ≤ wc.heap.size := Nat.le_trans hN hb.size
  have hs_wc : W2.heap.size ≤ wc.heap.size := hb.size
  have hs0_wc : w.heap.size ≤ wc.heap.size := Nat.le_trans hs0 hb.size
  have HB_wc := Lib.hid (HB.out.trans (hb.mono hs0))
  clear hb
  clear HB hN hs0
  have hN := hN_wc
  have HB := HB_wc
  have hs0 := hs0_wc
  clear hN_wc HB_wc hs0_wc
  clear HT HA HC HX2 HJ
  have HT := HT_wc
  have HA := HA_wc
  have HC := HC_wc
  have HX2 := HX2_wc
  have HJ := HJ_wc
  clear HT_wc HA_wc HC_wc HX2_wc HJ_wc
  go_wp2_with fail
  refine calls_name fun W4 hW => ?_
  have hN_W4 : N ≤ W4.heap.size := by rw [← hW]; (first | omega | (simp; done) | (simp; omega))
  have hs_W4 : wc.heap.size ≤ W4.heap.size := by rw [← hW]; (first | omega | (simp; done) | (simp; omega))
  have hs0_W4 : w.heap.size ≤ W4.heap.size := by rw [← hW]; (first | omega | (simp; done) | (simp; omega))
  have HB_W4 := Lib.hid (show Below w.heap.size w W4 by rw [← hW]; (repeat' (first | with_reducible exact Below.refl _ _ | with_reducible exact HB.out | (with_reducible refine Below.alloc ?_ ?_ _; rotate_left; (focus (first | omega | (simp; done) | (simp; omega)))) | with_reducible apply Below.drew | (with_reducible refine Below.setCell ?_ ?_ _; rotate_left; (focus (first | omega | (simp; done) | (simp; omega)))))))
  have HL_W4 := Lib.hid (show Below wc.heap.size wc W4 by rw [← hW]; (repeat' (first | with_reducible exact Below.refl _ _ | (with_reducible refine Below.alloc ?_ ?_ _; rotate_left; (focus (first | omega | (simp; done) | (simp; omega)))) | with_reducible apply Below.drew | (with_reducible refine Below.setCell ?_ ?_ _; rotate_left; (focus (first | omega | (simp; done) | (simp; omega)))))))
  have HT_W4 := Lib.hid (HT.out.below HL_W4.out)
  have HA_W4 := Lib.hid (HA.out.below HL_W4.out)
  have HC_W4 := Lib.hid (HC.out.below HL_W4.out)
  have HX2_W4 := Lib.hid (HX2.out.below HL_W4.out)
  have HJ_W4 := Lib.hid (HJ.out.below HL_W4.out)
  clear HL_W4
  clear hW
  clear HB hN hs0
  have hN := hN_W4
  have HB := HB_W4
  have hs0 := hs0_W4
  clear hN_W4 HB_W4 hs0_W4
  clear HT HA HC HX2 HJ
  have HT := HT_W4
  have HA := HA_W4
  have HC := HC_W4
  have HX2 := HX2_W4
  have HJ := HJ_W4
  clear HT_W4 HA_W4 HC_W4 HX2_W4 HJ_W4
  refine (Convolve_bad (N := N) _ _ _ _ _ _ (fun _ => 0) x2 2097152 _ hN (Rs.nil _ _ _ _) HX2.out (by omega) (Or.inl (valid_nil _))).mono ?_
  rintro e wd ⟨rfl, hb⟩
  have HT_wd := Lib.hid (HT.out.below hb)
  have HA_wd := Lib.hid (HA.out.below hb)
  have HC_wd := Lib.hid (HC.out.below hb)
  have HX2_wd := Lib.hid (HX2.out.below hb)
  have HJ_wd := Lib.hid (HJ.out.below hb)
  have hN_wd : N ≤ wd.heap.size := Nat.le_trans hN hb.size
  have hs_wd : W4.heap.size ≤ wd.heap.size := hb.size
  have hs0_wd : w.heap.size ≤ wd.heap.size := Nat.le_trans hs0 hb.size
  have HB_wd := Lib.hid (HB.out.trans (hb.mono hs0))
  clear hb
  clear HB hN hs0
  have hN := hN_wd
  have HB := HB_wd
  have hs0 := hs0_wd
  clear hN_wd HB_wd hs0_wd
  clear HT HA HC HX2 HJ
  have HT := HT_wd
  have HA := HA_wd
  have HC := HC_wd
  have HX2 := HX2_wd
  have HJ := HJ_wd
  clear HT_wd HA_wd HC_wd HX2_wd HJ_wd
  go_wp2_with fail
  refine calls_name fun W5 hW => ?_
  have hN_W5 : N ≤ W5.heap.size := by rw [← hW]; (first | omega | (simp; done) | (simp; omega))
  have hs_W5 : wd.heap.size ≤ W5.heap.size := by rw [← hW]; (first | omega | (simp; done) | (simp; omega))
  have hs0_W5 : w.heap.size ≤ W5.heap.size := by rw [← hW]; (first | omega | (simp; done) | (simp; omega))
  have HB_W5 := Lib.hid (show Below w.heap.size w W5 by rw [← hW]; (repeat' (first | with_reducible exact Below.refl _ _ | with_reducible exact HB.out | (with_reducible refine Below.alloc ?_ ?_ _; rotate_left; (focus (first | omega | (simp; done) | (simp; omega)))) | with_reducible apply Below.drew | (with_reducible refine Below.setCell ?_ ?_ _; rotate_left; (focus (first | omega | (simp; done) | (simp; omega)))))))
  have HL_W5 := Lib.hid (show Below wd.heap.size wd W5 by rw [← hW]; (repeat' (first | with_reducible exact Below.refl _ _ | (with_reducible refine Below.alloc ?_ ?_ _; rotate_left; (focus (first | omega | (simp; done) | (simp; omega)))) | with_reducible apply Below.drew | (with_reducible refine Below.setCell ?_ ?_ _; rotate_left; (focus (first | omega | (simp; done) | (simp; omega)))))))
  have HT_W5 := Lib.hid (HT.out.below HL_W5.out)
  have HA_W5 := Lib.hid (HA.out.below HL_W5.out)
  have HC_W5 := Lib.hid (HC.out.below HL_W5.out)
  have HX2_W5 := Lib.hid (HX2.out.below HL_W5.out)
  have HJ_W5 := Lib.hid (HJ.out.below HL_W5.out)
  clear HL_W5
  clear hW
  clear HB hN hs0
  have hN := hN_W5
  have HB := HB_W5
  have hs0 := hs0_W5
  clear hN_W5 HB_W5 hs0_W5
  clear HT HA HC HX2 HJ
  have HT := HT_W5
  have HA := HA_W5
  have HC := HC_W5
  have HX2 := HX2_W5
  have HJ := HJ_W5
  clear HT_W5 HA_W5 HC_W5 HX2_W5 HJ_W5
  refine (awake_any (N := N) _ hN HT.out).mono ?_
  rintro e wh ⟨rfl, hb⟩
  have HT_wh := Lib.hid (HT.out.below hb)
  have HA_wh := Lib.hid (HA.out.below hb)
  have HC_wh := Lib.hid (HC.out.below hb)
  have HX2_wh := Lib.hid (HX2.out.below hb)
  have HJ_wh := Lib.hid (HJ.out.below hb)
  have hN_wh : N ≤ wh.heap.size := Nat.le_trans hN hb.size
  have hs_wh : W5.heap.size ≤ wh.heap.size := hb.size
  have hs0_wh : w.heap.size ≤ wh.heap.size := Nat.le_trans hs0 hb.size
  have HB_wh := Lib.hid (HB.out.trans (hb.mono hs0))
  clear hb
  clear HB hN hs0
  have hN := hN_wh
  have HB := HB_wh
  have hs0 := hs0_wh
  clear hN_wh HB_wh hs0_wh
  clear HT HA HC HX2 HJ
  have HT := HT_wh
  have HA := HA_wh
  have HC := HC_wh
  have HX2 := HX2_wh
  have HJ := HJ_wh
  clear HT_wh HA_wh HC_wh HX2_wh HJ_wh
  go_wp2_with fail
  go_ret
  exact ⟨rfl, HB.out⟩

set_option maxHeartbeats 8000000 in
theorem cvl_err2 {N : Nat} (a a' : Option Addr) (n cap m cap' : Nat) (p q : Nat → Rat) (L : Nat) (w : World) (hN : N ≤ w.heap.size) (h : Rs N w a n cap p L) (h' : Rs N w a' m cap' q L) (hL : L ≤ 2097152) (htab : TabW w) (hz : szQ p n + szQ q m ≤ 1048576) (hnm : n + m ≤ 1048576) (hp : ∀ j, j < n → prb (p j) = true) (hn : n ≤ 120) (he : TrE q m) :
    Calls Tryd.prog 5 #[.slice a n cap, .slice a' m cap'] w fun e w' => e = .returned (.bool true) ∧ Below w.heap.size w w' := by
  have HP := Lib.hid hp
  have HZa := Lib.hid (show ∀ i, i < n + 1 → rsz (tri p n i) ≤ 2097152 from fun i hi => by have := tri_rsz p n hp i hi; omega)
  have HE := Lib.hid he
  have HEJ := Lib.hid (trE_right (p := p) (n := n) he)
  clear he hp
  have hN0 := hN
  have HT := Lib.hid htab
  have HA := Lib.hid h
  have HC := Lib.hid h'
  have bc1 := h.1
  have bc2 := h.2.1
  have bd1 := h'.1
  have bd2 := h'.2.1
  unfold maxLen at bc2 bd2
  clear htab h h'
  have HB := Lib.hid (Below.refl w.heap.size w)
  obtain ⟨i0, hi, hz0, hz1, hz2⟩ := info_parts Tryd.infoRat
  go_enter Tryd.func5, Tryd.ntmps5
  go_wp2_with fail
  refine calls_name fun W0 hW => ?_
  have hN_W0 : N ≤ W0.heap.size := by rw [← hW]; (first | omega | (simp; done) | (simp; omega))
  have hs_W0 : w.heap.size ≤ W0.heap.size := by rw [← hW]; (first | omega | (simp; done) | (simp; omega))
  have hs0_W0 : w.heap.size ≤ W0.heap.size := by rw [← hW]; (first | omega | (simp; done) | (simp; omega))
  have HB_W0 := Lib.hid (show Below w.heap.size w W0 by rw [← hW]; (repeat' (first | with_reducible exact Below.refl _ _ | with_reducible exact HB.out | (with_reducible refine Below.alloc ?_ ?_ _; rotate_left; (focus (first | omega | (simp; done) | (simp; omega)))) | with_reducible apply Below.drew | (with_reducible refine Below.setCell ?_ ?_ _; rotate_left; (focus (first | omega | (simp; done) | (simp; omega)))))))
  have HL_W0 := Lib.hid (show Below w.heap.size w W0 by rw [← hW]; (repeat' (first | with_reducible exact Below.refl _ _ | (with_reducible refine Below.alloc ?_ ?_ _; rotate_left; (focus (first | omega | (simp; done) | (simp; omega)))) | with_reducible apply Below.drew | (with_reducible refine Below.setCell ?_ ?_ _; rotate_left; (focus (first | omega | (simp; done) | (simp; omega)))))))
  have HT_W0 := Lib.hid (HT.out.below HL_W0.out)
  have HA_W0 := Lib.hid (HA.out.below HL_W0.out)
  have HC_W0 := Lib.hid (HC.out.below HL_W0.out)
  clear HL_W0
  clear hW
  clear HB hN
  have hN := hN_W0
  have HB := HB_W0
  have hs0 := hs0_W0
  clear hN_W0 HB_W0 hs0_W0
  clear HT HA HC
  have HT := HT_W0
  have HA := HA_W0
  have HC := HC_W0
  clear HT_W0 HA_W0 HC_W0
  refine (trials_ok (N := N) _ _ _ p L _ hN HA.out hL HP.out hn (tri p n) (tri_frq p n HP.out)).mono ?_
  rintro e wa ⟨ba, rfl, hb1a, hb2a, hn, hb⟩
  have HT_wa := Lib.hid (HT.out.below hb)
  have HA_wa := Lib.hid (HA.out.below hb)
  have HC_wa := Lib.hid (HC.out.below hb)
  have hN_wa : N ≤ wa.heap.size := Nat.le_trans hN hb.size
  have hs_wa : W0.heap.size ≤ wa.heap.size := hb.size
  have hs0_wa : w.heap.size ≤ wa.heap.size := Nat.le_trans hs0 hb.size
  have HB_wa := Lib.hid (HB.out.trans (hb.mono hs0))
  clear hb
  clear HB hN hs0
  have hN := hN_wa
  have HB := HB_wa
  have hs0 := hs0_wa
  clear hN_wa HB_wa hs0_wa
  clear HT HA HC
  have HT := HT_wa
  have HA := HA_wa
  have HC := HC_wa
  clear HT_wa HA_wa HC_wa
  have HTa := Lib.hid hn
  clear hn
  go_wp2_with fail
  refine calls_name fun W1 hW => ?_
  have hN_W1 : N ≤ W1.heap.size := by rw [← hW]; (first | omega | (simp; done) | (simp; omega))
  have hs_W1 : wa.heap.size ≤ W1.heap.size := by rw [← hW]; (first | omega | (simp; done) | (simp; omega))
  have hs0_W1 : w.heap.size ≤ W1.heap.size := by rw [← hW]; (first | omega | (simp; done) | (simp; omega))
  have HB_W1 := Lib.hid (show Below w.heap.size w W1 by rw [← hW]; (repeat' (first | with_reducible exact Below.refl _ _ | with_reducible exact HB.out | (with_reducible refine Below.alloc ?_ ?_ _; rotate_left; (focus (first | omega | (simp; done) | (simp; omega)))) | with_reducible apply Below.drew | (with_reducible refine Below.setCell ?_ ?_ _; rotate_left; (focus (first | omega | (simp; done) | (simp; omega)))))))
  have HL_W1 := Lib.hid (show Below wa.heap.size wa W1 by rw [← hW]; (repeat' (first | with_reducible exact Below.refl _ _ | (with_reducible refine Below.alloc ?_ ?_ _; rotate_left; (focus (first | omega | (simp; done) | (simp; omega)))) | with_reducible apply Below.drew | (with_reducible refine Below.setCell ?_ ?_ _; rotate_left; (focus (first | omega | (simp; done) | (simp; omega)))))))
  have HTa_W1 := Lib.hid (HTa.out.below HL_W1.out)
  have HT_W1 := Lib.hid (HT.out.below HL_W1.out)
  have HA_W1 := Lib.hid (HA.out.below HL_W1.out)
  have HC_W1 := Lib.hid (HC.out.below HL_W1.out)
  clear HL_W1
  clear hW
  clear HB hN hs0
  have hN := hN_W1
  have HB := HB_W1
  have hs0 := hs0_W1
  clear hN_W1 HB_W1 hs0_W1
  clear HTa HT HA HC
  have HTa := HTa_W1
  have HT := HT_W1
  have HA := HA_W1
  have HC := HC_W1
  clear HTa_W1 HT_W1 HA_W1 HC_W1
  have lt_HTa := HTa.out.lt
  refine (trials_err (N := N) _ _ _ q L _ hN HC.out hL HE.out).mono ?_
  rintro e wb ⟨c2, hc2, rfl, hb⟩
  have HTa_wb := Lib.hid (HTa.out.below hb)
  have HT_wb := Lib.hid (HT.out.below hb)
  have HA_wb := Lib.hid (HA.out.below hb)
  have HC_wb := Lib.hid (HC.out.below hb)
  have hN_wb : N ≤ wb.heap.size := Nat.le_trans hN hb.size
  have hs_wb : W1.heap.size ≤ wb.heap.size := hb.size
  have hs0_wb : w.heap.size ≤ wb.heap.size := Nat.le_trans hs0 hb.size
  have HB_wb := Lib.hid (HB.out.trans (hb.mono hs0))
  clear hb
  clear HB hN hs0
  have hN := hN_wb
  have HB := HB_wb
  have hs0 := hs0_wb
  clear hN_wb HB_wb hs0_wb
  clear HTa HT HA HC
  have HTa := HTa_wb
  have HT := HT_wb
  have HA := HA_wb
  have HC := HC_wb
  clear HTa_wb HT_wb HA_wb HC_wb
  go_wp2_with (first | (at_builtin; refine wpList_append_rats (N := N) rfl (.tmp 24) (.tmp 25) 47 rfl wb.heap.size i0 (.agg #[.bool false, .slice none 0 0, .slice none 0 0]) Tryd.underRats hi hz0 hz1 hz2 rfl _ 0 [] rfl (World.ownsRow_made wb #[] 0 (Nat.le_refl _) (by decide) rfl) _ n cap p L rfl (HA.out.below (bel1 wb _)) (by unfold maxLen; omega) (by omega) (by simp) ?_; intro v1 w1 xs hc1 ho1 hg1 _; have R1 := Lib.hid (app_first hg1); have KP1 := Lib.hid (own_kp (N := N) (World.ownsRow_made wb #[] 0 (Nat.le_refl _) (by decide) rfl) hN hg1); have HC1 := Lib.hid hc1; have HO1 := Lib.hid ho1; have hsz1 := R1.out.size; clear hc1 ho1 hg1) | (at_builtin; refine wpList_append_rats (N := N) rfl (.tmp 26) (.tmp 27) 47 rfl wb.heap.size i0 (.agg #[.bool false, .slice none 0 0, .slice none 0 0]) Tryd.underRats hi hz0 hz1 hz2 rfl _ (0 + n) ([] ++ xs) rfl HO1.out _ m cap' q L rfl (HC.out.below R1.out) (by unfold maxLen; omega) (by omega) hsz1 ?_; intro v2 w2 ys hc2 ho2 hg2 _; have hb : Below wb.heap.size wb w2 := own_bel HO1.out R1.out hsz1 hg2; obtain ⟨a2, cap2, rfl, hj⟩ := joined HC1.out (KP1.out.trans (own_kp HO1.out hN hg2)) hc2 (own_kp HO1.out hN hg2) ho2; clear hc2 ho2 hg2 HC1 HO1 KP1 R1 hsz1; have HTa_w2 := Lib.hid (HTa.out.below hb); have HT_w2 := Lib.hid (HT.out.below hb); have HA_w2 := Lib.hid (HA.out.below hb); have HC_w2 := Lib.hid (HC.out.below hb); have hN_w2 : N ≤ w2.heap.size := Nat.le_trans hN hb.size; have hs_w2 : wb.heap.size ≤ w2.heap.size := hb.size; have hs0_w2 : w.heap.size ≤ w2.heap.size := Nat.le_trans hs0 hb.size; have HB_w2 := Lib.hid (HB.out.trans (hb.mono hs0)); clear hb; clear HB hN hs0; have hN := hN_w2; have HB := HB_w2; have hs0 := hs0_w2; clear hN_w2 HB_w2 hs0_w2; clear HTa HT HA HC; have HTa := HTa_w2; have HT := HT_w2; have HA := HA_w2; have HC := HC_w2; clear HTa_w2 HT_w2 HA_w2 HC_w2; have HJ := Lib.hid hj; clear hj))
  refine calls_name fun W2 hW => ?_
  have hN_W2 : N ≤ W2.heap.size := by rw [← hW]; (first | omega | (simp; done) | (simp; omega))
  have hs_W2 : w2.heap.size ≤ W2.heap.size := by rw [← hW]; (first | omega | (simp; done) | (simp; omega))
  have hs0_W2 : w.heap.size ≤ W2.heap.size := by rw [← hW]; (first | omega | (simp; done) | (simp; omega))
  have HB_W2 := Lib.hid (show Below w.heap.size w W2 by rw [← hW]; (repeat' (first | with_reducible exact Below.refl _ _ | with_reducible exact HB.out | (with_reducible refine Below.alloc ?_ ?_ _; rotate_left; (focus (first | omega | (simp; done) | (simp; omega)))) | with_reducible apply Below.drew | (with_reducible refine Below.setCell ?_ ?_ _; rotate_left; (focus (first | omega | (simp; done) | (simp; omega)))))))
  have HL_W2 := Lib.hid (show Below w2.heap.size w2 W2 by rw [← hW]; (repeat' (first | with_reducible exact Below.refl _ _ | (with_reducible refine Below.alloc ?_ ?_ _; rotate_left; (focus (first | omega | (simp; done) | (simp; omega)))) | with_reducible apply Below.drew | (with_reducible refine Below.setCell ?_ ?_ _; rotate_left; (focus (first | omega | (simp; done) | (simp; omega)))))))
  have HTa_W2 := Lib.hid (HTa.out.below HL_W2.out)
  have HT_W2 := Lib.hid (HT.out.below HL_W2.out)
  have HA_W2 := Lib.hid (HA.out.below HL_W2.out)
  have HC_W2 := Lib.hid (HC.out.below HL_W2.out)
  have HJ_W2 := Lib.hid (HJ.out.below HL_W2.out)
  clear HL_W2
  clear hW
  clear HB hN hs0
  have hN := hN_W2
  have HB := HB_W2
  have hs0 := hs0_W2
  clear hN_W2 HB_W2 hs0_W2
  clear HTa HT HA HC HJ
  have HTa := HTa_W2
  have HT := HT_W2
  have HA := HA_W2
  have HC := HC_W2
  have HJ := HJ_W2
  clear HTa_W2 HT_W2 HA_W2 HC_W2 HJ_W2
  have lt_HTa := HTa.out.lt
  refine (trials_err (N := N) _ _ _ (app p n q) L _ hN HJ.out hL HEJ.out).mono ?_
  rintro e wc ⟨c3, hc3, rfl, hb⟩
  have HTa_wc := Lib.hid (HTa.out.below hb)
  have HT_wc := Lib.hid (HT.out.below hb)
  have HA_wc := Lib.hid (HA.out.below hb)
  have HC_wc := Lib.hid (HC.out.below hb)
  have HJ_wc := Lib.hid (HJ.out.below hb)
  have hN_wc : N ≤ wc.heap.size := Nat.le_trans hN hb.size
  have hs_wc : W2.heap.size ≤ wc.heap.size := hb.size
  have hs0_wc : w.heap.size ≤ wc.heap.size := Nat.le_trans hs0 hb.size
  have HB_wc := Lib.hid (HB.out.trans (hb.mono hs0))
  clear hb
  clear HB hN hs0
  have hN := hN_wc
  have HB := HB_wc
  have hs0 := hs0_wc
  clear hN_wc HB_wc hs0_wc
  clear HTa HT HA HC HJ
  have HTa := HTa_wc
  have HT := HT_wc
  have HA := HA_wc
  have HC := HC_wc
  have HJ := HJ_wc
  clear HTa_wc HT_wc HA_wc HC_wc HJ_wc
  go_wp2_with fail
  refine calls_name fun W4 hW => ?_
  have hN_W4 : N ≤ W4.heap.size := by rw [← hW]; (first | omega | (simp; done) | (simp; omega))
  have hs_W4 : wc.heap.size ≤ W4.heap.size := by rw [← hW]; (first | omega | (simp; done) | (simp; omega))
  have hs0_W4 : w.heap.size ≤ W4.heap.size := by rw [← hW]; (first | omega | (simp; done) | (simp; omega))
  have HB_W4 := Lib.hid (show Below w.heap.size w W4 by rw [← hW]; (repeat' (first | with_reducible exact Below.refl _ _ | with_reducible exact HB.out | (with_reducible refine Below.alloc ?_ ?_ _; rotate_left; (focus (first | omega | (simp; done) | (simp; omega)))) | with_reducible apply Below.drew | (with_reducible refine Below.setCell ?_ ?_ _; rotate_left; (focus (first | omega | (simp; done) | (simp; omega)))))))
  have HL_W4 := Lib.hid (show Below wc.heap.size wc W4 by rw [← hW]; (repeat' (first | with_reducible exact Below.refl _ _ | (with_reducible refine Below.alloc ?_ ?_ _; rotate_left; (focus (first | omega | (simp; done) | (simp; omega)))) | with_reducible apply Below.drew | (with_reducible refine Below.setCell ?_ ?_ _; rotate_left; (focus (first | omega | (simp; done) | (simp; omega)))))))
  have HTa_W4 := Lib.hid (HTa.out.below HL_W4.out)
  have HT_W4 := Lib.hid (HT.out.below HL_W4.out)
  have HA_W4 := Lib.hid (HA.out.below HL_W4.out)
  have HC_W4 := Lib.hid (HC.out.below HL_W4.out)
  have HJ_W4 := Lib.hid (HJ.out.below HL_W4.out)
  clear HL_W4
  clear hW
  clear HB hN hs0
  have hN := hN_W4
  have HB := HB_W4
  have hs0 := hs0_W4
  clear hN_W4 HB_W4 hs0_W4
  clear HTa HT HA HC HJ
  have HTa := HTa_W4
  have HT := HT_W4
  have HA := HA_W4
  have HC := HC_W4
  have HJ := HJ_W4
  clear HTa_W4 HT_W4 HA_W4 HC_W4 HJ_W4
  have lt_HTa := HTa.out.lt
  refine (Convolve_bad (N := N) _ _ _ _ _ _ (tri p n) (fun _ => 0) 2097152 _ hN (HTa.out.rs (by unfold maxLen; omega) 2097152 HZa.out) (Rs.nil _ _ _ _) (by omega) (Or.inr (valid_nil _))).mono ?_
  rintro e wd ⟨rfl, hb⟩
  have HTa_wd := Lib.hid (HTa.out.below hb)
  have HT_wd := Lib.hid (HT.out.below hb)
  have HA_wd := Lib.hid (HA.out.below hb)
  have HC_wd := Lib.hid (HC.out.below hb)
  have HJ_wd := Lib.hid (HJ.out.below hb)
  have hN_wd : N ≤ wd.heap.size := Nat.le_trans hN hb.size
  have hs_wd : W4.heap.size ≤ wd.heap.size := hb.size
  have hs0_wd : w.heap.size ≤ wd.heap.size := Nat.le_trans hs0 hb.size
  have HB_wd := Lib.hid (HB.out.trans (hb.mono hs0))
  clear hb
  clear HB hN hs0
  have hN := hN_wd
  have HB := HB_wd
  have hs0 := hs0_wd
  clear hN_wd HB_wd hs0_wd
  clear HTa HT HA HC HJ
  have HTa := HTa_wd
  have HT := HT_wd
  have HA := HA_wd
  have HC := HC_wd
  have HJ := HJ_wd
  clear HTa_wd HT_wd HA_wd HC_wd HJ_wd
  go_wp2_with fail
  refine calls_name fun W5 hW => ?_
  have hN_W5 : N ≤ W5.heap.size := by rw [← hW]; (first | omega | (simp; done) | (simp; omega))
  have hs_W5 : wd.heap.size ≤ W5.heap.size := by rw [← hW]; (first | omega | (simp; done) | (simp; omega))
  have hs0_W5 : w.heap.size ≤ W5.heap.size := by rw [← hW]; (first | omega | (simp; done) | (simp; omega))
  have HB_W5 := Lib.hid (show Below w.heap.size w W5 by rw [← hW]; (repeat' (first | with_reducible exact Below.refl _ _ | with_reducible exact HB.out | (with_reducible refine Below.alloc ?_ ?_ _; rotate_left; (focus (first | omega | (simp; done) | (simp; omega)))) | with_reducible apply Below.drew | (with_reducible refine Below.setCell ?_ ?_ _; rotate_left; (focus (first | omega | (simp; done) | (simp; omega)))))))
  have HL_W5 := Lib.hid (show Below wd.heap.size wd W5 by rw [← hW]; (repeat' (first | with_reducible exact Below.refl _ _ | (with_reducible refine Below.alloc ?_ ?_ _; rotate_left; (focus (first | omega | (simp; done) | (simp; omega)))) | with_reducible apply Below.drew | (with_reducible refine Below.setCell ?_ ?_ _; rotate_left; (focus (first | omega | (simp; done) | (simp; omega)))))))
  have HTa_W5 := Lib.hid (HTa.out.below HL_W5.out)
  have HT_W5 := Lib.hid (HT.out.below HL_W5.out)
  have HA_W5 := Lib.hid (HA.out.below HL_W5.out)
  have HC_W5 := Lib.hid (HC.out.below HL_W5.out)
  have HJ_W5 := Lib.hid (HJ.out.below HL_W5.out)
  clear HL_W5
  clear hW
  clear HB hN hs0
  have hN := hN_W5
  have HB := HB_W5
  have hs0 := hs0_W5
  clear hN_W5 HB_W5 hs0_W5
  clear HTa HT HA HC HJ
  have HTa := HTa_W5
  have HT := HT_W5
  have HA := HA_W5
  have HC := HC_W5
  have HJ := HJ_W5
  clear HTa_W5 HT_W5 HA_W5 HC_W5 HJ_W5
  have lt_HTa := HTa.out.lt
  refine (awake_any (N := N) _ hN HT.out).mono ?_
  rintro e wh ⟨rfl, hb⟩
  have HTa_wh := Lib.hid (HTa.out.below hb)
  have HT_wh := Lib.hid (HT.out.below hb)
  have HA_wh := Lib.hid (HA.out.below hb)
  have HC_wh := Lib.hid (HC.out.below hb)
  have HJ_wh := Lib.hid (HJ.out.below hb)
  have hN_wh : N ≤ wh.heap.size := Nat.le_trans hN hb.size
  have hs_wh : W5.heap.size ≤ wh.heap.size := hb.size
  have hs0_wh : w.heap.size ≤ wh.heap.size := Nat.le_trans hs0 hb.size
  have HB_wh := Lib.hid (HB.out.trans (hb.mono hs0))
  clear hb
  clear HB hN hs0
  have hN := hN_wh
  have HB := HB_wh
  have hs0 := hs0_wh
  clear hN_wh HB_wh hs0_wh
  clear HTa HT HA HC HJ
  have HTa := HTa_wh
  have HT := HT_wh
  have HA := HA_wh
  have HC := HC_wh
  have HJ := HJ_wh
  clear HTa_wh HT_wh HA_wh HC_wh HJ_wh
  go_wp2_with fail
  go_ret
  exact ⟨rfl, HB.out⟩

theorem trE_no {q : Nat → Rat} {n : Nat} (hx : ¬ TrE q n) : (∀ j, j < n → prb (q j) = true) ∧ n ≤ 120 := by
  have hp : ∀ j, j < n → prb (q j) = true := fun j hj => by
    cases hc : prb (q j)
    · exact absurd (Or.inl ⟨j, hj, hc⟩) hx
    · rfl
  exact ⟨hp, Nat.not_lt.1 fun hh => hx (Or.inr ⟨hp, hh⟩)⟩
theorem cvl_any {N : Nat} (a a' : Option Addr) (n cap m cap' : Nat) (p q : Nat → Rat) (L : Nat) (w : World) (hN : N ≤ w.heap.size) (h : Rs N w a n cap p L) (h' : Rs N w a' m cap' q L) (hL : L ≤ 2097152) (htab : TabW w) (hz : szQ p n + szQ q m ≤ 1048576) (hnm : n + m ≤ 1048576) :
    Calls Tryd.prog 5 #[.slice a n cap, .slice a' m cap'] w fun e w' => e = .returned (.bool true) ∧ Below w.heap.size w w' := by
  by_cases h1 : TrE p n
  · exact cvl_err1 a a' n cap m cap' p q L w hN h h' hL htab hz hnm h1
  · obtain ⟨hp, hn⟩ := trE_no h1
    by_cases h2 : TrE q m
    · exact cvl_err2 a a' n cap m cap' p q L w hN h h' hL htab hz hnm hp hn h2
    · obtain ⟨hq, hm⟩ := trE_no h2
      rcases Nat.lt_or_ge 120 (n + m) with h3 | h3
      · exact cvl_long a a' n cap m cap' p q L w hN h h' hL htab hz hnm hp hq hn hm h3
      · exact cvl_ok a a' n cap m cap' p q L w hN h h' hL htab hz hnm hp hq h3

end Go.Proofs.YtbjgnpgachdlaaaDoor
