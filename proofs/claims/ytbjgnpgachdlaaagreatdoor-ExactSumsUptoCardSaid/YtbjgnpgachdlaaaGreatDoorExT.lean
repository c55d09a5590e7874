/- Contracts of law07's part and is; short lists of rational numbers and of strings. -/
import Derived.Test.YtbjgnpgachdlaaaGreatDoorJoF
import Derived.Test.YtbjgnpgachdlaaaGreatDoorPrC
namespace Go.Proofs.YtbjgnpgachdlaaaGreatDoor
open Go.RowKit

theorem Nt.lit {N : Nat} (w : World) (x b : Nat) (hb : b = w.heap.size) (h : x < 4294967296) : Nt N (w.alloc (.cells #[.int .u32 x] 56)) (some ⟨b, 0, none⟩) 1 1 x := by
  subst hb
  refine ⟨⟨Nat.le_refl _, fun h => by cases h⟩, by unfold maxLen; omega, by rw [Nat.pow_one, B_eq]; exact h, fun _ => ⟨w.heap.size, 0, rfl, .inr ⟨_, _, heap_alloc_new w _⟩, fun i hi => ?_⟩⟩
  obtain rfl : i = 0 := by omega
  unfold dig
  rw [Nat.pow_zero, Nat.div_one, Nat.mod_eq_of_lt (by rw [B_eq]; exact h)]
  go_simp
/-- it returns a fraction of one limb in each part -/
def PartPost (N : Nat) (w : World) (q : Rat) (e : Ending) (w' : World) : Prop :=
  ∃ r r2, e = .returned (.agg #[.bool false, .slice r 1 1, .slice r2 1 1]) ∧ Rt N w' false r 1 1 r2 1 1 q 1 ∧ Below w.heap.size w w'

set_option maxHeartbeats 1000000 in
theorem part_any {N : Nat} (x y : Nat) (w : World) (_hN : N ≤ w.heap.size) (hx : x < 4294967296) (hy : y < 4294967296) (q : Rat) (hq : frq x y = q) :
    Calls Tryz.prog 37 #[.int .u32 x, .int .u32 y] w (PartPost N w q) := by
  have h1 := Lib.hid (Nt.lit (N := N) (w.alloc (.cells #[.bool false, .slice (some ⟨w.heap.size + 1, 0, none⟩) 1 1, .slice (some ⟨w.heap.size + 1 + 1, 0, none⟩) 1 1] 28)) x (w.heap.size + 1) (by simp) hx)
  have h2 := Lib.hid (Nt.lit (N := N) ((w.alloc (.cells #[.bool false, .slice (some ⟨w.heap.size + 1, 0, none⟩) 1 1, .slice (some ⟨w.heap.size + 1 + 1, 0, none⟩) 1 1] 28)).alloc (.cells #[.int .u32 x] 56)) y (w.heap.size + 1 + 1) (by simp) hy)
  have HQ := Lib.hid hq
  clear hq
  go_enter Tryz.func37, Tryz.ntmps37
  go_wp2_with fail
  exact bodyPost_ret (v := .agg #[.bool false, .slice (some ⟨w.heap.size + 1, 0, none⟩) 1 1, .slice (some ⟨w.heap.size + 1 + 1, 0, none⟩) 1 1]) (by simp [results, Tryz.results37, go_sem]) rfl ⟨_, _, rfl, ⟨Nat.le_refl _, Nat.le_refl _, Nat.le_refl _, x, y, h1.out.below (bel1 _ _), h2.out, HQ.out⟩, bel3 w _ _ _⟩

/-- the slice holds n strings -/
def Ss (w : World) (a : Option Addr) (n cap : Nat) (s : Nat → ByteArray) : Prop :=
  n ≤ cap ∧ cap ≤ maxLen ∧ (0 < n → ∃ b off, a = some ⟨b, off, none⟩ ∧ ∀ i, i < n → w.cell? ⟨b, off + i, none⟩ = some (.string (s i)))
theorem Ss.below {w w' : World} {a : Option Addr} {n cap : Nat} {s : Nat → ByteArray} (h : Ss w a n cap s) (hb : Below w.heap.size w w') : Ss w' a n cap s := by
  obtain ⟨h0, h1, h2⟩ := h
  refine ⟨h0, h1, fun hn => ?_⟩
  obtain ⟨b, off, e, hc⟩ := h2 hn
  exact ⟨b, off, e, fun i hi => cell_mono (hc i hi) hb⟩
def sel3 {α : Type} (x y z : α) (i : Nat) : α := if i = 0 then x else if i = 1 then y else z
theorem Ss.three (w : World) (b : Nat) (hb : b = w.heap.size) (x y z : ByteArray) : Ss (w.alloc (.cells #[.string x, .string y, .string z] 9)) (some ⟨b, 0, none⟩) 3 3 (sel3 x y z) := by
  subst hb
  refine ⟨Nat.le_refl _, by unfold maxLen; omega, fun _ => ⟨w.heap.size, 0, rfl, fun i hi => ?_⟩⟩
  obtain rfl | rfl | rfl : i = 0 ∨ i = 1 ∨ i = 2 := by omega
  all_goals (simp only [sel3]; go_simp)
theorem Ss.two (w : World) (b : Nat) (hb : b = w.heap.size) (x y z : ByteArray) : Ss (w.alloc (.cells #[.string x, .string y] 9)) (some ⟨b, 0, none⟩) 2 2 (sel3 x y z) := by
  subst hb
  refine ⟨Nat.le_refl _, by unfold maxLen; omega, fun _ => ⟨w.heap.size, 0, rfl, fun i hi => ?_⟩⟩
  obtain rfl | rfl : i = 0 ∨ i = 1 := by omega
  all_goals (simp only [sel3]; go_simp)
theorem Rs.two {N : Nat} {w : World} {s s' : Bool} {a d a' d' : Option Addr} {na ca nd cd na' ca' nd' cd' L : Nat} {x y : Rat} (b : Nat) (hb : b = w.heap.size) (z : Rat) (h : Rt N w s a na ca d nd cd x L) (h' : Rt N w s' a' na' ca' d' nd' cd' y L) :
    Rs N (w.alloc (.cells #[.bool s, .slice a na ca, .slice d nd cd, .bool s', .slice a' na' ca', .slice d' nd' cd'] 28)) (some ⟨b, 0, none⟩) 2 2 (sel3 x y z) L := by
  subst hb
  refine ⟨Nat.le_refl _, by unfold maxLen; omega, fun _ => ⟨w.heap.size, 0, rfl, fun i hi => ?_⟩⟩
  obtain rfl | rfl : i = 0 ∨ i = 1 := by omega
  · exact ⟨s, a, na, ca, d, nd, cd, by go_simp, by go_simp, by go_simp, h.below (bel1 w _)⟩
  · exact ⟨s', a', na', ca', d', nd', cd', by go_simp, by go_simp, by go_simp, h'.below (bel1 w _)⟩
theorem Rs.three {N : Nat} {w : World} {s s' s2 : Bool} {a d a' d' a2 d2 : Option Addr} {na ca nd cd na' ca' nd' cd' na2 ca2 nd2 cd2 L : Nat} {x y z : Rat} (b : Nat) (hb : b = w.heap.size) (h : Rt N w s a na ca d nd cd x L) (h' : Rt N w s' a' na' ca' d' nd' cd' y L) (h2 : Rt N w s2 a2 na2 ca2 d2 nd2 cd2 z L) :
    Rs N (w.alloc (.cells #[.bool s, .slice a na ca, .slice d nd cd, .bool s', .slice a' na' ca', .slice d' nd' cd', .bool s2, .slice a2 na2 ca2, .slice d2 nd2 cd2] 28)) (some ⟨b, 0, none⟩) 3 3 (sel3 x y z) L := by
  subst hb
  refine ⟨Nat.le_refl _, by unfold maxLen; omega, fun _ => ⟨w.heap.size, 0, rfl, fun i hi => ?_⟩⟩
  obtain rfl | rfl | rfl : i = 0 ∨ i = 1 ∨ i = 2 := by omega
  · exact ⟨s, a, na, ca, d, nd, cd, by go_simp, by go_simp, by go_simp, h.below (bel1 w _)⟩
  · exact ⟨s', a', na', ca', d', nd', cd', by go_simp, by go_simp, by go_simp, h'.below (bel1 w _)⟩
  · exact ⟨s2, a2, na2, ca2, d2, nd2, cd2, by go_simp, by go_simp, by go_simp, h2.below (bel1 w _)⟩
/-- the text of q is sv, and q is small -/
def Tx (q : Rat) (sv : ByteArray) : Prop := 0 ≤ q.num ∧ q.num.natAbs < 1000000000 ∧ q.den < 1000000000 ∧ (⟨(txt q).toArray⟩ : ByteArray) = sv
theorem print_is {N : Nat} (s : Bool) (a d : Option Addr) (na ca nd cd L : Nat) (q : Rat) (w : World) (hN : N ≤ w.heap.size) (h : Rt N w s a na ca d nd cd q L) (hL : L ≤ 68719476736) (htab : TabW w) (sv : ByteArray) (ht : Tx q sv) :
    Calls Tryz.prog 79 #[.agg #[.bool s, .slice a na ca, .slice d nd cd]] w fun e w' => e = .returned (.string sv) ∧ Below w.heap.size w w' := by
  refine (ratPrint_any s a d na ca nd cd L q w hN h hL htab).mono ?_
  rintro e w' ⟨l, rfl, _, hl, hb⟩
  obtain ⟨h1, h2, h3, h4⟩ := ht
  exact ⟨by rw [hl h1 h2 h3, h4], hb⟩

set_option maxHeartbeats 2000000 in
theorem is_any {N : Nat} (a a' : Option Addr) (n cap cap' : Nat) (q : Nat → Rat) (sw : Nat → ByteArray) (L : Nat) (w : World) (hN : N ≤ w.heap.size) (h : Rs N w a n cap q L) (h' : Ss w a' n cap' sw) (hL : L ≤ 2097152) (htab : TabW w) (hx : ∀ i, i < n → Tx (q i) (sw i)) :
    Calls Tryz.prog 38 #[.slice a n cap, .slice a' n cap'] w fun e w' => e = .returned (.bool true) ∧ Below w.heap.size w w' := by
  have HA := Lib.hid h
  have HW := Lib.hid h'
  have HTab := Lib.hid htab
  have HTx := Lib.hid hx
  have bc1 := h.1
  have bc2 := h.2.1
  have bc3 := h'.1
  have bc4 := h'.2.1
  unfold maxLen at bc2 bc4
  clear h h' htab hx
  have hN0 := hN
  go_enter Tryz.func38, Tryz.ntmps38
  go_wp2_with fail
  go_loopw [5] (fun i wr => ∃ k : Nat, k ≤ n ∧ i = .int .i64 k ∧ Below w.heap.size w wr ∧ w.heap.size ≤ wr.heap.size) (fun i _ => n - (intOf i).toNat)
  case atStart => exact ⟨0, Nat.zero_le _, rfl, Below.refl _ _, Nat.le_refl _⟩
  case round =>
    obtain ⟨k, hk, rfl, hbel, hsz⟩ := hrel
    have HAr := Lib.hid (HA.out.below hbel)
    have HWr := Lib.hid (HW.out.below hbel)
    have HT := Lib.hid (HTab.out.below hbel)
    have HB := Lib.hid hbel
    have hs0 : w.heap.size ≤ wr.heap.size := by omega
    have hN2 : N ≤ wr.heap.size := by omega
    clear hbel
    clear hN
    have hN := hN2
    clear hN2
    by_cases hkn : k < n
    · obtain ⟨b1, o1, rfl, hc1⟩ := HAr.out.2.2 (by omega)
      obtain ⟨s, ra, rn, rc, da, dn, dc, g0, g1, g2, hrt⟩ := hc1 k hkn
      obtain ⟨b2, o2, rfl, hc2⟩ := HWr.out.2.2 (by omega)
      have g3 := hc2 k hkn
      have HR := Lib.hid hrt
      clear hc1 hc2 hrt HAr HWr
      obtain ⟨sv, hsv⟩ : ∃ sv, sw k = sv := ⟨_, rfl⟩
      rw [hsv] at g3
      have HX := Lib.hid (show Tx (q k) sv by rw [← hsv]; exact HTx.out k hkn)
      clear hsv
      have hl1 : b1 < wr.heap.size := World.block_lt_of_cell? wr _ g0
      have hl2 : b2 < wr.heap.size := World.block_lt_of_cell? wr _ g3
      have hix0 : (0 : Int) ≤ (k : Int) := by omega
      have hix1 : (k : Int) < (n : Int) := by omega
      go_wp2_with fail
      go_region_held3 (fun w' => w'.cell? ⟨b1, o1 + k * 3, none⟩ = some (.bool s) ∧ w'.cell? ⟨b1, o1 + k * 3 + 1, none⟩ = some (.slice ra rn rc) ∧ w'.cell? ⟨b1, o1 + k * 3 + 2, none⟩ = some (.slice da dn dc) ∧ w'.cell? ⟨b2, o2 + k, none⟩ = some (.string sv))
        (first | (go_keep; done) | ((try dsimp only); (repeat' apply And.intro) <;> (first | (go_keep; done) | (exact cell_keep_alloc_drew (by first | omega | (simp; omega)) (by first | assumption | go_simp)) | (exact cell_keep_alloc (by first | omega | (simp; omega)) (by first | assumption | go_simp)) | (rw [cell_set2 _ _ _ _ _ _ _ _ (by omega)]; assumption) | (rw [cell_set3 _ _ _ _ _ _ _ _ _ _ (by omega)]; assumption))))
        (first
          | (go_at_call 79; refine (print_is (N := N) _ _ _ _ _ _ _ L (q k) _ (by exact hN) (by exact HR.out) (by omega) (by exact HT.out) sv HX.out).mono ?_; rintro e wa ⟨rfl, hb⟩; replace hb : Below wr.heap.size wr wa := (by first | exact hb | exact bel_of_drew hb); have g0' : wa.cell? ⟨b1, o1 + k * 3, none⟩ = some (.bool s) := (hb.cell (p := ⟨b1, o1 + k * 3, none⟩) hl1).trans g0; have g1' : wa.cell? ⟨b1, o1 + k * 3 + 1, none⟩ = some (.slice ra rn rc) := (hb.cell (p := ⟨b1, o1 + k * 3 + 1, none⟩) hl1).trans g1; have g2' : wa.cell? ⟨b1, o1 + k * 3 + 2, none⟩ = some (.slice da dn dc) := (hb.cell (p := ⟨b1, o1 + k * 3 + 2, none⟩) hl1).trans g2; have g3' : wa.cell? ⟨b2, o2 + k, none⟩ = some (.string sv) := (hb.cell (p := ⟨b2, o2 + k, none⟩) hl2).trans g3; have hs_wa : wr.heap.size ≤ wa.heap.size := hb.size; replace HR := Lib.hid (HR.out.below hb); replace HB := Lib.hid (HB.out.trans (hb.mono hs0)); replace hN : N ≤ wa.heap.size := Nat.le_trans hN hb.size; replace hs0 : w.heap.size ≤ wa.heap.size := Nat.le_trans hs0 hb.size; replace HT := Lib.hid (HT.out.below hb); clear hb; skip))
      go_wp2_with fail
      go_roundw
      case rel => exact ⟨k + 1, by omega, by go_num, HB.out, hs0⟩
      case measure => simp [intOf]; omega
    · obtain rfl : k = n := by omega
      go_wp2_with fail
      go_ret
      exact ⟨rfl, HB.out⟩

end Go.Proofs.YtbjgnpgachdlaaaGreatDoor
