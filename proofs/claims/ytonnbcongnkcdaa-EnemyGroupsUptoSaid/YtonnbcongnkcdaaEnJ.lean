/- Contracts of the reference's index and Add. Conditions: lists of at most 2^43 - 2 elements. -/
import Derived.Test.YtonnbcongnkcdaaEnI
namespace Go.Proofs.Ytonnbcongnkcdaa
open Go.RowKit

/-- the place of a number in a list, 0 if it is not there -/
def idxR (zs : List Int) (x : Int) : Nat := if zs.any (fun y => y == x) = true then zs.findIdx (fun y => y == x) else 0
theorem idxR_at {zs : List Int} {x : Int} {k : Nat} (hk : k < zs.length) (hn : (zs.take k).any (fun y => y == x) = false) (hx : zs[k] = x) : idxR zs x = k := by
  unfold idxR
  rw [if_pos (by rw [List.any_eq_true]; exact ⟨zs[k], List.getElem_mem hk, by rw [hx]; simp⟩)]
  refine (List.findIdx_eq hk).2 ⟨by rw [hx]; simp, fun j hj => ?_⟩
  rw [List.any_eq_false] at hn
  have h := hn zs[j] (by rw [List.mem_take_iff_getElem]; exact ⟨j, by omega, rfl⟩)
  simpa using h
theorem idxR_no {zs : List Int} {x : Int} (hn : zs.any (fun y => y == x) = false) : idxR zs x = 0 := by unfold idxR; rw [hn]; rfl

set_option maxHeartbeats 2000000 in
theorem xindex_any (a : Option Addr) (n cap : Nat) (zs : List Int) (x : Int) (w : World) (h : Zl w a n cap zs) (c : Nat) (hc : idxR zs x = c) :
    Calls Try.prog 43 #[.slice a n cap, .int .i64 x] w fun e w' => e = .returned (.int .i64 c) ∧ w' = w := by
  have HZ := Lib.hid h
  have b1 := h.2.1
  have b2 := h.2.2.1
  have b0 := h.1
  unfold maxLen at b2
  have HLN := Lib.hid b0
  have HC := Lib.hid hc
  clear h b0 hc
  go_enter Try.func43, Try.ntmps43
  go_wp2_with fail
  go_loopw [5] (fun i wr => ∃ k : Nat, k ≤ n ∧ i = .int .i64 k ∧ Hid ((zs.take k).any (fun y => y == x) = false) ∧ w = wr) (fun i _ => n - (intOf i).toNat)
  case atStart => exact ⟨0, Nat.zero_le _, rfl, Lib.hid rfl, rfl⟩
  case round =>
    obtain ⟨k, hk, rfl, hin, rfl⟩ := hrel
    by_cases hkn : k < n
    · obtain ⟨b, off, rfl, hcc⟩ := HZ.out.2.2.2 (by omega)
      have hkL : k < zs.length := by have := HLN.out; omega
      have g0 := hcc k hkn
      rw [getD_lt1 hkL] at g0
      obtain ⟨y, hy⟩ : ∃ y, zs[k] = y := ⟨_, rfl⟩
      rw [hy] at g0
      have HY := Lib.hid hy
      clear hcc hy
      have hix0 : (0 : Int) ≤ (k : Int) := by omega
      have hix1 : (k : Int) < (n : Int) := by omega
      by_cases hyx : y = x
      · subst hyx
        obtain rfl : k = c := by rw [← HC.out]; exact (idxR_at hkL hin.out HY.out).symm
        go_wp2_with fail
        go_ret
        exact ⟨rfl, rfl⟩
      · have hb1 : (y == x) = false := by simpa using hyx
        have HN := Lib.hid (show (zs.take (k + 1)).any (fun y => y == x) = false by rw [any_take hkL hin.out, HY.out]; exact hb1)
        go_wp2_with fail
        go_roundw
        case rel => exact ⟨k + 1, by omega, by go_num, HN, by first | rfl | trivial⟩
        case measure => simp [intOf]; omega
    · obtain rfl : k = n := by omega
      obtain rfl : 0 = c := by rw [← HC.out]; exact (idxR_no (by rw [← hin.out, List.take_of_length_le (by rw [HLN.out]; exact Nat.le_refl _)])).symm
      go_wp2_with fail
      go_ret
      exact ⟨rfl, rfl⟩

/-- how Add ends: the code, and the relation -/
def addE (l : List (Int × Int)) (x y : Int) : Nat := if x < 1 ∨ 9999999 < x ∨ y < 1 ∨ 9999999 < y then 3 else if x = y then 1 else if areP l x y = true then 7 else if 400 ≤ (normR l).length then 5 else 0
def addR (l : List (Int × Int)) (x y : Int) : List (Int × Int) := putL (normR l) (ordP x y)
def AddP (w : World) (L : List (Int × Int)) (x y : Int) (e : Ending) (w' : World) : Prop := ∃ (c : Nat) (v : Value), addE L x y = c ∧ e = .returned (.tuple #[v, .int .i64 c]) ∧ (c = 0 → PnO w.heap.size (addR L x y) v w') ∧ (c ≠ 0 → v = .slice none 0 0) ∧ Below w.heap.size w w'

set_option maxRecDepth 20000 in
set_option maxHeartbeats 4000000 in
theorem xadd_any (a : Option Addr) (n cap : Nat) (L : List (Int × Int)) (x y : Int) (w : World) (h : Pr w a n cap L) (hn : n ≤ 8796093022206) :
    Calls Try.prog 15 #[.slice a n cap, .int .i64 x, .int .i64 y] w (AddP w L x y) := by
  have HPL := Lib.hid h
  have hLn := h.1
  have HLN := Lib.hid hLn
  clear h hLn
  go_enter Try.func15, Try.ntmps15
  go_wp2_with fail
  · have HB : Below w.heap.size w w := Below.refl _ _
    rename_i h1 h2 h3 h4
    go_ret2
    unfold AddP
    refine ⟨3, _, (show addE L x y = 3 from ?_), rfl, fun h => absurd h (by decide), fun _ => rfl, ?_⟩
    · unfold addE; exact if_pos (by omega)
    · exact HB
  · have HB : Below w.heap.size w w := Below.refl _ _
    have h5 : x = y := by have h5 := ‹(x == y) = true›; simpa using h5
    have hr := ‹_ ∧ y ≤ 9999999›
    go_ret2
    unfold AddP
    refine ⟨1, _, (show addE L x y = 1 from ?_), rfl, fun h => absurd h (by decide), fun _ => rfl, ?_⟩
    · unfold addE; rw [if_neg (by omega), if_pos h5]
    · exact HB
  · have h5 : x ≠ y := by have h5 := ‹(x == y) = false›; simpa using h5
    have hr := ‹_ ∧ y ≤ 9999999›
    have HR := Lib.hid (show ¬ (x < 1 ∨ 9999999 < x ∨ y < 1 ∨ 9999999 < y) by omega)
    have HXY := Lib.hid h5
    clear h5 hr
    obtain ⟨cA, hcA⟩ : ∃ c, areP L x y = c := ⟨_, rfl⟩
    have HCA := Lib.hid hcA
    clear hcA
    refine (xare_any _ _ _ L x y _ HPL.out cA HCA.out).mono ?_
    rintro e w1 ⟨rfl, hb⟩
    have HB := Lib.hid hb
    have hs1 := hb.size
    clear hb
    cases cA
    · go_wp2_with fail
      refine (xnorm_any _ _ _ L _ (HPL.out.below HB.out) hn).mono ?_
      rintro e w2 ⟨v, rfl, ho, hb⟩
      obtain ⟨a2, c2, rfl, hp2⟩ := ho.pr
      have HO := Lib.hid ho
      have HP2 := Lib.hid hp2
      have HB2 := Lib.hid (HB.out.trans (hb.mono hs1))
      have hs2 := HB2.out.size
      have hNl : (normR L).length ≤ n := by have := normR_len L L.length (Nat.le_refl _); rw [List.take_length] at this; have := HLN.out; omega
      have HE := Lib.hid (show addE L x y = if 400 ≤ (normR L).length then 5 else 0 by unfold addE; rw [if_neg HR.out, if_neg HXY.out, HCA.out]; rfl)
      have HA := Lib.hid (show addR L x y = putL (normR L) (ordP x y) from rfl)
      obtain ⟨N, hN⟩ : ∃ N, normR L = N := ⟨_, rfl⟩
      rw [hN] at HP2 HO hNl HE HA ⊢
      obtain ⟨q, hq⟩ : ∃ q, N.length = q := ⟨_, rfl⟩
      have HQ := Lib.hid hq
      rw [hq] at HP2 hNl HE HO ⊢
      clear ho hp2 hb hN hq
      by_cases hq4 : 400 ≤ q
      · go_wp2_with fail
        go_ret2
        unfold AddP
        refine ⟨5, _, (show addE L x y = 5 from ?_), rfl, fun h => absurd h (by decide), fun _ => rfl, ?_⟩
        · rw [HE.out, if_pos hq4]
        · exact HB2.out
      · obtain ⟨p, q', hpq⟩ : ∃ p q, ordP x y = (p, q) := ⟨_, _, rfl⟩
        have HPQ := Lib.hid hpq
        rw [hpq] at HA
        clear hpq
        have HO2 := Lib.hid (show PnO w.heap.size N _ w2 from HO.out.imp fun B h => ⟨Nat.le_trans hs1 h.1, h.2⟩)
        go_wp2_with fail
        refine (xord_any x y p q' _ HPQ.out).mono ?_
        rintro e w3 ⟨rfl, hb⟩
        have HB3 := Lib.hid (HB2.out.trans (hb.mono hs2))
        have hs3 := HB3.out.size
        have HO3 := Lib.hid (HO2.out.below hb)
        clear hb
        go_wp2_with fail
        refine (xput_at w.heap.size N _ (p, q') _ hs3 HO3.out (by have := HQ.out; omega) _ rfl).mono ?_
        rintro e w4 ⟨v, rfl, ho, hb⟩
        have HO4 := Lib.hid ho
        have HB4 := Lib.hid (HB3.out.trans (hb.mono hs3))
        clear ho hb
        go_wp2_with fail
        go_ret2
        unfold AddP
        refine ⟨0, _, (show addE L x y = 0 from ?_), rfl, fun _ => ?_, fun h => absurd rfl h, ?_⟩
        · rw [HE.out, if_neg hq4]
        · rw [HA.out]; exact HO4.out
        · exact HB4.out
    · go_wp2_with fail
      go_ret2
      unfold AddP
      refine ⟨7, _, (show addE L x y = 7 from ?_), rfl, fun h => absurd h (by decide), fun _ => rfl, ?_⟩
      · unfold addE; rw [if_neg HR.out, if_neg HXY.out, if_pos HCA.out]
      · exact HB.out
  · have HB : Below w.heap.size w w := Below.refl _ _
    rename_i h1 h2 h3
    go_ret2
    unfold AddP
    refine ⟨3, _, (show addE L x y = 3 from ?_), rfl, fun h => absurd h (by decide), fun _ => rfl, ?_⟩
    · unfold addE; exact if_pos (by omega)
    · exact HB
  · have HB : Below w.heap.size w w := Below.refl _ _
    rename_i h1 h2
    go_ret2
    unfold AddP
    refine ⟨3, _, (show addE L x y = 3 from ?_), rfl, fun h => absurd h (by decide), fun _ => rfl, ?_⟩
    · unfold addE; exact if_pos (by omega)
    · exact HB
  · have HB : Below w.heap.size w w := Below.refl _ _
    rename_i h1
    go_ret2
    unfold AddP
    refine ⟨3, _, (show addE L x y = 3 from ?_), rfl, fun h => absurd h (by decide), fun _ => rfl, ?_⟩
    · unfold addE; exact if_pos (by omega)
    · exact HB

end Go.Proofs.Ytonnbcongnkcdaa
