/- Contracts of enemy.ordered and Norm, and of the reference's ordered, less, Same and Has. Conditions: lists of at most 2^43 - 2 elements. -/
import Derived.Test.YtonnbcongnkcdaaEnC
namespace Go.Proofs.Ytonnbcongnkcdaa
open Go.RowKit

/-- the slice holds the n pairs L -/
def Pr (w : World) (a : Option Addr) (n cap : Nat) (L : List (Int × Int)) : Prop :=
  L.length = n ∧ n ≤ cap ∧ cap ≤ maxLen ∧ (0 < n → ∃ b off, a = some ⟨b, off, none⟩ ∧ ∀ j, j < n → w.cell? ⟨b, off + j * 2, none⟩ = some (.int .i64 (L.getD j (0, 0)).1) ∧ w.cell? ⟨b, off + j * 2 + 1, none⟩ = some (.int .i64 (L.getD j (0, 0)).2))
theorem Pr.below {w w' : World} {a : Option Addr} {n cap : Nat} {L : List (Int × Int)} (h : Pr w a n cap L) (hb : Below w.heap.size w w') : Pr w' a n cap L := by
  obtain ⟨h0, h1, h2, h3⟩ := h
  refine ⟨h0, h1, h2, fun hn => ?_⟩
  obtain ⟨b, off, e, hc⟩ := h3 hn
  exact ⟨b, off, e, fun j hj => ⟨cell_mono (hc j hj).1 hb, cell_mono (hc j hj).2 hb⟩⟩
theorem Op2.pr {B : Nat} {E : TypeId} {w : World} {v : Value} {L : List (Int × Int)} (h : Op2 B E w v L) : ∃ a cap, v = .slice a L.length cap ∧ Pr w a L.length cap L := by
  rcases h.open with ⟨rfl, rfl⟩ | ⟨g, cap, rfl, _, _, hc, hm, hx⟩
  · exact ⟨none, 0, rfl, rfl, Nat.le_refl _, Nat.zero_le _, fun h => absurd h (by simp)⟩
  · exact ⟨_, cap, rfl, rfl, hc, hm, fun _ => ⟨g, 0, rfl, fun j hj => by rw [Nat.zero_add]; exact hx j hj⟩⟩
theorem getD_lt {L : List (Int × Int)} {k : Nat} (h : k < L.length) : L.getD k (0, 0) = L[k] := by simp [List.getD, h]
theorem infoPairE : (Try.prog.info? 47).map (fun i => (i.zero, i.size, i.bytes)) = some (some (.agg #[.int .i64 0, .int .i64 0]), 2, 16) := by kernel_rfl
theorem cell_twoP (w : World) (g : Nat) (hg : g = w.heap.size) (x y : Value) (T : TypeId) : ∀ (j : Nat) (u : Value), [x, y][j]? = some u → (w.alloc (.cells #[x, y] T)).cell? ((⟨g, 0, none⟩ : Addr).add j) = some u := by
  subst hg
  intro j u hj
  rcases j with _ | _ | j
  · simp at hj; subst hj; simp [Addr.add]
  · simp at hj; subst hj; simp [Addr.add]
  · simp at hj

set_option maxHeartbeats 1000000 in
theorem ord_any (a b x y : Int) (w : World) (h : ordP a b = (x, y)) :
    Calls Try.prog 29 #[.int .i64 a, .int .i64 b] w fun e w' => e = .returned (.agg #[.int .i64 x, .int .i64 y]) ∧ Below w.heap.size w w' := by
  unfold ordP at h
  rw [Prod.mk.injEq] at h
  obtain ⟨h1, h2⟩ := h
  rcases Int.lt_or_le a b with c | c
  · obtain rfl : a = x := by omega
    obtain rfl : b = y := by omega
    have e1 : min a b = a := by omega
    have e2 : max a b = b := by omega
    have c1 : ¬ b < a := by omega
    clear h1 h2
    go_enter Try.func29, Try.ntmps29
    go_wp2_with fail
    refine bodyPost_ret (v := .agg #[.int .i64 a, .int .i64 b]) (by simp [results, Try.results29, go_sem]) rfl ⟨rfl, ?_⟩
    (repeat' (first | with_reducible exact Below.refl _ _ | (with_reducible refine Below.alloc ?_ ?_ _; rotate_left; (focus (first | omega | (simp; done) | (simp; omega)))) | with_reducible apply Below.drew | (with_reducible refine Below.setCell ?_ ?_ _; rotate_left; (focus (first | omega | (simp; done) | (simp; omega))))))
  · obtain rfl : b = x := by omega
    obtain rfl : a = y := by omega
    have e1 : min a b = b := by omega
    have e2 : max a b = a := by omega
    have c1 : ¬ a < b := by omega
    clear h1 h2
    go_enter Try.func29, Try.ntmps29
    go_wp2_with fail
    refine bodyPost_ret (v := .agg #[.int .i64 b, .int .i64 a]) (by simp [results, Try.results29, go_sem]) rfl ⟨rfl, ?_⟩
    (repeat' (first | with_reducible exact Below.refl _ _ | (with_reducible refine Below.alloc ?_ ?_ _; rotate_left; (focus (first | omega | (simp; done) | (simp; omega)))) | with_reducible apply Below.drew | (with_reducible refine Below.setCell ?_ ?_ _; rotate_left; (focus (first | omega | (simp; done) | (simp; omega))))))

set_option maxHeartbeats 1000000 in
theorem xord_any (a b x y : Int) (w : World) (h : ordP a b = (x, y)) :
    Calls Try.prog 36 #[.int .i64 a, .int .i64 b] w fun e w' => e = .returned (.agg #[.int .i64 x, .int .i64 y]) ∧ Below w.heap.size w w' := by
  unfold ordP at h
  rw [Prod.mk.injEq] at h
  obtain ⟨h1, h2⟩ := h
  rcases Int.lt_or_le a b with c | c
  · obtain rfl : a = x := by omega
    obtain rfl : b = y := by omega
    have e1 : min a b = a := by omega
    have e2 : max a b = b := by omega
    have c1 : ¬ b < a := by omega
    clear h1 h2
    go_enter Try.func36, Try.ntmps36
    go_wp2_with fail
    refine bodyPost_ret (v := .agg #[.int .i64 a, .int .i64 b]) (by simp [results, Try.results36, go_sem]) rfl ⟨rfl, ?_⟩
    (repeat' (first | with_reducible exact Below.refl _ _ | (with_reducible refine Below.alloc ?_ ?_ _; rotate_left; (focus (first | omega | (simp; done) | (simp; omega)))) | with_reducible apply Below.drew | (with_reducible refine Below.setCell ?_ ?_ _; rotate_left; (focus (first | omega | (simp; done) | (simp; omega))))))
  · obtain rfl : b = x := by omega
    obtain rfl : a = y := by omega
    have e1 : min a b = b := by omega
    have e2 : max a b = a := by omega
    have c1 : ¬ a < b := by omega
    clear h1 h2
    go_enter Try.func36, Try.ntmps36
    go_wp2_with fail
    refine bodyPost_ret (v := .agg #[.int .i64 b, .int .i64 a]) (by simp [results, Try.results36, go_sem]) rfl ⟨rfl, ?_⟩
    (repeat' (first | with_reducible exact Below.refl _ _ | (with_reducible refine Below.alloc ?_ ?_ _; rotate_left; (focus (first | omega | (simp; done) | (simp; omega)))) | with_reducible apply Below.drew | (with_reducible refine Below.setCell ?_ ?_ _; rotate_left; (focus (first | omega | (simp; done) | (simp; omega))))))

set_option maxRecDepth 20000 in
set_option maxHeartbeats 4000000 in
theorem norm_any (a : Option Addr) (n cap : Nat) (L : List (Int × Int)) (w : World) (h : Pr w a n cap L) (hn : n ≤ 8796093022206) :
    Calls Try.prog 11 #[.slice a n cap] w fun e w' => ∃ v, e = .returned v ∧ Op2 w.heap.size 47 w' v (normR L) ∧ Below w.heap.size w w' := by
  have HL := Lib.hid h
  have b1 := h.2.1
  have b2 := h.2.2.1
  have b0 := h.1
  unfold maxLen at b2
  have HLN := Lib.hid b0
  clear h b0
  obtain ⟨i0, hi, hzz⟩ := Option.map_eq_some_iff.1 infoPairE
  simp only [Prod.mk.injEq] at hzz
  obtain ⟨hz0, hz1, hz2⟩ := hzz
  go_enter Try.func11, Try.ntmps11
  go_wp2_with fail
  go_loopw [3, 5, 8] (fun out _ i wr => ∃ (k : Nat) (l : List (Int × Int)), k ≤ n ∧ i = .int .i64 k ∧ rawN (L.take k) = l ∧ Op2 w.heap.size 47 wr out l ∧ Below w.heap.size w wr) (fun _ _ i _ => n - (intOf i).toNat)
  case atStart => exact ⟨0, [], Nat.zero_le _, rfl, rfl, Op2.nil _ _ _, Below.refl _ _⟩
  case round =>
    obtain ⟨k, l, hk, rfl, hl, hop, hbel⟩ := hrel
    have HLL := Lib.hid hl
    have HOP := Lib.hid hop
    have HB := Lib.hid hbel
    have hs0 := hbel.size
    have hll : l.length ≤ k := by rw [← hl]; exact Nat.le_trans (rawN_len _) (by rw [List.length_take]; omega)
    clear hl hop
    by_cases hkn : k < n
    · obtain ⟨b, off, rfl, hc⟩ := (HL.out.below hbel).2.2.2 (by omega)
      have hkL : k < L.length := by have := HLN.out; omega
      obtain ⟨g0, g1⟩ := hc k hkn
      rw [getD_lt hkL] at g0 g1
      obtain ⟨x, y, exy⟩ : ∃ x y, L[k] = (x, y) := ⟨_, _, rfl⟩
      rw [exy] at g0 g1
      simp only at g0 g1
      have HXY := Lib.hid (show rawN (L.take (k + 1)) = if x ≠ y then l ++ [ordP x y] else l by rw [take_snoc hkL, rawN_snoc, exy, HLL.out])
      have hix0 : (0 : Int) ≤ (k : Int) := by omega
      have hix1 : (k : Int) < (n : Int) := by omega
      clear hc exy hbel
      by_cases hxy : x = y
      · have HE := Lib.hid (show rawN (L.take (k + 1)) = l by rw [HXY.out, if_neg (fun h => h hxy)])
        subst hxy
        go_wp2_with fail
        go_roundw
        case rel => exact ⟨k + 1, l, by omega, by go_num, HE.out, by first | exact HOP.out.below (bel1 _ _) | exact HOP.out.below (by (repeat' (first | with_reducible exact Below.refl _ _ | (with_reducible refine Below.alloc ?_ ?_ _; rotate_left; (focus (first | omega | (simp; done) | (simp; omega)))) | with_reducible apply Below.drew | (with_reducible refine Below.setCell ?_ ?_ _; rotate_left; (focus (first | omega | (simp; done) | (simp; omega))))))), by (repeat' (first | with_reducible exact Below.refl _ _ | with_reducible exact HB.out | (with_reducible refine Below.alloc ?_ ?_ _; rotate_left; (focus (first | omega | (simp; done) | (simp; omega)))) | with_reducible apply Below.drew | (with_reducible refine Below.setCell ?_ ?_ _; rotate_left; (focus (first | omega | (simp; done) | (simp; omega))))))⟩
        case measure => simp [intOf]; omega
      · have hb1 : (x == y) = false := by simpa using hxy
        have hb2 : (x != y) = true := by simpa using hxy
        obtain ⟨p, q, hpq⟩ : ∃ p q, ordP x y = (p, q) := ⟨_, _, rfl⟩
        have HE := Lib.hid (show rawN (L.take (k + 1)) = l ++ [(p, q)] by rw [HXY.out, if_pos hxy, hpq])
        have HPQ := Lib.hid hpq
        clear hpq hxy
        go_wp2_with fail
        refine calls_name fun W2 hW => ?_
        have HB1 := Lib.hid (show Below w.heap.size w W2 by rw [← hW]; (repeat' (first | with_reducible exact Below.refl _ _ | with_reducible exact HB.out | (with_reducible refine Below.alloc ?_ ?_ _; rotate_left; (focus (first | omega | (simp; done) | (simp; omega)))) | with_reducible apply Below.drew | (with_reducible refine Below.setCell ?_ ?_ _; rotate_left; (focus (first | omega | (simp; done) | (simp; omega)))))))
        have HBr := Lib.hid (show Below wr.heap.size wr W2 by rw [← hW]; (repeat' (first | with_reducible exact Below.refl _ _ | (with_reducible refine Below.alloc ?_ ?_ _; rotate_left; (focus (first | omega | (simp; done) | (simp; omega)))) | with_reducible apply Below.drew | (with_reducible refine Below.setCell ?_ ?_ _; rotate_left; (focus (first | omega | (simp; done) | (simp; omega)))))))
        have HOP1 := Lib.hid (HOP.out.below HBr.out)
        have hs1 := HB1.out.size
        clear hW
        refine (ord_any x y p q _ HPQ.out).mono ?_
        rintro e wz ⟨rfl, hb⟩
        have HB2 := Lib.hid (HB1.out.trans (hb.mono hs1))
        have HOP2 := Lib.hid (HOP1.out.below hb)
        have hs2 := HB2.out.size
        clear hb g0 g1
        go_wp2_with (at_builtin; refine wpList_append_own_at _ rfl (.tmp 17) (.tmp 23) 22 rfl w.heap.size 47 i0 (.agg #[.int .i64 0, .int .i64 0]) 2 16 pairUnder hi hz0 hz1 hz2 rfl (by decide) _ l.length (l.flatMap enc2) rfl (World.ownsRow.alloc HOP2.out _) ⟨wz.heap.size, 0, none⟩ 1 1 [.int .i64 p, .int .i64 q] (by first | rfl | simp) rfl (cell_twoP _ _ rfl _ _ _) (by intro u hu; rcases List.mem_cons.1 hu with rfl | hu; (· rfl); (· rcases List.mem_cons.1 hu with rfl | hu; (· rfl); (· cases hu))) (by unfold maxLen; omega) (by omega) (by first | omega | (simp; omega)) ?_; intro v2 w9 hm9 hg9 _ hat9; have HO9 := Lib.hid (Op2.push hm9); have HB9 := Lib.hid ((HB2.out.alloc hs2 _).grown hg9 (by simp; omega) (fun j hj => (HOP2.out.lt j hj).1)); clear hm9 hg9 hat9)
        go_roundw
        case rel => exact ⟨k + 1, l ++ [(p, q)], by omega, by go_num, HE.out, HO9.out, HB9.out⟩
        case measure => simp [intOf]; omega
    · obtain rfl : k = n := by omega
      have HR := Lib.hid (show rawN L = l by rw [← HLL.out, List.take_of_length_le (by rw [HLN.out]; exact Nat.le_refl _)])
      clear hbel
      go_wp2_with fail
      refine (sortPr_own _ l _ HOP.out (by omega)).mono ?_
      rintro e w2 ⟨rfl, l2, h1, h2, h3, h4⟩
      have HOP2 := Lib.hid h1
      have HNR := Lib.hid (show Lib.compact l2 = normR L from norm_is (by rw [HR.out]; exact h2) h3)
      have HB2 := Lib.hid (HB.out.grown h4 hs0 (fun j hj => (HOP.out.lt j hj).1))
      have hs2 := HB2.out.size
      clear h1 h2 h3 h4
      go_wp2_with fail
      refine (compactP_own _ _ _ HOP2.out).mono ?_
      rintro e w3 ⟨v3, rfl, hv3, h5, h6⟩
      have HB3 := Lib.hid (HB2.out.grown h6 hs2 (fun j hj => (HOP2.out.lt j hj).1))
      rw [HNR.out] at h5
      have HO5 := Lib.hid h5
      clear h5 h6 hv3
      go_wp2_with fail
      go_ret
      exact ⟨_, rfl, HO5.out, HB3.out⟩

set_option maxHeartbeats 2000000 in
theorem xless_any (x y : Int × Int) (w : World) : Calls Try.prog 47 #[.agg #[.int .i64 x.1, .int .i64 x.2], .agg #[.int .i64 y.1, .int .i64 y.2]] w fun e w' => e = .returned (.bool (lxB x y)) ∧ Below w.heap.size w w' := by
  obtain ⟨x1, x2⟩ := x
  obtain ⟨y1, y2⟩ := y
  by_cases h1 : x1 < y1
  · have hd : decide (x1 < y1) = true := decide_eq_true h1
    have HE := Lib.hid (show lxB (x1, x2) (y1, y2) = true by simp [lxB, h1])
    go_enter Try.func47, Try.ntmps47
    go_wp2_with fail
    go_ret
    exact ⟨by rw [HE.out]; rfl, by (repeat' (first | with_reducible exact Below.refl _ _ | (with_reducible refine Below.alloc ?_ ?_ _; rotate_left; (focus (first | omega | (simp; done) | (simp; omega)))) | with_reducible apply Below.drew | (with_reducible refine Below.setCell ?_ ?_ _; rotate_left; (focus (first | omega | (simp; done) | (simp; omega))))))⟩
  · have hd : decide (x1 < y1) = false := decide_eq_false h1
    by_cases h2 : x1 = y1
    · subst h2
      have HE := Lib.hid (show lxB (x1, x2) (x1, y2) = decide (x2 < y2) by simp [lxB])
      obtain ⟨c, hc⟩ : ∃ c, decide (x2 < y2) = c := ⟨_, rfl⟩
      rw [hc] at HE
      go_enter Try.func47, Try.ntmps47
      go_wp2_with fail
      go_ret
      exact ⟨by rw [HE.out]; rfl, by (repeat' (first | with_reducible exact Below.refl _ _ | (with_reducible refine Below.alloc ?_ ?_ _; rotate_left; (focus (first | omega | (simp; done) | (simp; omega)))) | with_reducible apply Below.drew | (with_reducible refine Below.setCell ?_ ?_ _; rotate_left; (focus (first | omega | (simp; done) | (simp; omega))))))⟩
    · have hb1 : (x1 == y1) = false := by simpa using h2
      have HE := Lib.hid (show lxB (x1, x2) (y1, y2) = false by simp [lxB, h1, h2])
      go_enter Try.func47, Try.ntmps47
      go_wp2_with fail
      go_ret
      exact ⟨by rw [HE.out]; rfl, by (repeat' (first | with_reducible exact Below.refl _ _ | (with_reducible refine Below.alloc ?_ ?_ _; rotate_left; (focus (first | omega | (simp; done) | (simp; omega)))) | with_reducible apply Below.drew | (with_reducible refine Below.setCell ?_ ?_ _; rotate_left; (focus (first | omega | (simp; done) | (simp; omega))))))⟩

end Go.Proofs.Ytonnbcongnkcdaa
