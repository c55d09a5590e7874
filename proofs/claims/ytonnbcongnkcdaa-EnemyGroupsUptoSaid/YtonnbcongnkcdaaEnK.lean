/- Contract of enemy.Add. Condition: a list of at most 2^43 - 2 elements. -/
import Derived.Test.YtonnbcongnkcdaaEnJ
namespace Go.Proofs.Ytonnbcongnkcdaa
open Go.RowKit

theorem ordP_idem {p : Int × Int} (h : p.1 < p.2) : ordP p.1 p.2 = p := by unfold ordP; rw [Int.min_eq_left (by omega), Int.max_eq_right (by omega)]
theorem ordP_le (x y : Int) : ordP (ordP x y).1 (ordP x y).2 = ordP x y := by unfold ordP; simp only; rw [Int.min_eq_left (by omega), Int.max_eq_right (by omega)]
theorem normR_idem (L : List (Int × Int)) : normR (normR L) = normR L := by
  refine (normR_is (normR L)).unique ⟨(normR_is L).1, fun p => ⟨fun h => ?_, fun ⟨q, hq, hne, h⟩ => ?_⟩⟩
  · obtain ⟨q0, _, hne, rfl⟩ := ((normR_is L).2 p).1 h
    exact ⟨_, h, by have := ordP_ne hne; omega, ordP_idem (ordP_ne hne)⟩
  · obtain ⟨q0, _, hn0, rfl⟩ := ((normR_is L).2 q).1 hq
    rw [ordP_idem (ordP_ne hn0)] at h
    rw [← h]
    exact hq
theorem normR_push (L : List (Int × Int)) (x y : Int) : normR (normR L ++ [ordP x y]) = putL (normR L) (ordP x y) := by rw [normR_snoc, normR_idem, ordP_le]

set_option maxRecDepth 20000 in
set_option maxHeartbeats 4000000 in
theorem add_any (a : Option Addr) (n cap : Nat) (L : List (Int × Int)) (x y : Int) (w : World) (h : Pr w a n cap L) (hn : n ≤ 8796093022206) :
    Calls Try.prog 14 #[.slice a n cap, .int .i64 x, .int .i64 y] w (AddP w L x y) := by
  have HPL := Lib.hid h
  have hLn := h.1
  have HLN := Lib.hid hLn
  clear h hLn
  obtain ⟨i0, hi, hzz⟩ := Option.map_eq_some_iff.1 infoPairE
  simp only [Prod.mk.injEq] at hzz
  obtain ⟨hz0, hz1, hz2⟩ := hzz
  go_enter Try.func14, Try.ntmps14
  go_wp2_with fail
  · have HB : Below w.heap.size w w := Below.refl _ _
    rename_i h1 h2 h3 h4
    go_ret2
    unfold AddP
    refine ⟨3, _, (show addE L x y = 3 from ?_), rfl, fun h => absurd h (by decide), fun _ => rfl, ?_⟩
    · unfold addE; exact if_pos (by omega)
    · exact HB
  · have HB : Below w.heap.size w w := Below.refl _ _
    have h5 : x = y := by have h5 := ‹(x == y) = true›; simpa using h5
    have hr := ‹_ ∧ y ≤ 9999999›
    go_ret2
    unfold AddP
    refine ⟨1, _, (show addE L x y = 1 from ?_), rfl, fun h => absurd h (by decide), fun _ => rfl, ?_⟩
    · unfold addE; rw [if_neg (by omega), if_pos h5]
    · exact HB
  · have h5 : x ≠ y := by have h5 := ‹(x == y) = false›; simpa using h5
    have hr := ‹_ ∧ y ≤ 9999999›
    have HR := Lib.hid (show ¬ (x < 1 ∨ 9999999 < x ∨ y < 1 ∨ 9999999 < y) by omega)
    have HXY := Lib.hid h5
    clear h5 hr
    obtain ⟨cA, hcA⟩ : ∃ c, areP L x y = c := ⟨_, rfl⟩
    have HCA := Lib.hid hcA
    clear hcA
    refine (are_any _ _ _ L x y _ HPL.out cA HCA.out).mono ?_
    rintro e w1 ⟨rfl, hb⟩
    have HB := Lib.hid hb
    have hs1 := hb.size
    clear hb
    cases cA
    · go_wp2_with fail
      refine (norm_any _ _ _ L _ (HPL.out.below HB.out) (by omega)).mono ?_
      rintro e w2 ⟨v, rfl, ho, hb⟩
      obtain ⟨a2, c2, rfl, hp2⟩ := ho.pr
      have HO := Lib.hid ho
      have HP2 := Lib.hid hp2
      have HB2 := Lib.hid (HB.out.trans (hb.mono hs1))
      have HB21 := Lib.hid hb
      have hs21 := hb.size
      have hs2 := HB2.out.size
      have hNl : (normR L).length ≤ n := by have := normR_len L L.length (Nat.le_refl _); rw [List.take_length] at this; have := HLN.out; omega
      have HE := Lib.hid (show addE L x y = if 400 ≤ (normR L).length then 5 else 0 by unfold addE; rw [if_neg HR.out, if_neg HXY.out, HCA.out]; rfl)
      have HA := Lib.hid (show addR L x y = putL (normR L) (ordP x y) from rfl)
      obtain ⟨N, hN⟩ : ∃ N, normR L = N := ⟨_, rfl⟩
      have HN := Lib.hid hN
      rw [hN] at HP2 HO hNl HE HA ⊢
      obtain ⟨q, hq⟩ : ∃ q, N.length = q := ⟨_, rfl⟩
      have HQ := Lib.hid hq
      rw [hq] at HP2 hNl HE HO ⊢
      clear ho hp2 hb hN hq
      by_cases hq4 : 400 ≤ q
      · go_wp2_with fail
        go_ret2
        unfold AddP
        refine ⟨5, _, (show addE L x y = 5 from ?_), rfl, fun h => absurd h (by decide), fun _ => rfl, ?_⟩
        · rw [HE.out, if_pos hq4]
        · exact HB2.out
      · obtain ⟨p, q', hpq⟩ : ∃ p q, ordP x y = (p, q) := ⟨_, _, rfl⟩
        have HPQ := Lib.hid hpq
        have HAN := Lib.hid (show putL N (p, q') = normR (N ++ [(p, q')]) by rw [← HN.out, ← hpq]; exact (normR_push L x y).symm)
        rw [hpq] at HA
        clear hpq
        go_wp2_with fail
        refine (ord_any x y p q' _ HPQ.out).mono ?_
        rintro e w3 ⟨rfl, hb⟩
        have HB31 := Lib.hid (HB21.out.trans (hb.mono hs21))
        have hs31 := HB31.out.size
        have HO3 := Lib.hid (HO.out.below hb)
        have HOR := Lib.hid (show World.ownsRow w3 w1.heap.size 47 2 (.slice a2 q c2) q (N.flatMap enc2) from by have h := HO3.out; unfold Op2 at h; rw [HQ.out] at h; exact h)
        clear hb
        go_wp2_with (at_builtin; refine wpList_append_own_at _ rfl (.tmp 35) (.tmp 39) 22 rfl w1.heap.size 47 i0 (.agg #[.int .i64 0, .int .i64 0]) 2 16 pairUnder hi hz0 hz1 hz2 rfl (by decide) _ q (N.flatMap enc2) rfl (World.ownsRow.alloc HOR.out _) ⟨w3.heap.size, 0, none⟩ 1 1 [.int .i64 p, .int .i64 q'] (by first | rfl | simp) rfl (cell_twoP _ _ (by simp) _ _ _) (by intro u hu; rcases List.mem_cons.1 hu with rfl | hu; (· rfl); (· rcases List.mem_cons.1 hu with rfl | hu; (· rfl); (· cases hu))) (by unfold maxLen; omega) (by omega) (by first | omega | (simp; omega)) ?_; intro v2 w9 hm9 hg9 _ hat9; rw [← HQ.out] at hm9; have HO9 := Lib.hid (Op2.push hm9); have HB9 := Lib.hid ((HB31.out.alloc hs31 _).grown hg9 (by simp; omega) (fun j hj => (HOR.out.lt j hj).1)); clear hm9 hg9 hat9)
        obtain ⟨a9, c9, rfl, hp9⟩ := HO9.out.pr
        have HP9 := Lib.hid hp9
        clear hp9
        have hs9 := HB9.out.size
        refine (norm_any a9 _ c9 (N ++ [(p, q')]) w9 HP9.out (by have := HQ.out; simp; omega)).mono ?_
        rintro e w4 ⟨v, rfl, ho, hb⟩
        have HO4 := Lib.hid ho
        have HB4 := Lib.hid (HB.out.trans ((HB9.out.trans (hb.mono hs9)).mono hs1))
        clear ho hb
        go_wp2_with fail
        go_ret2
        unfold AddP
        refine ⟨0, _, (show addE L x y = 0 from ?_), rfl, fun _ => ?_, fun h => absurd rfl h, ?_⟩
        · rw [HE.out, if_neg hq4]
        · rw [HA.out, HAN.out]; exact ⟨_, Nat.le_trans hs1 hs9, HO4.out⟩
        · exact HB4.out
    · go_wp2_with fail
      go_ret2
      unfold AddP
      refine ⟨7, _, (show addE L x y = 7 from ?_), rfl, fun h => absurd h (by decide), fun _ => rfl, ?_⟩
      · unfold addE; rw [if_neg HR.out, if_neg HXY.out, if_pos HCA.out]
      · exact HB.out
  · have HB : Below w.heap.size w w := Below.refl _ _
    rename_i h1 h2 h3
    go_ret2
    unfold AddP
    refine ⟨3, _, (show addE L x y = 3 from ?_), rfl, fun h => absurd h (by decide), fun _ => rfl, ?_⟩
    · unfold addE; exact if_pos (by omega)
    · exact HB
  · have HB : Below w.heap.size w w := Below.refl _ _
    rename_i h1 h2
    go_ret2
    unfold AddP
    refine ⟨3, _, (show addE L x y = 3 from ?_), rfl, fun h => absurd h (by decide), fun _ => rfl, ?_⟩
    · unfold addE; exact if_pos (by omega)
    · exact HB
  · have HB : Below w.heap.size w w := Below.refl _ _
    rename_i h1
    go_ret2
    unfold AddP
    refine ⟨3, _, (show addE L x y = 3 from ?_), rfl, fun h => absurd h (by decide), fun _ => rfl, ?_⟩
    · unfold addE; exact if_pos (by omega)
    · exact HB

end Go.Proofs.Ytonnbcongnkcdaa
