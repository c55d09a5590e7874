/- Contracts of the reference's Are and Conflicts. Conditions: lists of at most 2^43 - 2 elements. -/
import Derived.Test.YtonnbcongnkcdaaEnH
namespace Go.Proofs.Ytonnbcongnkcdaa
open Go.RowKit


set_option maxRecDepth 20000 in
set_option maxHeartbeats 4000000 in
theorem xare_any (a : Option Addr) (n cap : Nat) (L : List (Int × Int)) (x0 y0 : Int) (w : World) (h : Pr w a n cap L) (c : Bool) (hc : areP L x0 y0 = c) :
    Calls Try.prog 19 #[.slice a n cap, .int .i64 x0, .int .i64 y0] w fun e w' => e = .returned (.bool c) ∧ Below w.heap.size w w' := by
  have HPL := Lib.hid h
  have b1 := h.2.1
  have b2 := h.2.2.1
  have b0 := h.1
  unfold maxLen at b2
  have HLN := Lib.hid b0
  clear h b0
  have HC := Lib.hid hc
  clear hc
  by_cases hxy : x0 = y0
  · subst hxy
    obtain rfl : false = c := by rw [← HC.out]; simp [areP]
    go_enter Try.func19, Try.ntmps19
    go_wp2_with fail
    go_ret
    exact ⟨rfl, Below.refl _ _⟩
  · have hb0 : (x0 == y0) = false := by simpa using hxy
    have hb9 : (y0 == x0) = false := by simp; exact fun h => hxy h.symm
    have HC2 := Lib.hid (show (L.any fun p => decide (ordP p.1 p.2 = ordP x0 y0)) = c by rw [← HC.out]; simp [areP, hxy])
    have HXY0 := Lib.hid hxy
    clear hxy HC
    go_enter Try.func19, Try.ntmps19
    go_wp2_with fail
    go_loopw [7] (fun i wr => ∃ k : Nat, k ≤ n ∧ i = .int .i64 k ∧ Hid ((L.take k).any (fun p => decide (ordP p.1 p.2 = ordP x0 y0)) = false) ∧ w = wr) (fun i _ => n - (intOf i).toNat)
    case atStart => exact ⟨0, Nat.zero_le _, rfl, Lib.hid rfl, rfl⟩
    case round =>
      obtain ⟨k, hk, rfl, hin, rfl⟩ := hrel
      by_cases hkn : k < n
      · obtain ⟨b, off, rfl, hcc⟩ := HPL.out.2.2.2 (by omega)
        have hkL : k < L.length := by have := HLN.out; omega
        obtain ⟨g0, g1⟩ := hcc k hkn
        rw [getD_lt hkL] at g0 g1
        obtain ⟨x, y, exy⟩ : ∃ x y, L[k] = (x, y) := ⟨_, _, rfl⟩
        rw [exy] at g0 g1
        simp only at g0 g1
        have HXY := Lib.hid exy
        have hix0 : (0 : Int) ≤ (k : Int) := by omega
        have hix1 : (k : Int) < (n : Int) := by omega
        clear hcc exy
        by_cases e1 : x0 = x
        · subst e1
          by_cases e2 : y0 = y
          · subst e2
            obtain rfl : true = c := by rw [← HC2.out]; exact (any_yes hkL (by rw [HXY.out]; first | (simp; done) | (simp only; rw [ordP_comm]; simp))).symm
            go_wp2_with fail
            go_ret
            exact ⟨rfl, Below.refl _ _⟩
          · have hb2 : (y == y0) = false := by simp; exact fun h => e2 h.symm
            have HE2 := Lib.hid e2
            clear e2
            have HNX := Lib.hid (show (L.take (k + 1)).any (fun p => decide (ordP p.1 p.2 = ordP x0 y0)) = false by rw [any_take hkL hin.out, HXY.out]; simp only; exact decide_eq_false (fun h => by rcases ordP_eq.1 h with ⟨h1, h2⟩ | ⟨h1, h2⟩ <;> first | exact HE2.out h2.symm | exact HXY0.out h1 | exact HXY0.out h1.symm))
            go_wp2_with fail
            go_roundw
            case rel => exact ⟨k + 1, by omega, by go_num, HNX, by first | rfl | trivial⟩
            case measure => simp [intOf]; omega
        · have hb1 : (x == x0) = false := by simp; exact fun h => e1 h.symm
          have HE1 := Lib.hid e1
          clear e1
          by_cases e3 : y0 = x
          · subst e3
            by_cases e4 : x0 = y
            · subst e4
              obtain rfl : true = c := by rw [← HC2.out]; exact (any_yes hkL (by rw [HXY.out]; first | (simp; done) | (simp only; rw [ordP_comm]; simp))).symm
              go_wp2_with fail
              go_ret
              exact ⟨rfl, Below.refl _ _⟩
            · have hb4 : (y == x0) = false := by simp; exact fun h => e4 h.symm
              have HE4 := Lib.hid e4
              clear e4
              have HNX := Lib.hid (show (L.take (k + 1)).any (fun p => decide (ordP p.1 p.2 = ordP x0 y0)) = false by rw [any_take hkL hin.out, HXY.out]; simp only; exact decide_eq_false (fun h => by rcases ordP_eq.1 h with ⟨h1, h2⟩ | ⟨h1, h2⟩ <;> first | exact HE4.out h2.symm | exact HE1.out h1.symm))
              go_wp2_with fail
              go_roundw
              case rel => exact ⟨k + 1, by omega, by go_num, HNX, by first | rfl | trivial⟩
              case measure => simp [intOf]; omega
          · have hb3 : (x == y0) = false := by simp; exact fun h => e3 h.symm
            have HE3 := Lib.hid e3
            clear e3
            have HNX := Lib.hid (show (L.take (k + 1)).any (fun p => decide (ordP p.1 p.2 = ordP x0 y0)) = false by rw [any_take hkL hin.out, HXY.out]; simp only; exact decide_eq_false (fun h => by rcases ordP_eq.1 h with ⟨h1, h2⟩ | ⟨h1, h2⟩ <;> first | exact HE1.out h1.symm | exact HE3.out h1.symm))
            go_wp2_with fail
            go_roundw
            case rel => exact ⟨k + 1, by omega, by go_num, HNX, by first | rfl | trivial⟩
            case measure => simp [intOf]; omega
      · obtain rfl : k = n := by omega
        obtain rfl : false = c := by rw [← HC2.out, ← hin.out, List.take_of_length_le (by rw [HLN.out]; exact Nat.le_refl _)]
        go_wp2_with fail
        go_ret
        exact ⟨rfl, Below.refl _ _⟩

set_option maxRecDepth 20000 in
set_option maxHeartbeats 4000000 in
theorem xconflicts_any (a : Option Addr) (n cap : Nat) (L : List (Int × Int)) (ia : Option Addr) (m ic : Nat) (ids : List Int) (w : World) (h : Pr w a n cap L) (hz : Zl w ia m ic ids) (hn : n ≤ 8796093022206) :
    Calls Try.prog 21 #[.slice a n cap, .slice ia m ic] w fun e w' => ∃ v, e = .returned v ∧ PnO w.heap.size (cfl (normR L) ids) v w' ∧ Below w.heap.size w w' := by
  have HPL := Lib.hid h
  have HZ := Lib.hid hz
  have hLn := h.1
  have HLN := Lib.hid hLn
  clear h hz hLn
  obtain ⟨i0, hi, hzz⟩ := Option.map_eq_some_iff.1 infoPairE
  simp only [Prod.mk.injEq] at hzz
  obtain ⟨hz0, hz1, hz2⟩ := hzz
  go_enter Try.func21, Try.ntmps21
  go_wp2_with fail
  refine (xnorm_any _ _ _ L _ HPL.out hn).mono ?_
  rintro e w2 ⟨v, rfl, ho, hb⟩
  obtain ⟨a2, c2, rfl, hp2⟩ := ho.pr
  have HP2 := Lib.hid hp2
  have HZ2 := Lib.hid (HZ.out.below hb)
  have HBw := Lib.hid hb
  have hsw := hb.size
  have hNl : (normR L).length ≤ n := by have := normR_len L L.length (Nat.le_refl _); rw [List.take_length] at this; have := HLN.out; omega
  obtain ⟨N, hN⟩ : ∃ N, normR L = N := ⟨_, rfl⟩
  have HNN := Lib.hid hN
  rw [hN] at HP2 hNl ⊢
  obtain ⟨q, hq⟩ : ∃ q, N.length = q := ⟨_, rfl⟩
  have HQ := Lib.hid hq
  rw [hq] at HP2 hNl ⊢
  have b5 := HP2.out.2.1
  have b6 := HP2.out.2.2.1
  unfold maxLen at b6
  clear ho hp2 hb hN hq
  go_wp2_with fail
  go_loopw [6, 7] (fun out i wr => ∃ (j : Nat) (l : List (Int × Int)), j ≤ q ∧ i = .int .i64 j ∧ cfl (N.take j) ids = l ∧ Op2 w2.heap.size 47 wr out l ∧ Below w2.heap.size w2 wr) (fun _ i _ => q - (intOf i).toNat)
  case atStart => exact ⟨0, [], Nat.zero_le _, rfl, rfl, Op2.start _ w2 (Nat.le_refl _), bel1 _ _⟩
  case round =>
    obtain ⟨j, l, hj, rfl, hl, hop, hbel⟩ := hrel
    have HLL := Lib.hid hl
    have HOP := Lib.hid hop
    have HB2 := Lib.hid hbel
    have hs2 := hbel.size
    have hll : l.length ≤ j := by rw [← hl]; exact Nat.le_trans (cfl_len _ _) (by rw [List.length_take]; omega)
    clear hl hop
    by_cases hjq : j < q
    · obtain ⟨b, off, rfl, hc⟩ := (HP2.out.below hbel).2.2.2 (by omega)
      have hjN : j < N.length := by have := HQ.out; omega
      obtain ⟨g0, g1⟩ := hc j hjq
      rw [getD_lt hjN] at g0 g1
      obtain ⟨x, y, exy⟩ : ∃ x y, N[j] = (x, y) := ⟨_, _, rfl⟩
      rw [exy] at g0 g1
      simp only at g0 g1
      have HST := Lib.hid (cfl_snoc (ids := ids) hjN exy)
      have HZ3 := Lib.hid (HZ2.out.below hbel)
      have hix0 : (0 : Int) ≤ (j : Int) := by omega
      have hix1 : (j : Int) < (q : Int) := by omega
      obtain ⟨fx, hfx⟩ : ∃ c, inL ids x = c := ⟨_, rfl⟩
      obtain ⟨fy, hfy⟩ : ∃ c, inL ids y = c := ⟨_, rfl⟩
      have HFX := Lib.hid hfx
      have HFY := Lib.hid hfy
      rw [hfx, hfy, HLL.out] at HST
      clear hc exy hfx hfy hbel
      go_wp2_with fail
      refine (has_any _ _ _ ids x _ HZ3.out fx HFX.out).mono ?_
      rintro e wn ⟨rfl, rfl⟩
      cases fx
      · go_wp2_with fail
        go_roundw
        case rel => exact ⟨j + 1, l, by omega, by go_num, by rw [HST.out]; rfl, HOP.out, HB2.out⟩
        case measure => simp [intOf]; omega
      · go_wp2_with fail
        refine (has_any _ _ _ ids y _ HZ3.out fy HFY.out).mono ?_
        rintro e wn ⟨rfl, rfl⟩
        cases fy
        · go_wp2_with fail
          go_roundw
          case rel => exact ⟨j + 1, l, by omega, by go_num, by rw [HST.out]; rfl, HOP.out, HB2.out⟩
          case measure => simp [intOf]; omega
        · go_wp2_with (at_builtin; refine wpList_append_own_at _ rfl (.tmp 33) (.tmp 38) 22 rfl w2.heap.size 47 i0 (.agg #[.int .i64 0, .int .i64 0]) 2 16 pairUnder hi hz0 hz1 hz2 rfl (by decide) _ l.length (l.flatMap enc2) rfl (World.ownsRow.alloc HOP.out _) ⟨wn.heap.size, 0, none⟩ 1 1 [.int .i64 x, .int .i64 y] (by first | rfl | simp) rfl (cell_twoP _ _ (by simp) _ _ _) (by intro u hu; rcases List.mem_cons.1 hu with rfl | hu; (· rfl); (· rcases List.mem_cons.1 hu with rfl | hu; (· rfl); (· cases hu))) (by unfold maxLen; omega) (by omega) (by first | omega | (simp; omega)) ?_; intro v2 w9 hm9 hg9 _ hat9; have HO9 := Lib.hid (Op2.push hm9); have HB9 := Lib.hid ((HB2.out.alloc hs2 _).grown hg9 (by simp; omega) (fun j hj => (HOP.out.lt j hj).1)); clear hm9 hg9 hat9)
          go_roundw
          case rel => exact ⟨j + 1, l ++ [(x, y)], by omega, by go_num, by rw [HST.out]; rfl, HO9.out, HB9.out⟩
          case measure => simp [intOf]; omega
    · obtain rfl : j = q := by omega
      have HE := Lib.hid (show cfl (normR L) ids = l by rw [HNN.out, ← HLL.out, List.take_of_length_le (by rw [HQ.out]; exact Nat.le_refl _)])
      clear hbel
      go_wp2_with fail
      go_ret
      exact ⟨_, rfl, ⟨w2.heap.size, hsw, by rw [HE.out]; exact HOP.out⟩, HBw.out.trans (HB2.out.mono hsw)⟩

end Go.Proofs.Ytonnbcongnkcdaa
