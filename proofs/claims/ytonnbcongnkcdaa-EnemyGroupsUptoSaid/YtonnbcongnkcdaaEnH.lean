/- Contract of enemy.Conflicts: the pairs of the relation both of whose items occur. Conditions: lists of at most 2^43 - 2 elements. -/
import Derived.Test.YtonnbcongnkcdaaEnG
import Derived.Test.YtonnbcongnkcdaaMpA
namespace Go.Proofs.Ytonnbcongnkcdaa
open Go.RowKit

theorem mtB : MT Try.prog 60 3 4 .bool (.bool false) := ⟨by kernel_rfl, by kernel_rfl, by kernel_rfl, fun _ => by kernel_rfl⟩
/-- the number occurs in the list -/
def inL (ids : List Int) (x : Int) : Bool := ids.any fun y => y == x
theorem inL_up {ids : List Int} {k : Nat} {x : Int} (h : k < ids.length) (hx : ids[k] = x) : ∀ y, upB (inL (ids.take k)) x true y = inL (ids.take (k + 1)) y := by
  intro y
  unfold upB inL
  rw [take_snoc h, List.any_append, hx]
  by_cases e : y = x
  · subst e; simp
  · have : (x == y) = false := by simp; exact fun h => e h.symm
    simp [e, this]
/-- the pairs both of whose items occur in ids -/
def cfl (N : List (Int × Int)) (ids : List Int) : List (Int × Int) := N.filter fun p => inL ids p.1 && inL ids p.2
theorem cfl_snoc {N : List (Int × Int)} {ids : List Int} {k : Nat} {x y : Int} (h : k < N.length) (e : N[k] = (x, y)) : cfl (N.take (k + 1)) ids = if (inL ids x && inL ids y) = true then cfl (N.take k) ids ++ [(x, y)] else cfl (N.take k) ids := by
  unfold cfl
  rw [take_snoc h, List.filter_append, e]
  by_cases c : (inL ids x && inL ids y) = true
  · rw [if_pos c]; simp [c]
  · rw [if_neg c]; simp [c]
theorem cfl_len (N : List (Int × Int)) (ids : List Int) : (cfl N ids).length ≤ N.length := List.length_filter_le _ _
theorem normR_64 {L : List (Int × Int)} (h : ∀ p ∈ L, W64 p.1 ∧ W64 p.2) : ∀ p ∈ normR L, W64 p.1 ∧ W64 p.2 := by
  intro p hp
  obtain ⟨q, hq, _, e⟩ := ((normR_is L).2 p).1 hp
  have h1 := h q hq
  rw [← e]
  unfold ordP W64 at *
  simp only
  omega

set_option maxRecDepth 20000 in
set_option maxHeartbeats 8000000 in
theorem conflicts_any (a : Option Addr) (n cap : Nat) (L : List (Int × Int)) (ia : Option Addr) (m ic : Nat) (ids : List Int) (w : World) (h : Pr w a n cap L) (hL64 : ∀ p ∈ L, W64 p.1 ∧ W64 p.2) (hz : Zl w ia m ic ids) (h64 : ∀ y ∈ ids, W64 y) (hn : n ≤ 8796093022206) (hm : m ≤ 8796093022206) :
    Calls Try.prog 20 #[.slice a n cap, .slice ia m ic] w fun e w' => ∃ v, e = .returned v ∧ PnO w.heap.size (cfl (normR L) ids) v w' ∧ Below w.heap.size w w' := by
  have HPL := Lib.hid h
  have HZ := Lib.hid hz
  have b1 := hz.2.1
  have b2 := hz.2.2.1
  have b0 := hz.1
  unfold maxLen at b2
  have HZN := Lib.hid b0
  have hLn := h.1
  have HLN := Lib.hid hLn
  clear h hz b0 hLn
  have hmm := @run_makeMap Try.prog
  obtain ⟨i0, hi, hzz⟩ := Option.map_eq_some_iff.1 infoPairE
  simp only [Prod.mk.injEq] at hzz
  obtain ⟨hz0, hz1, hz2⟩ := hzz
  go_enter Try.func20, Try.ntmps20
  go_wp2_with fail
  go_loopw [7, 14] (fun _ i wr => ∃ k : Nat, k ≤ m ∧ i = .int .i64 k ∧ Mb Try.prog 3 4 wr w.heap.size k (inL (ids.take k)) ∧ Below w.heap.size w wr) (fun _ i _ => m - (intOf i).toNat)
  case atStart => exact ⟨0, Nat.zero_le _, rfl, Mb.made w, bel1 _ _⟩
  case round =>
    obtain ⟨k, hk, rfl, hm1, hbel⟩ := hrel
    have HM := Lib.hid hm1
    have HB := Lib.hid hbel
    have hs0 := hbel.size
    clear hm1
    by_cases hkm : k < m
    · obtain ⟨b, off, rfl, hc⟩ := (HZ.out.below hbel).2.2.2 (by omega)
      have hkL : k < ids.length := by have := HZN.out; omega
      have g0 := hc k hkm
      rw [getD_lt1 hkL] at g0
      obtain ⟨x, hx⟩ : ∃ x, ids[k] = x := ⟨_, rfl⟩
      rw [hx] at g0
      have HX := Lib.hid hx
      have HX64 := Lib.hid (show W64 x by rw [← hx]; exact h64 _ (List.getElem_mem hkL))
      clear hc hx hbel
      have hkx : k < maxLen := by unfold maxLen; omega
      have hix0 : (0 : Int) ≤ (k : Int) := by omega
      have hix1 : (k : Int) < (m : Int) := by omega
      go_wp2_with (at_mapUpdate; refine wp_put_b _ rfl _ _ _ rfl mtB w.heap.size _ _ rfl HM.out hkx x true rfl HX64.out rfl ?_; intro w2 hm2 hg2; have HM2 := Lib.hid hm2; have HB2 := Lib.hid (HB.out.grown hg2 hs0 (fun j hj => by cases hj; exact Nat.le_refl _)); clear hm2 hg2)
      go_roundw
      case rel => exact ⟨k + 1, by omega, by go_num, HM2.out.congr (Nat.le_refl _) (fun y _ => inL_up hkL HX.out y), HB2.out⟩
      case measure => simp [intOf]; omega
    · obtain rfl : k = m := by omega
      have HM1 := Lib.hid (HM.out.congr (Nat.le_refl _) (g := inL ids) (fun y _ => by rw [List.take_of_length_le (by rw [HZN.out]; exact Nat.le_refl _)]))
      have HPL1 := Lib.hid (HPL.out.below hbel)
      clear hbel HM
      go_wp2_with fail
      refine (norm_any _ _ _ L _ HPL1.out hn).mono ?_
      rintro e w2 ⟨v, rfl, ho, hb⟩
      obtain ⟨a2, c2, rfl, hp2⟩ := ho.pr
      have HP2 := Lib.hid hp2
      have HM2 := Lib.hid (HM1.out.below hb)
      have HBw := Lib.hid (HB.out.trans (hb.mono hs0))
      have hsw := HBw.out.size
      have hbm : w.heap.size < w2.heap.size := HM2.out.lt
      have H64 := Lib.hid (normR_64 hL64)
      have hNl : (normR L).length ≤ n := by have := normR_len L L.length (Nat.le_refl _); rw [List.take_length] at this; have := HLN.out; omega
      obtain ⟨N, hN⟩ : ∃ N, normR L = N := ⟨_, rfl⟩
      have HNN := Lib.hid hN
      rw [hN] at HP2 H64 hNl ⊢
      obtain ⟨q, hq⟩ : ∃ q, N.length = q := ⟨_, rfl⟩
      have HQ := Lib.hid hq
      rw [hq] at HP2 hNl ⊢
      have b5 := HP2.out.2.1
      have b6 := HP2.out.2.2.1
      unfold maxLen at b6
      clear ho hp2 hb hN hq
      go_wp2_with fail
      go_loopw [8, 10, 24] (fun out _ i wr => ∃ (j : Nat) (l : List (Int × Int)), j ≤ q ∧ i = .int .i64 j ∧ cfl (N.take j) ids = l ∧ Op2 w2.heap.size 47 wr out l ∧ Below w2.heap.size w2 wr) (fun _ _ i _ => q - (intOf i).toNat)
      case atStart => exact ⟨0, [], Nat.zero_le _, rfl, rfl, Op2.nil _ _ _, Below.refl _ _⟩
      case round =>
        obtain ⟨j, l, hj, rfl, hl, hop, hbel⟩ := hrel
        have HLL := Lib.hid hl
        have HOP := Lib.hid hop
        have HB2 := Lib.hid hbel
        have hs2 := hbel.size
        have hll : l.length ≤ j := by rw [← hl]; exact Nat.le_trans (cfl_len _ _) (by rw [List.length_take]; omega)
        clear hl hop
        by_cases hjq : j < q
        · obtain ⟨b, off, rfl, hc⟩ := (HP2.out.below hbel).2.2.2 (by omega)
          have hjN : j < N.length := by have := HQ.out; omega
          obtain ⟨g0, g1⟩ := hc j hjq
          rw [getD_lt hjN] at g0 g1
          obtain ⟨x, y, exy⟩ : ∃ x y, N[j] = (x, y) := ⟨_, _, rfl⟩
          rw [exy] at g0 g1
          simp only at g0 g1
          have h6 := H64.out _ (List.getElem_mem hjN)
          rw [exy] at h6
          have HX6 := Lib.hid h6.1
          have HY6 := Lib.hid h6.2
          have HST := Lib.hid (cfl_snoc (ids := ids) hjN exy)
          have HM3 := Lib.hid (HM2.out.below hbel)
          have hix0 : (0 : Int) ≤ (j : Int) := by omega
          have hix1 : (j : Int) < (q : Int) := by omega
          obtain ⟨fx, hfx⟩ : ∃ c, inL ids x = c := ⟨_, rfl⟩
          obtain ⟨fy, hfy⟩ : ∃ c, inL ids y = c := ⟨_, rfl⟩
          have HFX := Lib.hid hfx
          have HFY := Lib.hid hfy
          rw [hfx, hfy, HLL.out] at HST
          clear hc exy h6 hfx hfy hbel
          cases fx
          · go_wp2_with (first | (at_lookup; refine wp_look_b _ rfl _ _ rfl mtB w.heap.size _ _ rfl (HM3.out.below (bel1 _ _)) x false rfl HX6.out HFX.out ?_))
            go_roundw
            case rel => exact ⟨j + 1, l, by omega, by go_num, by rw [HST.out]; rfl, HOP.out.below (bel1 _ _), HB2.out.alloc hs2 _⟩
            case measure => simp [intOf]; omega
          · cases fy
            · have hly := (HM3.out.below (bel1 wr (.cells #[.int .i64 x, .int .i64 y] 47))).look mtB HY6.out HFY.out
              go_wp2_with (first | (at_lookup; refine wp_look_b _ rfl _ _ rfl mtB w.heap.size _ _ rfl (HM3.out.below (bel1 _ _)) x true rfl HX6.out HFX.out ?_))
              go_roundw
              case rel => exact ⟨j + 1, l, by omega, by go_num, by rw [HST.out]; rfl, HOP.out.below (bel1 _ _), HB2.out.alloc hs2 _⟩
              case measure => simp [intOf]; omega
            · have hly := (HM3.out.below (bel1 wr (.cells #[.int .i64 x, .int .i64 y] 47))).look mtB HY6.out HFY.out
              go_wp2_with (first | (at_lookup; refine wp_look_b _ rfl _ _ rfl mtB w.heap.size _ _ rfl (HM3.out.below (bel1 _ _)) x true rfl HX6.out HFX.out ?_) | (at_builtin; refine wpList_append_own_at _ rfl (.tmp 38) (.tmp 40) 22 rfl w2.heap.size 47 i0 (.agg #[.int .i64 0, .int .i64 0]) 2 16 pairUnder hi hz0 hz1 hz2 rfl (by decide) _ l.length (l.flatMap enc2) rfl (World.ownsRow.alloc (World.ownsRow.alloc HOP.out _) _) ⟨wr.heap.size + 1, 0, none⟩ 1 1 [.int .i64 x, .int .i64 y] (by first | rfl | simp) rfl (cell_twoP _ _ (by simp) _ _ _) (by intro u hu; rcases List.mem_cons.1 hu with rfl | hu; (· rfl); (· rcases List.mem_cons.1 hu with rfl | hu; (· rfl); (· cases hu))) (by unfold maxLen; omega) (by omega) (by first | omega | (simp; omega)) ?_; intro v2 w9 hm9 hg9 _ hat9; have HO9 := Lib.hid (Op2.push hm9); have HB9 := Lib.hid (((HB2.out.alloc hs2 _).alloc (by simp; omega) _).grown hg9 (by simp; omega) (fun j hj => (HOP.out.lt j hj).1)); clear hm9 hg9 hat9))
              go_roundw
              case rel => exact ⟨j + 1, l ++ [(x, y)], by omega, by go_num, by rw [HST.out]; rfl, HO9.out, HB9.out⟩
              case measure => simp [intOf]; omega
        · obtain rfl : j = q := by omega
          have HE := Lib.hid (show cfl (normR L) ids = l by rw [HNN.out, ← HLL.out, List.take_of_length_le (by rw [HQ.out]; exact Nat.le_refl _)])
          clear hbel
          go_wp2_with fail
          go_ret
          exact ⟨_, rfl, ⟨w2.heap.size, hsw, by rw [HE.out]; exact HOP.out⟩, HBw.out.trans (HB2.out.mono hsw)⟩

end Go.Proofs.Ytonnbcongnkcdaa
