/- Contract of the reference's Remove. Condition: a list of at most 2^43 - 2 elements. -/
import Derived.Test.YtonnbcongnkcdaaEnK
namespace Go.Proofs.Ytonnbcongnkcdaa
open Go.RowKit

/-- the relation without a pair -/
def remF (N : List (Int × Int)) (g : Int × Int) : List (Int × Int) := N.filter fun p => decide (p ≠ g)
theorem remF_snoc {N : List (Int × Int)} {g : Int × Int} {k : Nat} (h : k < N.length) : remF (N.take (k + 1)) g = if N[k] = g then remF (N.take k) g else remF (N.take k) g ++ [N[k]] := by
  unfold remF
  rw [take_snoc h, List.filter_append]
  by_cases e : N[k] = g
  · rw [if_pos e]; simp [e]
  · rw [if_neg e]; simp [e]
theorem remF_len (N : List (Int × Int)) (g : Int × Int) : (remF N g).length ≤ N.length := List.length_filter_le _ _
def RemP (w : World) (L : List (Int × Int)) (x y : Int) (e : Ending) (w' : World) : Prop := ∃ (c : Nat) (v : Value), (if areP L x y = true then 0 else 6) = c ∧ e = .returned (.tuple #[v, .int .i64 c]) ∧ (c = 0 → PnO w.heap.size (remF (normR L) (ordP x y)) v w') ∧ (c ≠ 0 → v = .slice none 0 0) ∧ Below w.heap.size w w'
def RemJtrue (b off j q c2 : Nat) (x y s t u v : Int) (W : World) (z0 : Act) (L : Nat → Bool) (z1 : Act) (w : World) : Prop :=
  ∃ u25 u26 u27 u28 u29 u30 u31 u32, z1 = ((((((((z0.put (some 25) u25).put (some 26) u26).put (some 27) u27).put (some 28) u28).put (some 29) u29).put (some 30) u30).put (some 31) u31).put (some 32) u32) ∧ Since W w ∧ (L 0 = true → u25 = .slice (some ⟨b, off, none⟩) q c2) ∧ (L 1 = true → u26 = .int .i64 (j : Nat)) ∧ (L 2 = true → u27 = .pointer (some ⟨b, off + j * 2, none⟩)) ∧ (L 3 = true → u28 = .agg #[.int .i64 s, .int .i64 t]) ∧ (L 4 = true → u29 = .int .i64 x) ∧ (L 5 = true → u30 = .int .i64 y) ∧ (L 6 = true → u31 = .agg #[.int .i64 u, .int .i64 v]) ∧ (L 7 = true → u32 = .bool true)

def RemJfalse (b off j q c2 : Nat) (x y s t u v : Int) (W : World) (z0 : Act) (L : Nat → Bool) (z1 : Act) (w : World) : Prop :=
  ∃ u25 u26 u27 u28 u29 u30 u31 u32, z1 = ((((((((z0.put (some 25) u25).put (some 26) u26).put (some 27) u27).put (some 28) u28).put (some 29) u29).put (some 30) u30).put (some 31) u31).put (some 32) u32) ∧ Since W w ∧ (L 0 = true → u25 = .slice (some ⟨b, off, none⟩) q c2) ∧ (L 1 = true → u26 = .int .i64 (j : Nat)) ∧ (L 2 = true → u27 = .pointer (some ⟨b, off + j * 2, none⟩)) ∧ (L 3 = true → u28 = .agg #[.int .i64 s, .int .i64 t]) ∧ (L 4 = true → u29 = .int .i64 x) ∧ (L 5 = true → u30 = .int .i64 y) ∧ (L 6 = true → u31 = .agg #[.int .i64 u, .int .i64 v]) ∧ (L 7 = true → u32 = .bool false)


set_option maxRecDepth 20000 in
set_option maxHeartbeats 4000000 in
theorem xremove_any (a : Option Addr) (n cap : Nat) (L : List (Int × Int)) (x y : Int) (w : World) (h : Pr w a n cap L) (hn : n ≤ 8796093022206) :
    Calls Try.prog 17 #[.slice a n cap, .int .i64 x, .int .i64 y] w (RemP w L x y) := by
  have HPL := Lib.hid h
  have hLn := h.1
  have HLN := Lib.hid hLn
  clear h hLn
  obtain ⟨i0, hi, hzz⟩ := Option.map_eq_some_iff.1 infoPairE
  simp only [Prod.mk.injEq] at hzz
  obtain ⟨hz0, hz1, hz2⟩ := hzz
  obtain ⟨cA, hcA⟩ : ∃ c, areP L x y = c := ⟨_, rfl⟩
  have HCA := Lib.hid hcA
  clear hcA
  go_enter Try.func17, Try.ntmps17
  go_wp2_with fail
  refine (xare_any _ _ _ L x y _ HPL.out cA HCA.out).mono ?_
  rintro e w1 ⟨rfl, hb⟩
  have HB := Lib.hid hb
  have hs1 := hb.size
  clear hb
  cases cA
  · go_wp2_with fail
    go_ret2
    unfold RemP
    refine ⟨6, _, (show (if areP L x y = true then 0 else 6) = 6 from ?_), rfl, fun h => absurd h (by decide), fun _ => rfl, HB.out⟩
    rw [HCA.out]; rfl
  · go_wp2_with fail
    refine (xnorm_any _ _ _ L _ (HPL.out.below HB.out) hn).mono ?_
    rintro e w2 ⟨v, rfl, ho, hb⟩
    obtain ⟨a2, c2, rfl, hp2⟩ := ho.pr
    have HP2 := Lib.hid hp2
    have HB2 := Lib.hid (HB.out.trans (hb.mono hs1))
    have hs2 := HB2.out.size
    have hNl : (normR L).length ≤ n := by have := normR_len L L.length (Nat.le_refl _); rw [List.take_length] at this; have := HLN.out; omega
    obtain ⟨N, hN⟩ : ∃ N, normR L = N := ⟨_, rfl⟩
    have HN := Lib.hid hN
    rw [hN] at HP2 hNl ⊢
    obtain ⟨q, hq⟩ : ∃ q, N.length = q := ⟨_, rfl⟩
    have HQ := Lib.hid hq
    rw [hq] at HP2 hNl ⊢
    clear ho hp2 hb hN hq
    obtain ⟨u, v, huv⟩ : ∃ u v, ordP x y = (u, v) := ⟨_, _, rfl⟩
    have HUV := Lib.hid huv
    clear huv
    go_wp2_with fail
    go_loopw [9, 10] (fun out i wr => ∃ (j : Nat) (l : List (Int × Int)), j ≤ q ∧ i = .int .i64 j ∧ remF (N.take j) (u, v) = l ∧ Op2 w2.heap.size 47 wr out l ∧ Below w2.heap.size w2 wr) (fun _ i _ => q - (intOf i).toNat)
    case atStart => exact ⟨0, [], Nat.zero_le _, rfl, rfl, Op2.start _ w2 (Nat.le_refl _), bel1 _ _⟩
    case round =>
      obtain ⟨j, l, hj, rfl, hl, hop, hbel⟩ := hrel
      have HLL := Lib.hid hl
      have HOP := Lib.hid hop
      have HB3 := Lib.hid hbel
      have hs3 := hbel.size
      have hll : l.length ≤ j := by rw [← hl]; exact Nat.le_trans (remF_len _ _) (by rw [List.length_take]; omega)
      clear hl hop
      by_cases hjq : j < q
      · obtain ⟨b, off, rfl, hc⟩ := (HP2.out.below hbel).2.2.2 (by omega)
        have hjN : j < N.length := by have := HQ.out; omega
        obtain ⟨g0, g1⟩ := hc j hjq
        rw [getD_lt hjN] at g0 g1
        obtain ⟨s, t, exy⟩ : ∃ s t, N[j] = (s, t) := ⟨_, _, rfl⟩
        rw [exy] at g0 g1
        simp only at g0 g1
        have HST := Lib.hid (remF_snoc (g := (u, v)) hjN)
        rw [exy, HLL.out] at HST
        have hix0 : (0 : Int) ≤ (j : Int) := by omega
        have hix1 : (j : Int) < (q : Int) := by omega
        clear hc exy hbel
        go_wp2_with fail
        refine region_name fun W1 hW => ?_
        have HBw := Lib.hid (show Below wr.heap.size wr W1 by rw [← hW]; (repeat' (first | with_reducible exact Below.refl _ _ | (with_reducible refine Below.alloc ?_ ?_ _; rotate_left; (focus (first | omega | (simp; done) | (simp; omega)))) | with_reducible apply Below.drew | (with_reducible refine Below.setCell ?_ ?_ _; rotate_left; (focus (first | omega | (simp; done) | (simp; omega)))))))
        clear hW
        replace g0 := cell_mono g0 HBw.out
        replace g1 := cell_mono g1 HBw.out
        replace HOP := Lib.hid (HOP.out.below HBw.out)
        replace HB3 := Lib.hid (HB3.out.trans (HBw.out.mono hs3))
        replace hs3 := HB3.out.size
        by_cases e1 : s = u
        · subst e1
          by_cases e2 : t = v
          · subst e2
            refine region_inv2 (by kernel_rfl) (RemJfalse b off j q c2 x y s t s t (W1)) ?_ ?_ ?_ ?_
            · exact ⟨u25, u26, u27, u28, u29, u30, u31, u32, by simp only [Act.put, List.setIfInBounds_toArray, List.set_cons_zero, List.set_cons_succ], Since.drawn _, (fun h => by cases h), (fun h => by cases h), (fun h => by cases h), (fun h => by cases h), (fun h => by cases h), (fun h => by cases h), (fun h => by cases h), (fun h => by cases h)⟩
            · exact acyc_spec (by kernel_rfl)
            · intro Ls a0 wq i o ho hLi hafter hJ
              obtain ⟨u25, u26, u27, u28, u29, u30, u31, u32, rfl, hS, p0, p1, p2, p3, p4, p5, p6, p7⟩ := hJ
              have hi : i < 8 := (Array.getElem?_eq_some_iff.1 ho).1
              obtain rfl | rfl | rfl | rfl | rfl | rfl | rfl | rfl : i = 0 ∨ i = 1 ∨ i = 2 ∨ i = 3 ∨ i = 4 ∨ i = 5 ∨ i = 6 ∨ i = 7 := by omega
              · simp only [List.getElem?_toArray, List.getElem?_cons_zero, Option.some.injEq] at ho
                subst ho
                have P0 := Lib.hid p0
                have P1 := Lib.hid p1
                have P2 := Lib.hid p2
                have P3 := Lib.hid p3
                have P4 := Lib.hid p4
                have P5 := Lib.hid p5
                have P6 := Lib.hid p6
                have P7 := Lib.hid p7
                have HS := Lib.hid hS
                clear hS hLi hafter p0 p1 p2 p3 p4 p5 p6 p7
                simp only [Act.put, List.setIfInBounds_toArray, List.set_cons_zero, List.set_cons_succ]
                go_wp2_with fail
                exact ⟨.slice (some ⟨b, off, none⟩) q c2, u26, u27, u28, u29, u30, u31, u32, by simp only [Act.put, List.setIfInBounds_toArray, List.set_cons_zero, List.set_cons_succ], HS.out, (fun _ => rfl), (fun h => by first | rfl | exact P1.out (by simpa using h)), (fun h => by first | rfl | exact P2.out (by simpa using h)), (fun h => by first | rfl | exact P3.out (by simpa using h)), (fun h => by first | rfl | exact P4.out (by simpa using h)), (fun h => by first | rfl | exact P5.out (by simpa using h)), (fun h => by first | rfl | exact P6.out (by simpa using h)), (fun h => by first | rfl | exact P7.out (by simpa using h))⟩
              · simp only [List.getElem?_toArray, List.getElem?_cons_zero, List.getElem?_cons_succ, Option.some.injEq] at ho
                subst ho
                have P0 := Lib.hid p0
                have P1 := Lib.hid p1
                have P2 := Lib.hid p2
                have P3 := Lib.hid p3
                have P4 := Lib.hid p4
                have P5 := Lib.hid p5
                have P6 := Lib.hid p6
                have P7 := Lib.hid p7
                have HS := Lib.hid hS
                clear hS hLi hafter p0 p1 p2 p3 p4 p5 p6 p7
                simp only [Act.put, List.setIfInBounds_toArray, List.set_cons_zero, List.set_cons_succ]
                go_wp2_with fail
                exact ⟨u25, .int .i64 (j : Nat), u27, u28, u29, u30, u31, u32, by simp only [Act.put, List.setIfInBounds_toArray, List.set_cons_zero, List.set_cons_succ], HS.out, (fun h => by first | rfl | exact P0.out (by simpa using h)), (fun _ => rfl), (fun h => by first | rfl | exact P2.out (by simpa using h)), (fun h => by first | rfl | exact P3.out (by simpa using h)), (fun h => by first | rfl | exact P4.out (by simpa using h)), (fun h => by first | rfl | exact P5.out (by simpa using h)), (fun h => by first | rfl | exact P6.out (by simpa using h)), (fun h => by first | rfl | exact P7.out (by simpa using h))⟩
              · simp only [List.getElem?_toArray, List.getElem?_cons_zero, List.getElem?_cons_succ, Option.some.injEq] at ho
                subst ho
                obtain rfl := p0 (hafter ⟨0, .data⟩ (by simp) rfl)
                obtain rfl := p1 (hafter ⟨1, .data⟩ (by simp) rfl)
                have P0 := Lib.hid p0
                have P1 := Lib.hid p1
                have P2 := Lib.hid p2
                have P3 := Lib.hid p3
                have P4 := Lib.hid p4
                have P5 := Lib.hid p5
                have P6 := Lib.hid p6
                have P7 := Lib.hid p7
                have HS := Lib.hid hS
                clear hS hLi hafter p0 p1 p2 p3 p4 p5 p6 p7
                simp only [Act.put, List.setIfInBounds_toArray, List.set_cons_zero, List.set_cons_succ]
                go_wp2_with fail
                exact ⟨.slice (some ⟨b, off, none⟩) q c2, .int .i64 (j : Nat), .pointer (some ⟨b, off + j * 2, none⟩), u28, u29, u30, u31, u32, by simp only [Act.put, List.setIfInBounds_toArray, List.set_cons_zero, List.set_cons_succ], HS.out, (fun h => by first | rfl | exact P0.out (by simpa using h)), (fun h => by first | rfl | exact P1.out (by simpa using h)), (fun _ => rfl), (fun h => by first | rfl | exact P3.out (by simpa using h)), (fun h => by first | rfl | exact P4.out (by simpa using h)), (fun h => by first | rfl | exact P5.out (by simpa using h)), (fun h => by first | rfl | exact P6.out (by simpa using h)), (fun h => by first | rfl | exact P7.out (by simpa using h))⟩
              · simp only [List.getElem?_toArray, List.getElem?_cons_zero, List.getElem?_cons_succ, Option.some.injEq] at ho
                subst ho
                obtain rfl := p2 (hafter ⟨2, .data⟩ (by simp) rfl)
                have c0 := cell_mono g0 hS.1
                have c1 := cell_mono g1 hS.1
                have P0 := Lib.hid p0
                have P1 := Lib.hid p1
                have P2 := Lib.hid p2
                have P3 := Lib.hid p3
                have P4 := Lib.hid p4
                have P5 := Lib.hid p5
                have P6 := Lib.hid p6
                have P7 := Lib.hid p7
                have HS := Lib.hid hS
                clear hS hLi hafter p0 p1 p2 p3 p4 p5 p6 p7
                simp only [Act.put, List.setIfInBounds_toArray, List.set_cons_zero, List.set_cons_succ]
                go_wp2_with fail
                exact ⟨u25, u26, .pointer (some ⟨b, off + j * 2, none⟩), .agg #[.int .i64 s, .int .i64 t], u29, u30, u31, u32, by simp only [Act.put, List.setIfInBounds_toArray, List.set_cons_zero, List.set_cons_succ], HS.out, (fun h => by first | rfl | exact P0.out (by simpa using h)), (fun h => by first | rfl | exact P1.out (by simpa using h)), (fun h => by first | rfl | exact P2.out (by simpa using h)), (fun _ => rfl), (fun h => by first | rfl | exact P4.out (by simpa using h)), (fun h => by first | rfl | exact P5.out (by simpa using h)), (fun h => by first | rfl | exact P6.out (by simpa using h)), (fun h => by first | rfl | exact P7.out (by simpa using h))⟩
              · simp only [List.getElem?_toArray, List.getElem?_cons_zero, List.getElem?_cons_succ, Option.some.injEq] at ho
                subst ho
                have P0 := Lib.hid p0
                have P1 := Lib.hid p1
                have P2 := Lib.hid p2
                have P3 := Lib.hid p3
                have P4 := Lib.hid p4
                have P5 := Lib.hid p5
                have P6 := Lib.hid p6
                have P7 := Lib.hid p7
                have HS := Lib.hid hS
                clear hS hLi hafter p0 p1 p2 p3 p4 p5 p6 p7
                simp only [Act.put, List.setIfInBounds_toArray, List.set_cons_zero, List.set_cons_succ]
                go_wp2_with fail
                exact ⟨u25, u26, u27, u28, .int .i64 x, u30, u31, u32, by simp only [Act.put, List.setIfInBounds_toArray, List.set_cons_zero, List.set_cons_succ], HS.out, (fun h => by first | rfl | exact P0.out (by simpa using h)), (fun h => by first | rfl | exact P1.out (by simpa using h)), (fun h => by first | rfl | exact P2.out (by simpa using h)), (fun h => by first | rfl | exact P3.out (by simpa using h)), (fun _ => rfl), (fun h => by first | rfl | exact P5.out (by simpa using h)), (fun h => by first | rfl | exact P6.out (by simpa using h)), (fun h => by first | rfl | exact P7.out (by simpa using h))⟩
              · simp only [List.getElem?_toArray, List.getElem?_cons_zero, List.getElem?_cons_succ, Option.some.injEq] at ho
                subst ho
                have P0 := Lib.hid p0
                have P1 := Lib.hid p1
                have P2 := Lib.hid p2
                have P3 := Lib.hid p3
                have P4 := Lib.hid p4
                have P5 := Lib.hid p5
                have P6 := Lib.hid p6
                have P7 := Lib.hid p7
                have HS := Lib.hid hS
                clear hS hLi hafter p0 p1 p2 p3 p4 p5 p6 p7
                simp only [Act.put, List.setIfInBounds_toArray, List.set_cons_zero, List.set_cons_succ]
                go_wp2_with fail
                exact ⟨u25, u26, u27, u28, u29, .int .i64 y, u31, u32, by simp only [Act.put, List.setIfInBounds_toArray, List.set_cons_zero, List.set_cons_succ], HS.out, (fun h => by first | rfl | exact P0.out (by simpa using h)), (fun h => by first | rfl | exact P1.out (by simpa using h)), (fun h => by first | rfl | exact P2.out (by simpa using h)), (fun h => by first | rfl | exact P3.out (by simpa using h)), (fun h => by first | rfl | exact P4.out (by simpa using h)), (fun _ => rfl), (fun h => by first | rfl | exact P6.out (by simpa using h)), (fun h => by first | rfl | exact P7.out (by simpa using h))⟩
              · simp only [List.getElem?_toArray, List.getElem?_cons_zero, List.getElem?_cons_succ, Option.some.injEq] at ho
                subst ho
                obtain rfl := p4 (hafter ⟨4, .data⟩ (by simp) rfl)
                obtain rfl := p5 (hafter ⟨5, .data⟩ (by simp) rfl)
                have P0 := Lib.hid p0
                have P1 := Lib.hid p1
                have P2 := Lib.hid p2
                have P3 := Lib.hid p3
                have P4 := Lib.hid p4
                have P5 := Lib.hid p5
                have P6 := Lib.hid p6
                have P7 := Lib.hid p7
                have HS := Lib.hid hS
                clear hS hLi hafter p0 p1 p2 p3 p4 p5 p6 p7
                simp only [Act.put, List.setIfInBounds_toArray, List.set_cons_zero, List.set_cons_succ]
                go_wp2_with fail
                refine (xord_any x y _ _ _ HUV.out).mono ?_
                rintro e wn ⟨rfl, hb⟩
                have Hb := Lib.hid hb
                clear hb
                go_wp2_with fail
                exact ⟨u25, u26, u27, u28, .int .i64 x, .int .i64 y, .agg #[.int .i64 s, .int .i64 t], u32, by simp only [Act.put, List.setIfInBounds_toArray, List.set_cons_zero, List.set_cons_succ], HS.out.below Hb.out, (fun h => by first | rfl | exact P0.out (by simpa using h)), (fun h => by first | rfl | exact P1.out (by simpa using h)), (fun h => by first | rfl | exact P2.out (by simpa using h)), (fun h => by first | rfl | exact P3.out (by simpa using h)), (fun h => by first | rfl | exact P4.out (by simpa using h)), (fun h => by first | rfl | exact P5.out (by simpa using h)), (fun _ => rfl), (fun h => by first | rfl | exact P7.out (by simpa using h))⟩
              · simp only [List.getElem?_toArray, List.getElem?_cons_zero, List.getElem?_cons_succ, Option.some.injEq] at ho
                subst ho
                obtain rfl := p3 (hafter ⟨3, .data⟩ (by simp) rfl)
                obtain rfl := p6 (hafter ⟨6, .data⟩ (by simp) rfl)
                have P0 := Lib.hid p0
                have P1 := Lib.hid p1
                have P2 := Lib.hid p2
                have P3 := Lib.hid p3
                have P4 := Lib.hid p4
                have P5 := Lib.hid p5
                have P6 := Lib.hid p6
                have P7 := Lib.hid p7
                have HS := Lib.hid hS
                clear hS hLi hafter p0 p1 p2 p3 p4 p5 p6 p7
                simp only [Act.put, List.setIfInBounds_toArray, List.set_cons_zero, List.set_cons_succ]
                go_wp2_with fail
                exact ⟨u25, u26, u27, .agg #[.int .i64 s, .int .i64 t], u29, u30, .agg #[.int .i64 s, .int .i64 t], .bool false, by simp only [Act.put, List.setIfInBounds_toArray, List.set_cons_zero, List.set_cons_succ], HS.out, (fun h => by first | rfl | exact P0.out (by simpa using h)), (fun h => by first | rfl | exact P1.out (by simpa using h)), (fun h => by first | rfl | exact P2.out (by simpa using h)), (fun h => by first | rfl | exact P3.out (by simpa using h)), (fun h => by first | rfl | exact P4.out (by simpa using h)), (fun h => by first | rfl | exact P5.out (by simpa using h)), (fun h => by first | rfl | exact P6.out (by simpa using h)), (fun _ => rfl)⟩
            · intro Ls a0 wq hall hJ
              obtain ⟨u25, u26, u27, u28, u29, u30, u31, u32, rfl, hS, p0, p1, p2, p3, p4, p5, p6, p7⟩ := hJ
              replace p0 := p0 (hall 0 (by decide))
              replace p1 := p1 (hall 1 (by decide))
              replace p2 := p2 (hall 2 (by decide))
              replace p3 := p3 (hall 3 (by decide))
              replace p4 := p4 (hall 4 (by decide))
              replace p5 := p5 (hall 5 (by decide))
              replace p6 := p6 (hall 6 (by decide))
              replace p7 := p7 (hall 7 (by decide))
              have hb := hS.1
              subst p7
              clear hall hS p0 p1 p2 p3 p4 p5 p6
              have HBz := Lib.hid (HB3.out.trans (hb.mono hs3))
              have hsz := HBz.out.size
              have HOP2 := Lib.hid (HOP.out.below hb)
              replace g0 := cell_mono g0 hb
              replace g1 := cell_mono g1 hb
              clear hb
              simp only [Act.put, List.setIfInBounds_toArray, List.set_cons_zero, List.set_cons_succ]
              go_wp2_with fail
              go_roundw
              case rel => exact ⟨j + 1, l, by omega, by go_num, by rw [HST.out, if_pos rfl], HOP2.out, HBz.out⟩
              case measure => simp [intOf]; omega
          · have hb2 : (t == v) = false := by simpa using e2
            have hne := Lib.hid (show ¬ ((s, t) : Int × Int) = (s, v) from fun h => e2 (Prod.mk.inj h).2)
            clear e2
            refine region_inv2 (by kernel_rfl) (RemJtrue b off j q c2 x y s t s v (W1)) ?_ ?_ ?_ ?_
            · exact ⟨u25, u26, u27, u28, u29, u30, u31, u32, by simp only [Act.put, List.setIfInBounds_toArray, List.set_cons_zero, List.set_cons_succ], Since.drawn _, (fun h => by cases h), (fun h => by cases h), (fun h => by cases h), (fun h => by cases h), (fun h => by cases h), (fun h => by cases h), (fun h => by cases h), (fun h => by cases h)⟩
            · exact acyc_spec (by kernel_rfl)
            · intro Ls a0 wq i o ho hLi hafter hJ
              obtain ⟨u25, u26, u27, u28, u29, u30, u31, u32, rfl, hS, p0, p1, p2, p3, p4, p5, p6, p7⟩ := hJ
              have hi : i < 8 := (Array.getElem?_eq_some_iff.1 ho).1
              obtain rfl | rfl | rfl | rfl | rfl | rfl | rfl | rfl : i = 0 ∨ i = 1 ∨ i = 2 ∨ i = 3 ∨ i = 4 ∨ i = 5 ∨ i = 6 ∨ i = 7 := by omega
              · simp only [List.getElem?_toArray, List.getElem?_cons_zero, Option.some.injEq] at ho
                subst ho
                have P0 := Lib.hid p0
                have P1 := Lib.hid p1
                have P2 := Lib.hid p2
                have P3 := Lib.hid p3
                have P4 := Lib.hid p4
                have P5 := Lib.hid p5
                have P6 := Lib.hid p6
                have P7 := Lib.hid p7
                have HS := Lib.hid hS
                clear hS hLi hafter p0 p1 p2 p3 p4 p5 p6 p7
                simp only [Act.put, List.setIfInBounds_toArray, List.set_cons_zero, List.set_cons_succ]
                go_wp2_with fail
                exact ⟨.slice (some ⟨b, off, none⟩) q c2, u26, u27, u28, u29, u30, u31, u32, by simp only [Act.put, List.setIfInBounds_toArray, List.set_cons_zero, List.set_cons_succ], HS.out, (fun _ => rfl), (fun h => by first | rfl | exact P1.out (by simpa using h)), (fun h => by first | rfl | exact P2.out (by simpa using h)), (fun h => by first | rfl | exact P3.out (by simpa using h)), (fun h => by first | rfl | exact P4.out (by simpa using h)), (fun h => by first | rfl | exact P5.out (by simpa using h)), (fun h => by first | rfl | exact P6.out (by simpa using h)), (fun h => by first | rfl | exact P7.out (by simpa using h))⟩
              · simp only [List.getElem?_toArray, List.getElem?_cons_zero, List.getElem?_cons_succ, Option.some.injEq] at ho
                subst ho
                have P0 := Lib.hid p0
                have P1 := Lib.hid p1
                have P2 := Lib.hid p2
                have P3 := Lib.hid p3
                have P4 := Lib.hid p4
                have P5 := Lib.hid p5
                have P6 := Lib.hid p6
                have P7 := Lib.hid p7
                have HS := Lib.hid hS
                clear hS hLi hafter p0 p1 p2 p3 p4 p5 p6 p7
                simp only [Act.put, List.setIfInBounds_toArray, List.set_cons_zero, List.set_cons_succ]
                go_wp2_with fail
                exact ⟨u25, .int .i64 (j : Nat), u27, u28, u29, u30, u31, u32, by simp only [Act.put, List.setIfInBounds_toArray, List.set_cons_zero, List.set_cons_succ], HS.out, (fun h => by first | rfl | exact P0.out (by simpa using h)), (fun _ => rfl), (fun h => by first | rfl | exact P2.out (by simpa using h)), (fun h => by first | rfl | exact P3.out (by simpa using h)), (fun h => by first | rfl | exact P4.out (by simpa using h)), (fun h => by first | rfl | exact P5.out (by simpa using h)), (fun h => by first | rfl | exact P6.out (by simpa using h)), (fun h => by first | rfl | exact P7.out (by simpa using h))⟩
              · simp only [List.getElem?_toArray, List.getElem?_cons_zero, List.getElem?_cons_succ, Option.some.injEq] at ho
                subst ho
                obtain rfl := p0 (hafter ⟨0, .data⟩ (by simp) rfl)
                obtain rfl := p1 (hafter ⟨1, .data⟩ (by simp) rfl)
                have P0 := Lib.hid p0
                have P1 := Lib.hid p1
                have P2 := Lib.hid p2
                have P3 := Lib.hid p3
                have P4 := Lib.hid p4
                have P5 := Lib.hid p5
                have P6 := Lib.hid p6
                have P7 := Lib.hid p7
                have HS := Lib.hid hS
                clear hS hLi hafter p0 p1 p2 p3 p4 p5 p6 p7
                simp only [Act.put, List.setIfInBounds_toArray, List.set_cons_zero, List.set_cons_succ]
                go_wp2_with fail
                exact ⟨.slice (some ⟨b, off, none⟩) q c2, .int .i64 (j : Nat), .pointer (some ⟨b, off + j * 2, none⟩), u28, u29, u30, u31, u32, by simp only [Act.put, List.setIfInBounds_toArray, List.set_cons_zero, List.set_cons_succ], HS.out, (fun h => by first | rfl | exact P0.out (by simpa using h)), (fun h => by first | rfl | exact P1.out (by simpa using h)), (fun _ => rfl), (fun h => by first | rfl | exact P3.out (by simpa using h)), (fun h => by first | rfl | exact P4.out (by simpa using h)), (fun h => by first | rfl | exact P5.out (by simpa using h)), (fun h => by first | rfl | exact P6.out (by simpa using h)), (fun h => by first | rfl | exact P7.out (by simpa using h))⟩
              · simp only [List.getElem?_toArray, List.getElem?_cons_zero, List.getElem?_cons_succ, Option.some.injEq] at ho
                subst ho
                obtain rfl := p2 (hafter ⟨2, .data⟩ (by simp) rfl)
                have c0 := cell_mono g0 hS.1
                have c1 := cell_mono g1 hS.1
                have P0 := Lib.hid p0
                have P1 := Lib.hid p1
                have P2 := Lib.hid p2
                have P3 := Lib.hid p3
                have P4 := Lib.hid p4
                have P5 := Lib.hid p5
                have P6 := Lib.hid p6
                have P7 := Lib.hid p7
                have HS := Lib.hid hS
                clear hS hLi hafter p0 p1 p2 p3 p4 p5 p6 p7
                simp only [Act.put, List.setIfInBounds_toArray, List.set_cons_zero, List.set_cons_succ]
                go_wp2_with fail
                exact ⟨u25, u26, .pointer (some ⟨b, off + j * 2, none⟩), .agg #[.int .i64 s, .int .i64 t], u29, u30, u31, u32, by simp only [Act.put, List.setIfInBounds_toArray, List.set_cons_zero, List.set_cons_succ], HS.out, (fun h => by first | rfl | exact P0.out (by simpa using h)), (fun h => by first | rfl | exact P1.out (by simpa using h)), (fun h => by first | rfl | exact P2.out (by simpa using h)), (fun _ => rfl), (fun h => by first | rfl | exact P4.out (by simpa using h)), (fun h => by first | rfl | exact P5.out (by simpa using h)), (fun h => by first | rfl | exact P6.out (by simpa using h)), (fun h => by first | rfl | exact P7.out (by simpa using h))⟩
              · simp only [List.getElem?_toArray, List.getElem?_cons_zero, List.getElem?_cons_succ, Option.some.injEq] at ho
                subst ho
                have P0 := Lib.hid p0
                have P1 := Lib.hid p1
                have P2 := Lib.hid p2
                have P3 := Lib.hid p3
                have P4 := Lib.hid p4
                have P5 := Lib.hid p5
                have P6 := Lib.hid p6
                have P7 := Lib.hid p7
                have HS := Lib.hid hS
                clear hS hLi hafter p0 p1 p2 p3 p4 p5 p6 p7
                simp only [Act.put, List.setIfInBounds_toArray, List.set_cons_zero, List.set_cons_succ]
                go_wp2_with fail
                exact ⟨u25, u26, u27, u28, .int .i64 x, u30, u31, u32, by simp only [Act.put, List.setIfInBounds_toArray, List.set_cons_zero, List.set_cons_succ], HS.out, (fun h => by first | rfl | exact P0.out (by simpa using h)), (fun h => by first | rfl | exact P1.out (by simpa using h)), (fun h => by first | rfl | exact P2.out (by simpa using h)), (fun h => by first | rfl | exact P3.out (by simpa using h)), (fun _ => rfl), (fun h => by first | rfl | exact P5.out (by simpa using h)), (fun h => by first | rfl | exact P6.out (by simpa using h)), (fun h => by first | rfl | exact P7.out (by simpa using h))⟩
              · simp only [List.getElem?_toArray, List.getElem?_cons_zero, List.getElem?_cons_succ, Option.some.injEq] at ho
                subst ho
                have P0 := Lib.hid p0
                have P1 := Lib.hid p1
                have P2 := Lib.hid p2
                have P3 := Lib.hid p3
                have P4 := Lib.hid p4
                have P5 := Lib.hid p5
                have P6 := Lib.hid p6
                have P7 := Lib.hid p7
                have HS := Lib.hid hS
                clear hS hLi hafter p0 p1 p2 p3 p4 p5 p6 p7
                simp only [Act.put, List.setIfInBounds_toArray, List.set_cons_zero, List.set_cons_succ]
                go_wp2_with fail
                exact ⟨u25, u26, u27, u28, u29, .int .i64 y, u31, u32, by simp only [Act.put, List.setIfInBounds_toArray, List.set_cons_zero, List.set_cons_succ], HS.out, (fun h => by first | rfl | exact P0.out (by simpa using h)), (fun h => by first | rfl | exact P1.out (by simpa using h)), (fun h => by first | rfl | exact P2.out (by simpa using h)), (fun h => by first | rfl | exact P3.out (by simpa using h)), (fun h => by first | rfl | exact P4.out (by simpa using h)), (fun _ => rfl), (fun h => by first | rfl | exact P6.out (by simpa using h)), (fun h => by first | rfl | exact P7.out (by simpa using h))⟩
              · simp only [List.getElem?_toArray, List.getElem?_cons_zero, List.getElem?_cons_succ, Option.some.injEq] at ho
                subst ho
                obtain rfl := p4 (hafter ⟨4, .data⟩ (by simp) rfl)
                obtain rfl := p5 (hafter ⟨5, .data⟩ (by simp) rfl)
                have P0 := Lib.hid p0
                have P1 := Lib.hid p1
                have P2 := Lib.hid p2
                have P3 := Lib.hid p3
                have P4 := Lib.hid p4
                have P5 := Lib.hid p5
                have P6 := Lib.hid p6
                have P7 := Lib.hid p7
                have HS := Lib.hid hS
                clear hS hLi hafter p0 p1 p2 p3 p4 p5 p6 p7
                simp only [Act.put, List.setIfInBounds_toArray, List.set_cons_zero, List.set_cons_succ]
                go_wp2_with fail
                refine (xord_any x y _ _ _ HUV.out).mono ?_
                rintro e wn ⟨rfl, hb⟩
                have Hb := Lib.hid hb
                clear hb
                go_wp2_with fail
                exact ⟨u25, u26, u27, u28, .int .i64 x, .int .i64 y, .agg #[.int .i64 s, .int .i64 v], u32, by simp only [Act.put, List.setIfInBounds_toArray, List.set_cons_zero, List.set_cons_succ], HS.out.below Hb.out, (fun h => by first | rfl | exact P0.out (by simpa using h)), (fun h => by first | rfl | exact P1.out (by simpa using h)), (fun h => by first | rfl | exact P2.out (by simpa using h)), (fun h => by first | rfl | exact P3.out (by simpa using h)), (fun h => by first | rfl | exact P4.out (by simpa using h)), (fun h => by first | rfl | exact P5.out (by simpa using h)), (fun _ => rfl), (fun h => by first | rfl | exact P7.out (by simpa using h))⟩
              · simp only [List.getElem?_toArray, List.getElem?_cons_zero, List.getElem?_cons_succ, Option.some.injEq] at ho
                subst ho
                obtain rfl := p3 (hafter ⟨3, .data⟩ (by simp) rfl)
                obtain rfl := p6 (hafter ⟨6, .data⟩ (by simp) rfl)
                have P0 := Lib.hid p0
                have P1 := Lib.hid p1
                have P2 := Lib.hid p2
                have P3 := Lib.hid p3
                have P4 := Lib.hid p4
                have P5 := Lib.hid p5
                have P6 := Lib.hid p6
                have P7 := Lib.hid p7
                have HS := Lib.hid hS
                clear hS hLi hafter p0 p1 p2 p3 p4 p5 p6 p7
                simp only [Act.put, List.setIfInBounds_toArray, List.set_cons_zero, List.set_cons_succ]
                go_wp2_with fail
                exact ⟨u25, u26, u27, .agg #[.int .i64 s, .int .i64 t], u29, u30, .agg #[.int .i64 s, .int .i64 v], .bool true, by simp only [Act.put, List.setIfInBounds_toArray, List.set_cons_zero, List.set_cons_succ], HS.out, (fun h => by first | rfl | exact P0.out (by simpa using h)), (fun h => by first | rfl | exact P1.out (by simpa using h)), (fun h => by first | rfl | exact P2.out (by simpa using h)), (fun h => by first | rfl | exact P3.out (by simpa using h)), (fun h => by first | rfl | exact P4.out (by simpa using h)), (fun h => by first | rfl | exact P5.out (by simpa using h)), (fun h => by first | rfl | exact P6.out (by simpa using h)), (fun _ => rfl)⟩
            · intro Ls a0 wq hall hJ
              obtain ⟨u25, u26, u27, u28, u29, u30, u31, u32, rfl, hS, p0, p1, p2, p3, p4, p5, p6, p7⟩ := hJ
              replace p0 := p0 (hall 0 (by decide))
              replace p1 := p1 (hall 1 (by decide))
              replace p2 := p2 (hall 2 (by decide))
              replace p3 := p3 (hall 3 (by decide))
              replace p4 := p4 (hall 4 (by decide))
              replace p5 := p5 (hall 5 (by decide))
              replace p6 := p6 (hall 6 (by decide))
              replace p7 := p7 (hall 7 (by decide))
              have hb := hS.1
              subst p7
              clear hall hS p0 p1 p2 p3 p4 p5 p6
              have HBz := Lib.hid (HB3.out.trans (hb.mono hs3))
              have hsz := HBz.out.size
              have HOP2 := Lib.hid (HOP.out.below hb)
              replace g0 := cell_mono g0 hb
              replace g1 := cell_mono g1 hb
              clear hb
              simp only [Act.put, List.setIfInBounds_toArray, List.set_cons_zero, List.set_cons_succ]
              go_wp2_with (at_builtin; refine wpList_append_own_at _ rfl (.tmp 33) (.tmp 38) 22 rfl w2.heap.size 47 i0 (.agg #[.int .i64 0, .int .i64 0]) 2 16 pairUnder hi hz0 hz1 hz2 rfl (by decide) _ l.length (l.flatMap enc2) rfl (World.ownsRow.alloc HOP2.out _) ⟨wq.heap.size, 0, none⟩ 1 1 [.int .i64 s, .int .i64 t] (by first | rfl | simp) rfl (cell_twoP _ _ (by simp) _ _ _) (by intro u hu; rcases List.mem_cons.1 hu with rfl | hu; (· rfl); (· rcases List.mem_cons.1 hu with rfl | hu; (· rfl); (· cases hu))) (by unfold maxLen; omega) (by omega) (by first | omega | (simp; omega)) ?_; intro v2 w9 hm9 hg9 _ hat9; have HO9 := Lib.hid (Op2.push hm9); have HB9 := Lib.hid ((HBz.out.alloc hsz _).grown hg9 (by simp; omega) (fun j hj => (HOP2.out.lt j hj).1)); clear hm9 hg9 hat9)
              go_roundw
              case rel => exact ⟨j + 1, l ++ [(s, t)], by omega, by go_num, by rw [HST.out, if_neg hne.out], HO9.out, HB9.out⟩
              case measure => simp [intOf]; omega
        · have hb1 : (s == u) = false := by simpa using e1
          have hne := Lib.hid (show ¬ ((s, t) : Int × Int) = (u, v) from fun h => e1 (Prod.mk.inj h).1)
          clear e1
          refine region_inv2 (by kernel_rfl) (RemJtrue b off j q c2 x y s t u v (W1)) ?_ ?_ ?_ ?_
          · exact ⟨u25, u26, u27, u28, u29, u30, u31, u32, by simp only [Act.put, List.setIfInBounds_toArray, List.set_cons_zero, List.set_cons_succ], Since.drawn _, (fun h => by cases h), (fun h => by cases h), (fun h => by cases h), (fun h => by cases h), (fun h => by cases h), (fun h => by cases h), (fun h => by cases h), (fun h => by cases h)⟩
          · exact acyc_spec (by kernel_rfl)
          · intro Ls a0 wq i o ho hLi hafter hJ
            obtain ⟨u25, u26, u27, u28, u29, u30, u31, u32, rfl, hS, p0, p1, p2, p3, p4, p5, p6, p7⟩ := hJ
            have hi : i < 8 := (Array.getElem?_eq_some_iff.1 ho).1
            obtain rfl | rfl | rfl | rfl | rfl | rfl | rfl | rfl : i = 0 ∨ i = 1 ∨ i = 2 ∨ i = 3 ∨ i = 4 ∨ i = 5 ∨ i = 6 ∨ i = 7 := by omega
            · simp only [List.getElem?_toArray, List.getElem?_cons_zero, Option.some.injEq] at ho
              subst ho
              have P0 := Lib.hid p0
              have P1 := Lib.hid p1
              have P2 := Lib.hid p2
              have P3 := Lib.hid p3
              have P4 := Lib.hid p4
              have P5 := Lib.hid p5
              have P6 := Lib.hid p6
              have P7 := Lib.hid p7
              have HS := Lib.hid hS
              clear hS hLi hafter p0 p1 p2 p3 p4 p5 p6 p7
              simp only [Act.put, List.setIfInBounds_toArray, List.set_cons_zero, List.set_cons_succ]
              go_wp2_with fail
              exact ⟨.slice (some ⟨b, off, none⟩) q c2, u26, u27, u28, u29, u30, u31, u32, by simp only [Act.put, List.setIfInBounds_toArray, List.set_cons_zero, List.set_cons_succ], HS.out, (fun _ => rfl), (fun h => by first | rfl | exact P1.out (by simpa using h)), (fun h => by first | rfl | exact P2.out (by simpa using h)), (fun h => by first | rfl | exact P3.out (by simpa using h)), (fun h => by first | rfl | exact P4.out (by simpa using h)), (fun h => by first | rfl | exact P5.out (by simpa using h)), (fun h => by first | rfl | exact P6.out (by simpa using h)), (fun h => by first | rfl | exact P7.out (by simpa using h))⟩
            · simp only [List.getElem?_toArray, List.getElem?_cons_zero, List.getElem?_cons_succ, Option.some.injEq] at ho
              subst ho
              have P0 := Lib.hid p0
              have P1 := Lib.hid p1
              have P2 := Lib.hid p2
              have P3 := Lib.hid p3
              have P4 := Lib.hid p4
              have P5 := Lib.hid p5
              have P6 := Lib.hid p6
              have P7 := Lib.hid p7
              have HS := Lib.hid hS
              clear hS hLi hafter p0 p1 p2 p3 p4 p5 p6 p7
              simp only [Act.put, List.setIfInBounds_toArray, List.set_cons_zero, List.set_cons_succ]
              go_wp2_with fail
              exact ⟨u25, .int .i64 (j : Nat), u27, u28, u29, u30, u31, u32, by simp only [Act.put, List.setIfInBounds_toArray, List.set_cons_zero, List.set_cons_succ], HS.out, (fun h => by first | rfl | exact P0.out (by simpa using h)), (fun _ => rfl), (fun h => by first | rfl | exact P2.out (by simpa using h)), (fun h => by first | rfl | exact P3.out (by simpa using h)), (fun h => by first | rfl | exact P4.out (by simpa using h)), (fun h => by first | rfl | exact P5.out (by simpa using h)), (fun h => by first | rfl | exact P6.out (by simpa using h)), (fun h => by first | rfl | exact P7.out (by simpa using h))⟩
            · simp only [List.getElem?_toArray, List.getElem?_cons_zero, List.getElem?_cons_succ, Option.some.injEq] at ho
              subst ho
              obtain rfl := p0 (hafter ⟨0, .data⟩ (by simp) rfl)
              obtain rfl := p1 (hafter ⟨1, .data⟩ (by simp) rfl)
              have P0 := Lib.hid p0
              have P1 := Lib.hid p1
              have P2 := Lib.hid p2
              have P3 := Lib.hid p3
              have P4 := Lib.hid p4
              have P5 := Lib.hid p5
              have P6 := Lib.hid p6
              have P7 := Lib.hid p7
              have HS := Lib.hid hS
              clear hS hLi hafter p0 p1 p2 p3 p4 p5 p6 p7
              simp only [Act.put, List.setIfInBounds_toArray, List.set_cons_zero, List.set_cons_succ]
              go_wp2_with fail
              exact ⟨.slice (some ⟨b, off, none⟩) q c2, .int .i64 (j : Nat), .pointer (some ⟨b, off + j * 2, none⟩), u28, u29, u30, u31, u32, by simp only [Act.put, List.setIfInBounds_toArray, List.set_cons_zero, List.set_cons_succ], HS.out, (fun h => by first | rfl | exact P0.out (by simpa using h)), (fun h => by first | rfl | exact P1.out (by simpa using h)), (fun _ => rfl), (fun h => by first | rfl | exact P3.out (by simpa using h)), (fun h => by first | rfl | exact P4.out (by simpa using h)), (fun h => by first | rfl | exact P5.out (by simpa using h)), (fun h => by first | rfl | exact P6.out (by simpa using h)), (fun h => by first | rfl | exact P7.out (by simpa using h))⟩
            · simp only [List.getElem?_toArray, List.getElem?_cons_zero, List.getElem?_cons_succ, Option.some.injEq] at ho
              subst ho
              obtain rfl := p2 (hafter ⟨2, .data⟩ (by simp) rfl)
              have c0 := cell_mono g0 hS.1
              have c1 := cell_mono g1 hS.1
              have P0 := Lib.hid p0
              have P1 := Lib.hid p1
              have P2 := Lib.hid p2
              have P3 := Lib.hid p3
              have P4 := Lib.hid p4
              have P5 := Lib.hid p5
              have P6 := Lib.hid p6
              have P7 := Lib.hid p7
              have HS := Lib.hid hS
              clear hS hLi hafter p0 p1 p2 p3 p4 p5 p6 p7
              simp only [Act.put, List.setIfInBounds_toArray, List.set_cons_zero, List.set_cons_succ]
              go_wp2_with fail
              exact ⟨u25, u26, .pointer (some ⟨b, off + j * 2, none⟩), .agg #[.int .i64 s, .int .i64 t], u29, u30, u31, u32, by simp only [Act.put, List.setIfInBounds_toArray, List.set_cons_zero, List.set_cons_succ], HS.out, (fun h => by first | rfl | exact P0.out (by simpa using h)), (fun h => by first | rfl | exact P1.out (by simpa using h)), (fun h => by first | rfl | exact P2.out (by simpa using h)), (fun _ => rfl), (fun h => by first | rfl | exact P4.out (by simpa using h)), (fun h => by first | rfl | exact P5.out (by simpa using h)), (fun h => by first | rfl | exact P6.out (by simpa using h)), (fun h => by first | rfl | exact P7.out (by simpa using h))⟩
            · simp only [List.getElem?_toArray, List.getElem?_cons_zero, List.getElem?_cons_succ, Option.some.injEq] at ho
              subst ho
              have P0 := Lib.hid p0
              have P1 := Lib.hid p1
              have P2 := Lib.hid p2
              have P3 := Lib.hid p3
              have P4 := Lib.hid p4
              have P5 := Lib.hid p5
              have P6 := Lib.hid p6
              have P7 := Lib.hid p7
              have HS := Lib.hid hS
              clear hS hLi hafter p0 p1 p2 p3 p4 p5 p6 p7
              simp only [Act.put, List.setIfInBounds_toArray, List.set_cons_zero, List.set_cons_succ]
              go_wp2_with fail
              exact ⟨u25, u26, u27, u28, .int .i64 x, u30, u31, u32, by simp only [Act.put, List.setIfInBounds_toArray, List.set_cons_zero, List.set_cons_succ], HS.out, (fun h => by first | rfl | exact P0.out (by simpa using h)), (fun h => by first | rfl | exact P1.out (by simpa using h)), (fun h => by first | rfl | exact P2.out (by simpa using h)), (fun h => by first | rfl | exact P3.out (by simpa using h)), (fun _ => rfl), (fun h => by first | rfl | exact P5.out (by simpa using h)), (fun h => by first | rfl | exact P6.out (by simpa using h)), (fun h => by first | rfl | exact P7.out (by simpa using h))⟩
            · simp only [List.getElem?_toArray, List.getElem?_cons_zero, List.getElem?_cons_succ, Option.some.injEq] at ho
              subst ho
              have P0 := Lib.hid p0
              have P1 := Lib.hid p1
              have P2 := Lib.hid p2
              have P3 := Lib.hid p3
              have P4 := Lib.hid p4
              have P5 := Lib.hid p5
              have P6 := Lib.hid p6
              have P7 := Lib.hid p7
              have HS := Lib.hid hS
              clear hS hLi hafter p0 p1 p2 p3 p4 p5 p6 p7
              simp only [Act.put, List.setIfInBounds_toArray, List.set_cons_zero, List.set_cons_succ]
              go_wp2_with fail
              exact ⟨u25, u26, u27, u28, u29, .int .i64 y, u31, u32, by simp only [Act.put, List.setIfInBounds_toArray, List.set_cons_zero, List.set_cons_succ], HS.out, (fun h => by first | rfl | exact P0.out (by simpa using h)), (fun h => by first | rfl | exact P1.out (by simpa using h)), (fun h => by first | rfl | exact P2.out (by simpa using h)), (fun h => by first | rfl | exact P3.out (by simpa using h)), (fun h => by first | rfl | exact P4.out (by simpa using h)), (fun _ => rfl), (fun h => by first | rfl | exact P6.out (by simpa using h)), (fun h => by first | rfl | exact P7.out (by simpa using h))⟩
            · simp only [List.getElem?_toArray, List.getElem?_cons_zero, List.getElem?_cons_succ, Option.some.injEq] at ho
              subst ho
              obtain rfl := p4 (hafter ⟨4, .data⟩ (by simp) rfl)
              obtain rfl := p5 (hafter ⟨5, .data⟩ (by simp) rfl)
              have P0 := Lib.hid p0
              have P1 := Lib.hid p1
              have P2 := Lib.hid p2
              have P3 := Lib.hid p3
              have P4 := Lib.hid p4
              have P5 := Lib.hid p5
              have P6 := Lib.hid p6
              have P7 := Lib.hid p7
              have HS := Lib.hid hS
              clear hS hLi hafter p0 p1 p2 p3 p4 p5 p6 p7
              simp only [Act.put, List.setIfInBounds_toArray, List.set_cons_zero, List.set_cons_succ]
              go_wp2_with fail
              refine (xord_any x y _ _ _ HUV.out).mono ?_
              rintro e wn ⟨rfl, hb⟩
              have Hb := Lib.hid hb
              clear hb
              go_wp2_with fail
              exact ⟨u25, u26, u27, u28, .int .i64 x, .int .i64 y, .agg #[.int .i64 u, .int .i64 v], u32, by simp only [Act.put, List.setIfInBounds_toArray, List.set_cons_zero, List.set_cons_succ], HS.out.below Hb.out, (fun h => by first | rfl | exact P0.out (by simpa using h)), (fun h => by first | rfl | exact P1.out (by simpa using h)), (fun h => by first | rfl | exact P2.out (by simpa using h)), (fun h => by first | rfl | exact P3.out (by simpa using h)), (fun h => by first | rfl | exact P4.out (by simpa using h)), (fun h => by first | rfl | exact P5.out (by simpa using h)), (fun _ => rfl), (fun h => by first | rfl | exact P7.out (by simpa using h))⟩
            · simp only [List.getElem?_toArray, List.getElem?_cons_zero, List.getElem?_cons_succ, Option.some.injEq] at ho
              subst ho
              obtain rfl := p3 (hafter ⟨3, .data⟩ (by simp) rfl)
              obtain rfl := p6 (hafter ⟨6, .data⟩ (by simp) rfl)
              have P0 := Lib.hid p0
              have P1 := Lib.hid p1
              have P2 := Lib.hid p2
              have P3 := Lib.hid p3
              have P4 := Lib.hid p4
              have P5 := Lib.hid p5
              have P6 := Lib.hid p6
              have P7 := Lib.hid p7
              have HS := Lib.hid hS
              clear hS hLi hafter p0 p1 p2 p3 p4 p5 p6 p7
              simp only [Act.put, List.setIfInBounds_toArray, List.set_cons_zero, List.set_cons_succ]
              go_wp2_with fail
              exact ⟨u25, u26, u27, .agg #[.int .i64 s, .int .i64 t], u29, u30, .agg #[.int .i64 u, .int .i64 v], .bool true, by simp only [Act.put, List.setIfInBounds_toArray, List.set_cons_zero, List.set_cons_succ], HS.out, (fun h => by first | rfl | exact P0.out (by simpa using h)), (fun h => by first | rfl | exact P1.out (by simpa using h)), (fun h => by first | rfl | exact P2.out (by simpa using h)), (fun h => by first | rfl | exact P3.out (by simpa using h)), (fun h => by first | rfl | exact P4.out (by simpa using h)), (fun h => by first | rfl | exact P5.out (by simpa using h)), (fun h => by first | rfl | exact P6.out (by simpa using h)), (fun _ => rfl)⟩
          · intro Ls a0 wq hall hJ
            obtain ⟨u25, u26, u27, u28, u29, u30, u31, u32, rfl, hS, p0, p1, p2, p3, p4, p5, p6, p7⟩ := hJ
            replace p0 := p0 (hall 0 (by decide))
            replace p1 := p1 (hall 1 (by decide))
            replace p2 := p2 (hall 2 (by decide))
            replace p3 := p3 (hall 3 (by decide))
            replace p4 := p4 (hall 4 (by decide))
            replace p5 := p5 (hall 5 (by decide))
            replace p6 := p6 (hall 6 (by decide))
            replace p7 := p7 (hall 7 (by decide))
            have hb := hS.1
            subst p7
            clear hall hS p0 p1 p2 p3 p4 p5 p6
            have HBz := Lib.hid (HB3.out.trans (hb.mono hs3))
            have hsz := HBz.out.size
            have HOP2 := Lib.hid (HOP.out.below hb)
            replace g0 := cell_mono g0 hb
            replace g1 := cell_mono g1 hb
            clear hb
            simp only [Act.put, List.setIfInBounds_toArray, List.set_cons_zero, List.set_cons_succ]
            go_wp2_with (at_builtin; refine wpList_append_own_at _ rfl (.tmp 33) (.tmp 38) 22 rfl w2.heap.size 47 i0 (.agg #[.int .i64 0, .int .i64 0]) 2 16 pairUnder hi hz0 hz1 hz2 rfl (by decide) _ l.length (l.flatMap enc2) rfl (World.ownsRow.alloc HOP2.out _) ⟨wq.heap.size, 0, none⟩ 1 1 [.int .i64 s, .int .i64 t] (by first | rfl | simp) rfl (cell_twoP _ _ (by simp) _ _ _) (by intro u hu; rcases List.mem_cons.1 hu with rfl | hu; (· rfl); (· rcases List.mem_cons.1 hu with rfl | hu; (· rfl); (· cases hu))) (by unfold maxLen; omega) (by omega) (by first | omega | (simp; omega)) ?_; intro v2 w9 hm9 hg9 _ hat9; have HO9 := Lib.hid (Op2.push hm9); have HB9 := Lib.hid ((HBz.out.alloc hsz _).grown hg9 (by simp; omega) (fun j hj => (HOP2.out.lt j hj).1)); clear hm9 hg9 hat9)
            go_roundw
            case rel => exact ⟨j + 1, l ++ [(s, t)], by omega, by go_num, by rw [HST.out, if_neg hne.out], HO9.out, HB9.out⟩
            case measure => simp [intOf]; omega
      · obtain rfl : j = q := by omega
        have HE := Lib.hid (show remF (normR L) (ordP x y) = l by rw [HN.out, HUV.out, ← HLL.out, List.take_of_length_le (by rw [HQ.out]; exact Nat.le_refl _)])
        clear hbel
        go_wp2_with fail
        go_ret2
        unfold RemP
        refine ⟨0, _, (show (if areP L x y = true then 0 else 6) = 0 from ?_), rfl, fun _ => ?_, fun h => absurd rfl h, ?_⟩
        · rw [HCA.out]; rfl
        · rw [HE.out]; exact ⟨_, hs2, HOP.out⟩
        · exact HB2.out.trans (HB3.out.mono hs2)

end Go.Proofs.Ytonnbcongnkcdaa
