/- Contracts of the reference's Norm, Same and Has. Conditions: lists of at most 2^43 - 2 elements. -/
import Derived.Test.YtonnbcongnkcdaaEnE
namespace Go.Proofs.Ytonnbcongnkcdaa
open Go.RowKit

/-- a slice of the call's own that holds the pairs L -/
def PnO (N0 : Nat) (L : List (Int × Int)) (u : Value) (w : World) : Prop := ∃ B, N0 ≤ B ∧ Op2 B 47 w u L
theorem PnO.below {N0 : Nat} {L : List (Int × Int)} {u : Value} {w w' : World} (h : PnO N0 L u w) (hb : Below w.heap.size w w') : PnO N0 L u w' := by obtain ⟨B, h1, h2⟩ := h; exact ⟨B, h1, h2.below hb⟩
theorem PnO.pr {N0 : Nat} {L : List (Int × Int)} {u : Value} {w : World} (h : PnO N0 L u w) : ∃ a cap, u = .slice a L.length cap ∧ Pr w a L.length cap L := by obtain ⟨B, h1, h2⟩ := h; exact h2.pr
theorem putL_len (p : Int × Int) (l : List (Int × Int)) : (putL l p).length ≤ l.length + 1 := by
  have h := putS_cnt p l l.length (Nat.le_refl _)
  rw [List.take_length] at h
  unfold putL
  by_cases c : (putS p l).2 = true
  · rw [if_pos c] at h ⊢; omega
  · rw [if_neg c] at h ⊢; rw [List.length_append]; simp; omega
theorem normR_len (L : List (Int × Int)) : ∀ k, k ≤ L.length → (normR (L.take k)).length ≤ k
  | 0, _ => by simp [normR]
  | k + 1, hk => by
    have ih := normR_len L k (by omega)
    rw [take_snoc (show k < L.length by omega), normR_snoc]
    have := putL_len (ordP L[k].1 L[k].2) (normR (L.take k))
    omega
theorem xput_at (N0 : Nat) (l : List (Int × Int)) (u : Value) (p : Int × Int) (w : World) (hN : N0 ≤ w.heap.size) (h : PnO N0 l u w) (hl : l.length ≤ 8796093022206) (t : List (Int × Int)) (ht : putL l p = t) :
    Calls Try.prog 35 #[u, .agg #[.int .i64 p.1, .int .i64 p.2]] w fun e w' => ∃ v, e = .returned v ∧ PnO N0 t v w' ∧ Below w.heap.size w w' := by
  obtain ⟨a, cap, rfl, hp⟩ := h.pr
  refine (xput_any a l.length cap l p w hp hl).mono fun e w' he => ?_
  obtain ⟨v, rfl, ⟨B, hB, ho⟩, hb⟩ := he
  exact ⟨v, rfl, ⟨B, Nat.le_trans hN hB, by rw [← ht]; exact ho⟩, hb⟩
def NrmJ (N0 : Nat) (t : List (Int × Int)) (ov : Value) (b off k n cap : Nat) (x y p q : Int) (W : World) (z0 : Act) (L : Nat → Bool) (z1 : Act) (w : World) : Prop :=
  ∃ u12 u13 u14 u15 u16 u17 u18 u19 u20 u21 u22 u23 u24,
    (z1 = (((((((((((((z0.put (some 12) u12).put (some 13) u13).put (some 14) u14).put (some 15) u15).put (some 16) u16).put (some 17) u17).put (some 18) u18).put (some 19) u19).put (some 20) u20).put (some 21) u21).put (some 22) u22).put (some 23) u23).put (some 24) u24) ∧ L 13 = false ∧ Since W w ∧ (L 0 = true → u12 = ov) ∧ (L 1 = true → u13 = .slice (some ⟨b, off, none⟩) n cap) ∧ (L 2 = true → u14 = .int .i64 (k : Nat)) ∧ (L 3 = true → u15 = .pointer (some ⟨b, off + k * 2, none⟩)) ∧ (L 4 = true → u16 = .pointer (some ⟨b, off + k * 2, none⟩)) ∧ (L 5 = true → u17 = .int .i64 x) ∧ (L 6 = true → u18 = .slice (some ⟨b, off, none⟩) n cap) ∧ (L 7 = true → u19 = .int .i64 (k : Nat)) ∧ (L 8 = true → u20 = .pointer (some ⟨b, off + k * 2, none⟩)) ∧ (L 9 = true → u21 = .pointer (some ⟨b, off + k * 2 + 1, none⟩)) ∧ (L 10 = true → u22 = .int .i64 y) ∧ (L 11 = true → u23 = .agg #[.int .i64 p, .int .i64 q]) ∧ (L 12 = true → PnO N0 t u24 w)) ∨
     (∃ v, z1 = (((((((((((((z0.put (some 12) u12).put (some 13) u13).put (some 14) u14).put (some 15) u15).put (some 16) u16).put (some 17) u17).put (some 18) u18).put (some 19) u19).put (some 20) u20).put (some 21) u21).put (some 22) u22).put (some 23) u23).put (some 24) u24).put (some 3) v ∧ L 13 = true ∧ (∀ j, j < 13 → L j = true) ∧ PnO N0 t v w ∧ Since W w)


set_option maxRecDepth 20000 in
set_option maxHeartbeats 4000000 in
theorem xnorm_any (a : Option Addr) (n cap : Nat) (L : List (Int × Int)) (w : World) (h : Pr w a n cap L) (hn : n ≤ 8796093022206) :
    Calls Try.prog 12 #[.slice a n cap] w fun e w' => ∃ v, e = .returned v ∧ PnO w.heap.size (normR L) v w' ∧ Below w.heap.size w w' := by
  have HPL := Lib.hid h
  have b1 := h.2.1
  have b2 := h.2.2.1
  have b0 := h.1
  unfold maxLen at b2
  have HLN := Lib.hid b0
  clear h b0
  go_enter Try.func12, Try.ntmps12
  go_wp2_with fail
  go_loopw [3, 4] (fun out i wr => ∃ (k : Nat) (l : List (Int × Int)), k ≤ n ∧ i = .int .i64 k ∧ normR (L.take k) = l ∧ PnO w.heap.size l out wr ∧ Below w.heap.size w wr) (fun _ i _ => n - (intOf i).toNat)
  case atStart => exact ⟨0, [], Nat.zero_le _, rfl, rfl, ⟨_, Nat.le_refl _, Op2.start _ w (Nat.le_refl _)⟩, bel1 _ _⟩
  case round =>
    obtain ⟨k, l, hk, rfl, hl, hpo, hbel⟩ := hrel
    have HLL := Lib.hid hl
    obtain ⟨pa, pc, rfl, _⟩ := hpo.pr
    have HPO := Lib.hid hpo
    have HB := Lib.hid hbel
    have hs0 := hbel.size
    have hll : l.length ≤ k := by rw [← hl]; exact normR_len L k (by have := HLN.out; omega)
    clear hl hpo
    by_cases hkn : k < n
    · obtain ⟨b, off, rfl, hc⟩ := (HPL.out.below hbel).2.2.2 (by omega)
      have hkL : k < L.length := by have := HLN.out; omega
      obtain ⟨g0, g1⟩ := hc k hkn
      rw [getD_lt hkL] at g0 g1
      obtain ⟨x, y, exy⟩ : ∃ x y, L[k] = (x, y) := ⟨_, _, rfl⟩
      rw [exy] at g0 g1
      simp only at g0 g1
      obtain ⟨p, q, hpq⟩ : ∃ p q, ordP x y = (p, q) := ⟨_, _, rfl⟩
      have HPQ := Lib.hid hpq
      obtain ⟨t, ht⟩ : ∃ t, putL l (p, q) = t := ⟨_, rfl⟩
      have HT := Lib.hid ht
      have HST := Lib.hid (show normR (L.take (k + 1)) = t by rw [take_snoc hkL, normR_snoc, exy, HLL.out, hpq, ht])
      have hix0 : (0 : Int) ≤ (k : Int) := by omega
      have hix1 : (k : Int) < (n : Int) := by omega
      clear hc exy hpq ht hbel
      go_wp2_with fail
      refine region_name fun W1 hW => ?_
      have HBw := Lib.hid (show Below wr.heap.size wr W1 by rw [← hW]; (repeat' (first | with_reducible exact Below.refl _ _ | (with_reducible refine Below.alloc ?_ ?_ _; rotate_left; (focus (first | omega | (simp; done) | (simp; omega)))) | with_reducible apply Below.drew | (with_reducible refine Below.setCell ?_ ?_ _; rotate_left; (focus (first | omega | (simp; done) | (simp; omega)))))))
      clear hW
      replace g0 := cell_mono g0 HBw.out
      replace g1 := cell_mono g1 HBw.out
      replace HPO := Lib.hid (HPO.out.below HBw.out)
      replace HB := Lib.hid (HB.out.trans (HBw.out.mono hs0))
      replace hs0 := HB.out.size
      refine region_inv2 (by kernel_rfl) (NrmJ w.heap.size t (.slice pa l.length pc) b off k n cap x y p q (W1)) ?_ ?_ ?_ ?_
      · exact ⟨u12, u13, u14, u15, u16, u17, u18, u19, u20, u21, u22, u23, u24, .inl ⟨by simp only [Act.put, List.setIfInBounds_toArray, List.set_cons_zero, List.set_cons_succ], rfl, Since.drawn _, (fun h => by cases h), (fun h => by cases h), (fun h => by cases h), (fun h => by cases h), (fun h => by cases h), (fun h => by cases h), (fun h => by cases h), (fun h => by cases h), (fun h => by cases h), (fun h => by cases h), (fun h => by cases h), (fun h => by cases h), (fun h => by cases h)⟩⟩
      · exact acyc_spec (by kernel_rfl)
      · intro Ls a0 wq i o ho hLi hafter hJ
        obtain ⟨u12, u13, u14, u15, u16, u17, u18, u19, u20, u21, u22, u23, u24, hJ | ⟨v, rfl, h10, hall, _⟩⟩ := hJ
        · obtain ⟨rfl, hLl, hS, p0, p1, p2, p3, p4, p5, p6, p7, p8, p9, p10, p11, p12⟩ := hJ
          have hi : i < 14 := (Array.getElem?_eq_some_iff.1 ho).1
          obtain rfl | rfl | rfl | rfl | rfl | rfl | rfl | rfl | rfl | rfl | rfl | rfl | rfl | rfl : i = 0 ∨ i = 1 ∨ i = 2 ∨ i = 3 ∨ i = 4 ∨ i = 5 ∨ i = 6 ∨ i = 7 ∨ i = 8 ∨ i = 9 ∨ i = 10 ∨ i = 11 ∨ i = 12 ∨ i = 13 := by omega
          · simp only [List.getElem?_toArray, List.getElem?_cons_zero, Option.some.injEq] at ho
            subst ho
            have P0 := Lib.hid p0
            have P1 := Lib.hid p1
            have P2 := Lib.hid p2
            have P3 := Lib.hid p3
            have P4 := Lib.hid p4
            have P5 := Lib.hid p5
            have P6 := Lib.hid p6
            have P7 := Lib.hid p7
            have P8 := Lib.hid p8
            have P9 := Lib.hid p9
            have P10 := Lib.hid p10
            have P11 := Lib.hid p11
            have P12 := Lib.hid p12
            have HS := Lib.hid hS
            clear hS hLi hafter p0 p1 p2 p3 p4 p5 p6 p7 p8 p9 p10 p11 p12
            simp only [Act.put, List.setIfInBounds_toArray, List.set_cons_zero, List.set_cons_succ]
            go_wp2_with fail
            exact ⟨(.slice pa l.length pc), u13, u14, u15, u16, u17, u18, u19, u20, u21, u22, u23, u24, .inl ⟨by simp only [Act.put, List.setIfInBounds_toArray, List.set_cons_zero, List.set_cons_succ], by simpa using hLl, HS.out, (fun _ => rfl), (fun h => by first | rfl | exact P1.out (by simpa using h)), (fun h => by first | rfl | exact P2.out (by simpa using h)), (fun h => by first | rfl | exact P3.out (by simpa using h)), (fun h => by first | rfl | exact P4.out (by simpa using h)), (fun h => by first | rfl | exact P5.out (by simpa using h)), (fun h => by first | rfl | exact P6.out (by simpa using h)), (fun h => by first | rfl | exact P7.out (by simpa using h)), (fun h => by first | rfl | exact P8.out (by simpa using h)), (fun h => by first | rfl | exact P9.out (by simpa using h)), (fun h => by first | rfl | exact P10.out (by simpa using h)), (fun h => by first | rfl | exact P11.out (by simpa using h)), (fun h => P12.out (by simpa using h))⟩⟩
          · simp only [List.getElem?_toArray, List.getElem?_cons_zero, List.getElem?_cons_succ, Option.some.injEq] at ho
            subst ho
            have P0 := Lib.hid p0
            have P1 := Lib.hid p1
            have P2 := Lib.hid p2
            have P3 := Lib.hid p3
            have P4 := Lib.hid p4
            have P5 := Lib.hid p5
            have P6 := Lib.hid p6
            have P7 := Lib.hid p7
            have P8 := Lib.hid p8
            have P9 := Lib.hid p9
            have P10 := Lib.hid p10
            have P11 := Lib.hid p11
            have P12 := Lib.hid p12
            have HS := Lib.hid hS
            clear hS hLi hafter p0 p1 p2 p3 p4 p5 p6 p7 p8 p9 p10 p11 p12
            simp only [Act.put, List.setIfInBounds_toArray, List.set_cons_zero, List.set_cons_succ]
            go_wp2_with fail
            exact ⟨u12, .slice (some ⟨b, off, none⟩) n cap, u14, u15, u16, u17, u18, u19, u20, u21, u22, u23, u24, .inl ⟨by simp only [Act.put, List.setIfInBounds_toArray, List.set_cons_zero, List.set_cons_succ], by simpa using hLl, HS.out, (fun h => by first | rfl | exact P0.out (by simpa using h)), (fun _ => rfl), (fun h => by first | rfl | exact P2.out (by simpa using h)), (fun h => by first | rfl | exact P3.out (by simpa using h)), (fun h => by first | rfl | exact P4.out (by simpa using h)), (fun h => by first | rfl | exact P5.out (by simpa using h)), (fun h => by first | rfl | exact P6.out (by simpa using h)), (fun h => by first | rfl | exact P7.out (by simpa using h)), (fun h => by first | rfl | exact P8.out (by simpa using h)), (fun h => by first | rfl | exact P9.out (by simpa using h)), (fun h => by first | rfl | exact P10.out (by simpa using h)), (fun h => by first | rfl | exact P11.out (by simpa using h)), (fun h => P12.out (by simpa using h))⟩⟩
          · simp only [List.getElem?_toArray, List.getElem?_cons_zero, List.getElem?_cons_succ, Option.some.injEq] at ho
            subst ho
            have P0 := Lib.hid p0
            have P1 := Lib.hid p1
            have P2 := Lib.hid p2
            have P3 := Lib.hid p3
            have P4 := Lib.hid p4
            have P5 := Lib.hid p5
            have P6 := Lib.hid p6
            have P7 := Lib.hid p7
            have P8 := Lib.hid p8
            have P9 := Lib.hid p9
            have P10 := Lib.hid p10
            have P11 := Lib.hid p11
            have P12 := Lib.hid p12
            have HS := Lib.hid hS
            clear hS hLi hafter p0 p1 p2 p3 p4 p5 p6 p7 p8 p9 p10 p11 p12
            simp only [Act.put, List.setIfInBounds_toArray, List.set_cons_zero, List.set_cons_succ]
            go_wp2_with fail
            exact ⟨u12, u13, .int .i64 (k : Nat), u15, u16, u17, u18, u19, u20, u21, u22, u23, u24, .inl ⟨by simp only [Act.put, List.setIfInBounds_toArray, List.set_cons_zero, List.set_cons_succ], by simpa using hLl, HS.out, (fun h => by first | rfl | exact P0.out (by simpa using h)), (fun h => by first | rfl | exact P1.out (by simpa using h)), (fun _ => rfl), (fun h => by first | rfl | exact P3.out (by simpa using h)), (fun h => by first | rfl | exact P4.out (by simpa using h)), (fun h => by first | rfl | exact P5.out (by simpa using h)), (fun h => by first | rfl | exact P6.out (by simpa using h)), (fun h => by first | rfl | exact P7.out (by simpa using h)), (fun h => by first | rfl | exact P8.out (by simpa using h)), (fun h => by first | rfl | exact P9.out (by simpa using h)), (fun h => by first | rfl | exact P10.out (by simpa using h)), (fun h => by first | rfl | exact P11.out (by simpa using h)), (fun h => P12.out (by simpa using h))⟩⟩
          · simp only [List.getElem?_toArray, List.getElem?_cons_zero, List.getElem?_cons_succ, Option.some.injEq] at ho
            subst ho
            obtain rfl := p1 (hafter ⟨1, .data⟩ (by simp) rfl)
            obtain rfl := p2 (hafter ⟨2, .data⟩ (by simp) rfl)
            have P0 := Lib.hid p0
            have P1 := Lib.hid p1
            have P2 := Lib.hid p2
            have P3 := Lib.hid p3
            have P4 := Lib.hid p4
            have P5 := Lib.hid p5
            have P6 := Lib.hid p6
            have P7 := Lib.hid p7
            have P8 := Lib.hid p8
            have P9 := Lib.hid p9
            have P10 := Lib.hid p10
            have P11 := Lib.hid p11
            have P12 := Lib.hid p12
            have HS := Lib.hid hS
            clear hS hLi hafter p0 p1 p2 p3 p4 p5 p6 p7 p8 p9 p10 p11 p12
            simp only [Act.put, List.setIfInBounds_toArray, List.set_cons_zero, List.set_cons_succ]
            go_wp2_with fail
            exact ⟨u12, .slice (some ⟨b, off, none⟩) n cap, .int .i64 (k : Nat), .pointer (some ⟨b, off + k * 2, none⟩), u16, u17, u18, u19, u20, u21, u22, u23, u24, .inl ⟨by simp only [Act.put, List.setIfInBounds_toArray, List.set_cons_zero, List.set_cons_succ], by simpa using hLl, HS.out, (fun h => by first | rfl | exact P0.out (by simpa using h)), (fun h => by first | rfl | exact P1.out (by simpa using h)), (fun h => by first | rfl | exact P2.out (by simpa using h)), (fun _ => rfl), (fun h => by first | rfl | exact P4.out (by simpa using h)), (fun h => by first | rfl | exact P5.out (by simpa using h)), (fun h => by first | rfl | exact P6.out (by simpa using h)), (fun h => by first | rfl | exact P7.out (by simpa using h)), (fun h => by first | rfl | exact P8.out (by simpa using h)), (fun h => by first | rfl | exact P9.out (by simpa using h)), (fun h => by first | rfl | exact P10.out (by simpa using h)), (fun h => by first | rfl | exact P11.out (by simpa using h)), (fun h => P12.out (by simpa using h))⟩⟩
          · simp only [List.getElem?_toArray, List.getElem?_cons_zero, List.getElem?_cons_succ, Option.some.injEq] at ho
            subst ho
            obtain rfl := p3 (hafter ⟨3, .data⟩ (by simp) rfl)
            have P0 := Lib.hid p0
            have P1 := Lib.hid p1
            have P2 := Lib.hid p2
            have P3 := Lib.hid p3
            have P4 := Lib.hid p4
            have P5 := Lib.hid p5
            have P6 := Lib.hid p6
            have P7 := Lib.hid p7
            have P8 := Lib.hid p8
            have P9 := Lib.hid p9
            have P10 := Lib.hid p10
            have P11 := Lib.hid p11
            have P12 := Lib.hid p12
            have HS := Lib.hid hS
            clear hS hLi hafter p0 p1 p2 p3 p4 p5 p6 p7 p8 p9 p10 p11 p12
            simp only [Act.put, List.setIfInBounds_toArray, List.set_cons_zero, List.set_cons_succ]
            go_wp2_with fail
            exact ⟨u12, u13, u14, .pointer (some ⟨b, off + k * 2, none⟩), .pointer (some ⟨b, off + k * 2, none⟩), u17, u18, u19, u20, u21, u22, u23, u24, .inl ⟨by simp only [Act.put, List.setIfInBounds_toArray, List.set_cons_zero, List.set_cons_succ], by simpa using hLl, HS.out, (fun h => by first | rfl | exact P0.out (by simpa using h)), (fun h => by first | rfl | exact P1.out (by simpa using h)), (fun h => by first | rfl | exact P2.out (by simpa using h)), (fun h => by first | rfl | exact P3.out (by simpa using h)), (fun _ => rfl), (fun h => by first | rfl | exact P5.out (by simpa using h)), (fun h => by first | rfl | exact P6.out (by simpa using h)), (fun h => by first | rfl | exact P7.out (by simpa using h)), (fun h => by first | rfl | exact P8.out (by simpa using h)), (fun h => by first | rfl | exact P9.out (by simpa using h)), (fun h => by first | rfl | exact P10.out (by simpa using h)), (fun h => by first | rfl | exact P11.out (by simpa using h)), (fun h => P12.out (by simpa using h))⟩⟩
          · simp only [List.getElem?_toArray, List.getElem?_cons_zero, List.getElem?_cons_succ, Option.some.injEq] at ho
            subst ho
            obtain rfl := p4 (hafter ⟨4, .data⟩ (by simp) rfl)
            have c0 := cell_mono g0 hS.1
            have P0 := Lib.hid p0
            have P1 := Lib.hid p1
            have P2 := Lib.hid p2
            have P3 := Lib.hid p3
            have P4 := Lib.hid p4
            have P5 := Lib.hid p5
            have P6 := Lib.hid p6
            have P7 := Lib.hid p7
            have P8 := Lib.hid p8
            have P9 := Lib.hid p9
            have P10 := Lib.hid p10
            have P11 := Lib.hid p11
            have P12 := Lib.hid p12
            have HS := Lib.hid hS
            clear hS hLi hafter p0 p1 p2 p3 p4 p5 p6 p7 p8 p9 p10 p11 p12
            simp only [Act.put, List.setIfInBounds_toArray, List.set_cons_zero, List.set_cons_succ]
            go_wp2_with fail
            exact ⟨u12, u13, u14, u15, .pointer (some ⟨b, off + k * 2, none⟩), .int .i64 x, u18, u19, u20, u21, u22, u23, u24, .inl ⟨by simp only [Act.put, List.setIfInBounds_toArray, List.set_cons_zero, List.set_cons_succ], by simpa using hLl, HS.out, (fun h => by first | rfl | exact P0.out (by simpa using h)), (fun h => by first | rfl | exact P1.out (by simpa using h)), (fun h => by first | rfl | exact P2.out (by simpa using h)), (fun h => by first | rfl | exact P3.out (by simpa using h)), (fun h => by first | rfl | exact P4.out (by simpa using h)), (fun _ => rfl), (fun h => by first | rfl | exact P6.out (by simpa using h)), (fun h => by first | rfl | exact P7.out (by simpa using h)), (fun h => by first | rfl | exact P8.out (by simpa using h)), (fun h => by first | rfl | exact P9.out (by simpa using h)), (fun h => by first | rfl | exact P10.out (by simpa using h)), (fun h => by first | rfl | exact P11.out (by simpa using h)), (fun h => P12.out (by simpa using h))⟩⟩
          · simp only [List.getElem?_toArray, List.getElem?_cons_zero, List.getElem?_cons_succ, Option.some.injEq] at ho
            subst ho
            have P0 := Lib.hid p0
            have P1 := Lib.hid p1
            have P2 := Lib.hid p2
            have P3 := Lib.hid p3
            have P4 := Lib.hid p4
            have P5 := Lib.hid p5
            have P6 := Lib.hid p6
            have P7 := Lib.hid p7
            have P8 := Lib.hid p8
            have P9 := Lib.hid p9
            have P10 := Lib.hid p10
            have P11 := Lib.hid p11
            have P12 := Lib.hid p12
            have HS := Lib.hid hS
            clear hS hLi hafter p0 p1 p2 p3 p4 p5 p6 p7 p8 p9 p10 p11 p12
            simp only [Act.put, List.setIfInBounds_toArray, List.set_cons_zero, List.set_cons_succ]
            go_wp2_with fail
            exact ⟨u12, u13, u14, u15, u16, u17, .slice (some ⟨b, off, none⟩) n cap, u19, u20, u21, u22, u23, u24, .inl ⟨by simp only [Act.put, List.setIfInBounds_toArray, List.set_cons_zero, List.set_cons_succ], by simpa using hLl, HS.out, (fun h => by first | rfl | exact P0.out (by simpa using h)), (fun h => by first | rfl | exact P1.out (by simpa using h)), (fun h => by first | rfl | exact P2.out (by simpa using h)), (fun h => by first | rfl | exact P3.out (by simpa using h)), (fun h => by first | rfl | exact P4.out (by simpa using h)), (fun h => by first | rfl | exact P5.out (by simpa using h)), (fun _ => rfl), (fun h => by first | rfl | exact P7.out (by simpa using h)), (fun h => by first | rfl | exact P8.out (by simpa using h)), (fun h => by first | rfl | exact P9.out (by simpa using h)), (fun h => by first | rfl | exact P10.out (by simpa using h)), (fun h => by first | rfl | exact P11.out (by simpa using h)), (fun h => P12.out (by simpa using h))⟩⟩
          · simp only [List.getElem?_toArray, List.getElem?_cons_zero, List.getElem?_cons_succ, Option.some.injEq] at ho
            subst ho
            have P0 := Lib.hid p0
            have P1 := Lib.hid p1
            have P2 := Lib.hid p2
            have P3 := Lib.hid p3
            have P4 := Lib.hid p4
            have P5 := Lib.hid p5
            have P6 := Lib.hid p6
            have P7 := Lib.hid p7
            have P8 := Lib.hid p8
            have P9 := Lib.hid p9
            have P10 := Lib.hid p10
            have P11 := Lib.hid p11
            have P12 := Lib.hid p12
            have HS := Lib.hid hS
            clear hS hLi hafter p0 p1 p2 p3 p4 p5 p6 p7 p8 p9 p10 p11 p12
            simp only [Act.put, List.setIfInBounds_toArray, List.set_cons_zero, List.set_cons_succ]
            go_wp2_with fail
            exact ⟨u12, u13, u14, u15, u16, u17, u18, .int .i64 (k : Nat), u20, u21, u22, u23, u24, .inl ⟨by simp only [Act.put, List.setIfInBounds_toArray, List.set_cons_zero, List.set_cons_succ], by simpa using hLl, HS.out, (fun h => by first | rfl | exact P0.out (by simpa using h)), (fun h => by first | rfl | exact P1.out (by simpa using h)), (fun h => by first | rfl | exact P2.out (by simpa using h)), (fun h => by first | rfl | exact P3.out (by simpa using h)), (fun h => by first | rfl | exact P4.out (by simpa using h)), (fun h => by first | rfl | exact P5.out (by simpa using h)), (fun h => by first | rfl | exact P6.out (by simpa using h)), (fun _ => rfl), (fun h => by first | rfl | exact P8.out (by simpa using h)), (fun h => by first | rfl | exact P9.out (by simpa using h)), (fun h => by first | rfl | exact P10.out (by simpa using h)), (fun h => by first | rfl | exact P11.out (by simpa using h)), (fun h => P12.out (by simpa using h))⟩⟩
          · simp only [List.getElem?_toArray, List.getElem?_cons_zero, List.getElem?_cons_succ, Option.some.injEq] at ho
            subst ho
            obtain rfl := p6 (hafter ⟨6, .data⟩ (by simp) rfl)
            obtain rfl := p7 (hafter ⟨7, .data⟩ (by simp) rfl)
            have P0 := Lib.hid p0
            have P1 := Lib.hid p1
            have P2 := Lib.hid p2
            have P3 := Lib.hid p3
            have P4 := Lib.hid p4
            have P5 := Lib.hid p5
            have P6 := Lib.hid p6
            have P7 := Lib.hid p7
            have P8 := Lib.hid p8
            have P9 := Lib.hid p9
            have P10 := Lib.hid p10
            have P11 := Lib.hid p11
            have P12 := Lib.hid p12
            have HS := Lib.hid hS
            clear hS hLi hafter p0 p1 p2 p3 p4 p5 p6 p7 p8 p9 p10 p11 p12
            simp only [Act.put, List.setIfInBounds_toArray, List.set_cons_zero, List.set_cons_succ]
            go_wp2_with fail
            exact ⟨u12, u13, u14, u15, u16, u17, .slice (some ⟨b, off, none⟩) n cap, .int .i64 (k : Nat), .pointer (some ⟨b, off + k * 2, none⟩), u21, u22, u23, u24, .inl ⟨by simp only [Act.put, List.setIfInBounds_toArray, List.set_cons_zero, List.set_cons_succ], by simpa using hLl, HS.out, (fun h => by first | rfl | exact P0.out (by simpa using h)), (fun h => by first | rfl | exact P1.out (by simpa using h)), (fun h => by first | rfl | exact P2.out (by simpa using h)), (fun h => by first | rfl | exact P3.out (by simpa using h)), (fun h => by first | rfl | exact P4.out (by simpa using h)), (fun h => by first | rfl | exact P5.out (by simpa using h)), (fun h => by first | rfl | exact P6.out (by simpa using h)), (fun h => by first | rfl | exact P7.out (by simpa using h)), (fun _ => rfl), (fun h => by first | rfl | exact P9.out (by simpa using h)), (fun h => by first | rfl | exact P10.out (by simpa using h)), (fun h => by first | rfl | exact P11.out (by simpa using h)), (fun h => P12.out (by simpa using h))⟩⟩
          · simp only [List.getElem?_toArray, List.getElem?_cons_zero, List.getElem?_cons_succ, Option.some.injEq] at ho
            subst ho
            obtain rfl := p8 (hafter ⟨8, .data⟩ (by simp) rfl)
            have P0 := Lib.hid p0
            have P1 := Lib.hid p1
            have P2 := Lib.hid p2
            have P3 := Lib.hid p3
            have P4 := Lib.hid p4
            have P5 := Lib.hid p5
            have P6 := Lib.hid p6
            have P7 := Lib.hid p7
            have P8 := Lib.hid p8
            have P9 := Lib.hid p9
            have P10 := Lib.hid p10
            have P11 := Lib.hid p11
            have P12 := Lib.hid p12
            have HS := Lib.hid hS
            clear hS hLi hafter p0 p1 p2 p3 p4 p5 p6 p7 p8 p9 p10 p11 p12
            simp only [Act.put, List.setIfInBounds_toArray, List.set_cons_zero, List.set_cons_succ]
            go_wp2_with fail
            exact ⟨u12, u13, u14, u15, u16, u17, u18, u19, .pointer (some ⟨b, off + k * 2, none⟩), .pointer (some ⟨b, off + k * 2 + 1, none⟩), u22, u23, u24, .inl ⟨by simp only [Act.put, List.setIfInBounds_toArray, List.set_cons_zero, List.set_cons_succ], by simpa using hLl, HS.out, (fun h => by first | rfl | exact P0.out (by simpa using h)), (fun h => by first | rfl | exact P1.out (by simpa using h)), (fun h => by first | rfl | exact P2.out (by simpa using h)), (fun h => by first | rfl | exact P3.out (by simpa using h)), (fun h => by first | rfl | exact P4.out (by simpa using h)), (fun h => by first | rfl | exact P5.out (by simpa using h)), (fun h => by first | rfl | exact P6.out (by simpa using h)), (fun h => by first | rfl | exact P7.out (by simpa using h)), (fun h => by first | rfl | exact P8.out (by simpa using h)), (fun _ => rfl), (fun h => by first | rfl | exact P10.out (by simpa using h)), (fun h => by first | rfl | exact P11.out (by simpa using h)), (fun h => P12.out (by simpa using h))⟩⟩
          · simp only [List.getElem?_toArray, List.getElem?_cons_zero, List.getElem?_cons_succ, Option.some.injEq] at ho
            subst ho
            obtain rfl := p9 (hafter ⟨9, .data⟩ (by simp) rfl)
            have c1 := cell_mono g1 hS.1
            have P0 := Lib.hid p0
            have P1 := Lib.hid p1
            have P2 := Lib.hid p2
            have P3 := Lib.hid p3
            have P4 := Lib.hid p4
            have P5 := Lib.hid p5
            have P6 := Lib.hid p6
            have P7 := Lib.hid p7
            have P8 := Lib.hid p8
            have P9 := Lib.hid p9
            have P10 := Lib.hid p10
            have P11 := Lib.hid p11
            have P12 := Lib.hid p12
            have HS := Lib.hid hS
            clear hS hLi hafter p0 p1 p2 p3 p4 p5 p6 p7 p8 p9 p10 p11 p12
            simp only [Act.put, List.setIfInBounds_toArray, List.set_cons_zero, List.set_cons_succ]
            go_wp2_with fail
            exact ⟨u12, u13, u14, u15, u16, u17, u18, u19, u20, .pointer (some ⟨b, off + k * 2 + 1, none⟩), .int .i64 y, u23, u24, .inl ⟨by simp only [Act.put, List.setIfInBounds_toArray, List.set_cons_zero, List.set_cons_succ], by simpa using hLl, HS.out, (fun h => by first | rfl | exact P0.out (by simpa using h)), (fun h => by first | rfl | exact P1.out (by simpa using h)), (fun h => by first | rfl | exact P2.out (by simpa using h)), (fun h => by first | rfl | exact P3.out (by simpa using h)), (fun h => by first | rfl | exact P4.out (by simpa using h)), (fun h => by first | rfl | exact P5.out (by simpa using h)), (fun h => by first | rfl | exact P6.out (by simpa using h)), (fun h => by first | rfl | exact P7.out (by simpa using h)), (fun h => by first | rfl | exact P8.out (by simpa using h)), (fun h => by first | rfl | exact P9.out (by simpa using h)), (fun _ => rfl), (fun h => by first | rfl | exact P11.out (by simpa using h)), (fun h => P12.out (by simpa using h))⟩⟩
          · simp only [List.getElem?_toArray, List.getElem?_cons_zero, List.getElem?_cons_succ, Option.some.injEq] at ho
            subst ho
            obtain rfl := p5 (hafter ⟨5, .data⟩ (by simp) rfl)
            obtain rfl := p10 (hafter ⟨10, .data⟩ (by simp) rfl)
            have P0 := Lib.hid p0
            have P1 := Lib.hid p1
            have P2 := Lib.hid p2
            have P3 := Lib.hid p3
            have P4 := Lib.hid p4
            have P5 := Lib.hid p5
            have P6 := Lib.hid p6
            have P7 := Lib.hid p7
            have P8 := Lib.hid p8
            have P9 := Lib.hid p9
            have P10 := Lib.hid p10
            have P11 := Lib.hid p11
            have P12 := Lib.hid p12
            have HS := Lib.hid hS
            clear hS hLi hafter p0 p1 p2 p3 p4 p5 p6 p7 p8 p9 p10 p11 p12
            simp only [Act.put, List.setIfInBounds_toArray, List.set_cons_zero, List.set_cons_succ]
            go_wp2_with fail
            refine (xord_any x y p q _ HPQ.out).mono ?_
            rintro e wn ⟨rfl, hb⟩
            have Hb := Lib.hid hb
            clear hb
            go_wp2_with fail
            exact ⟨u12, u13, u14, u15, u16, .int .i64 x, u18, u19, u20, u21, .int .i64 y, .agg #[.int .i64 p, .int .i64 q], u24, .inl ⟨by simp only [Act.put, List.setIfInBounds_toArray, List.set_cons_zero, List.set_cons_succ], by simpa using hLl, HS.out.below Hb.out, (fun h => by first | rfl | exact P0.out (by simpa using h)), (fun h => by first | rfl | exact P1.out (by simpa using h)), (fun h => by first | rfl | exact P2.out (by simpa using h)), (fun h => by first | rfl | exact P3.out (by simpa using h)), (fun h => by first | rfl | exact P4.out (by simpa using h)), (fun h => by first | rfl | exact P5.out (by simpa using h)), (fun h => by first | rfl | exact P6.out (by simpa using h)), (fun h => by first | rfl | exact P7.out (by simpa using h)), (fun h => by first | rfl | exact P8.out (by simpa using h)), (fun h => by first | rfl | exact P9.out (by simpa using h)), (fun h => by first | rfl | exact P10.out (by simpa using h)), (fun _ => rfl), (fun h => (P12.out (by simpa using h)).below Hb.out)⟩⟩
          · simp only [List.getElem?_toArray, List.getElem?_cons_zero, List.getElem?_cons_succ, Option.some.injEq] at ho
            subst ho
            obtain rfl := p0 (hafter ⟨0, .data⟩ (by simp) rfl)
            obtain rfl := p11 (hafter ⟨11, .data⟩ (by simp) rfl)
            have P0 := Lib.hid p0
            have P1 := Lib.hid p1
            have P2 := Lib.hid p2
            have P3 := Lib.hid p3
            have P4 := Lib.hid p4
            have P5 := Lib.hid p5
            have P6 := Lib.hid p6
            have P7 := Lib.hid p7
            have P8 := Lib.hid p8
            have P9 := Lib.hid p9
            have P10 := Lib.hid p10
            have P11 := Lib.hid p11
            have P12 := Lib.hid p12
            have HS := Lib.hid hS
            clear hS hLi hafter p0 p1 p2 p3 p4 p5 p6 p7 p8 p9 p10 p11 p12
            simp only [Act.put, List.setIfInBounds_toArray, List.set_cons_zero, List.set_cons_succ]
            go_wp2_with fail
            refine (xput_at w.heap.size l _ (p, q) _ (by have := HS.out.2; omega) (HPO.out.below HS.out.1) (by omega) t HT.out).mono ?_
            rintro e wn ⟨v, rfl, ho, hb⟩
            have HO := Lib.hid ho
            have Hb := Lib.hid hb
            clear ho hb
            go_wp2_with fail
            exact ⟨(.slice pa l.length pc), u13, u14, u15, u16, u17, u18, u19, u20, u21, u22, .agg #[.int .i64 p, .int .i64 q], _, .inl ⟨by simp only [Act.put, List.setIfInBounds_toArray, List.set_cons_zero, List.set_cons_succ], by simpa using hLl, HS.out.below Hb.out, (fun h => by first | rfl | exact P0.out (by simpa using h)), (fun h => by first | rfl | exact P1.out (by simpa using h)), (fun h => by first | rfl | exact P2.out (by simpa using h)), (fun h => by first | rfl | exact P3.out (by simpa using h)), (fun h => by first | rfl | exact P4.out (by simpa using h)), (fun h => by first | rfl | exact P5.out (by simpa using h)), (fun h => by first | rfl | exact P6.out (by simpa using h)), (fun h => by first | rfl | exact P7.out (by simpa using h)), (fun h => by first | rfl | exact P8.out (by simpa using h)), (fun h => by first | rfl | exact P9.out (by simpa using h)), (fun h => by first | rfl | exact P10.out (by simpa using h)), (fun h => by first | rfl | exact P11.out (by simpa using h)), (fun _ => HO.out)⟩⟩
          · simp only [List.getElem?_toArray, List.getElem?_cons_zero, List.getElem?_cons_succ, Option.some.injEq] at ho
            subst ho
            have hall : ∀ j, j < 13 → Ls j = true := by
              intro j hj
              obtain rfl | rfl | rfl | rfl | rfl | rfl | rfl | rfl | rfl | rfl | rfl | rfl | rfl : j = 0 ∨ j = 1 ∨ j = 2 ∨ j = 3 ∨ j = 4 ∨ j = 5 ∨ j = 6 ∨ j = 7 ∨ j = 8 ∨ j = 9 ∨ j = 10 ∨ j = 11 ∨ j = 12 := by omega
              all_goals first | (refine hafter ⟨_, .phase⟩ ?_ rfl; simp; done) | (refine hafter ⟨_, .data⟩ ?_ rfl; simp; done)
            have HALL := Lib.hid hall
            clear hall
            have HQ12 := Lib.hid (p12 (hafter ⟨12, .data⟩ (by simp) rfl))
            have P0 := Lib.hid p0
            have P1 := Lib.hid p1
            have P2 := Lib.hid p2
            have P3 := Lib.hid p3
            have P4 := Lib.hid p4
            have P5 := Lib.hid p5
            have P6 := Lib.hid p6
            have P7 := Lib.hid p7
            have P8 := Lib.hid p8
            have P9 := Lib.hid p9
            have P10 := Lib.hid p10
            have P11 := Lib.hid p11
            have P12 := Lib.hid p12
            have HS := Lib.hid hS
            clear hS hLi hafter p0 p1 p2 p3 p4 p5 p6 p7 p8 p9 p10 p11 p12
            simp only [Act.put, List.setIfInBounds_toArray, List.set_cons_zero, List.set_cons_succ]
            go_wp2_with fail
            exact ⟨u12, u13, u14, u15, u16, u17, u18, u19, u20, u21, u22, u23, u24, .inr ⟨u24, by simp only [Act.put, List.setIfInBounds_toArray, List.set_cons_zero, List.set_cons_succ], by simp, fun j hj => by simp [HALL.out j hj], ⟨HQ12.out, HS.out⟩⟩⟩
        · exfalso
          have hi : i < 14 := (Array.getElem?_eq_some_iff.1 ho).1
          rcases Nat.lt_or_ge i 13 with h | h
          · rw [hall i h] at hLi; cases hLi
          · obtain rfl : i = 13 := by omega
            rw [h10] at hLi; cases hLi
      · intro Ls a0 wq hall hJ
        obtain ⟨u12, u13, u14, u15, u16, u17, u18, u19, u20, u21, u22, u23, u24, ⟨rfl, h10, _⟩ | ⟨v, rfl, _, _, hcut⟩⟩ := hJ
        · rw [hall 13 (by decide)] at h10; cases h10
        · obtain ⟨ho, hS⟩ := hcut
          have HO := Lib.hid ho
          have HB2 := Lib.hid (HB.out.trans (hS.1.mono hs0))
          clear ho hS hall
          simp only [Act.put, List.setIfInBounds_toArray, List.set_cons_zero, List.set_cons_succ]
          go_wp2_with fail
          go_roundw
          case rel => exact ⟨k + 1, t, by omega, by go_num, HST.out, HO.out, HB2.out⟩
          case measure => simp [intOf]; omega
    · obtain rfl : k = n := by omega
      have HE := Lib.hid (show normR L = l by rw [← HLL.out, List.take_of_length_le (by rw [HLN.out]; exact Nat.le_refl _)])
      clear hbel
      go_wp2_with fail
      go_ret
      exact ⟨_, rfl, by rw [HE.out]; exact HPO.out, HB.out⟩

set_option maxHeartbeats 2000000 in
theorem same_any (a b : Option Addr) (n ca cb : Nat) (L : List (Int × Int)) (w : World) (ha : Pr w a n ca L) (hb : Pr w b n cb L) :
    Calls Try.prog 10 #[.slice a n ca, .slice b n cb] w fun e w' => e = .returned (.bool true) ∧ Below w.heap.size w w' := by
  have HA := Lib.hid ha
  have HB := Lib.hid hb
  have e1 := ha.2.1
  have e2 := ha.2.2.1
  unfold maxLen at e2
  clear ha hb
  have mixed : Try.prog.follows Departure.mixedOrders = true := by kernel_rfl
  go_enter Try.func10, Try.ntmps10
  go_wp2_with fail
  go_loopw [5] (fun i wr => ∃ k : Nat, k ≤ n ∧ i = .int .i64 k ∧ Below w.heap.size w wr) (fun i _ => n - (intOf i).toNat)
  case atStart => exact ⟨0, Nat.zero_le _, rfl, Below.refl _ _⟩
  case round =>
    obtain ⟨k, hk, rfl, hbel⟩ := hrel
    have HB2 := Lib.hid hbel
    by_cases hkn : k < n
    · obtain ⟨b5, o5, rfl, hc5⟩ := (HA.out.below hbel).2.2.2 (by omega)
      obtain ⟨b6, o6, rfl, hc6⟩ := (HB.out.below hbel).2.2.2 (by omega)
      obtain ⟨g5, g7⟩ := hc5 k hkn
      obtain ⟨g6, g8⟩ := hc6 k hkn
      obtain ⟨x, y, exy⟩ : ∃ x y, L.getD k (0, 0) = (x, y) := ⟨_, _, rfl⟩
      rw [exy] at g5 g6 g7 g8
      simp only at g5 g6 g7 g8
      clear hc5 hc6 exy hbel
      have hix0 : (0 : Int) ≤ (k : Int) := by omega
      have hix1 : (k : Int) < (n : Int) := by omega
      go_wp2_with fail
      go_region_o
      go_wp2_with fail
      go_roundw
      case rel => exact ⟨k + 1, by omega, by go_num, by first | exact HB2.out.drew | exact below_drewN HB2.out _⟩
      case measure => simp [intOf]; omega
    · obtain rfl : k = n := by omega
      clear hbel
      go_wp2_with fail
      go_ret
      exact ⟨rfl, HB2.out⟩

end Go.Proofs.Ytonnbcongnkcdaa
