/- Contract of the reference's Cmp of rational numbers: for at most 2^36 limbs in a part. -/
import Derived.Test.YtnidfpilmmhniaaRefT
import Derived.Test.YtnidfpilmmhniaaCut
namespace Go.Proofs.Ytnidfpilmmhniaa
open Go.RowKit

/-- u is the natural number m in normal form -/
def IsNat (N : Nat) (m : Nat) (u : Value) (w : World) : Prop := ∃ r c, u = .slice r (nlen m) c ∧ Nt N w r (nlen m) c m
theorem IsNat.below {N m : Nat} {u : Value} {w w' : World} (h : IsNat N m u w) (hb : Below w.heap.size w w') : IsNat N m u w' := by obtain ⟨r, c, e, h⟩ := h; exact ⟨r, c, e, h.below hb⟩
/-- s points to a box of its own that holds the integer z in normal form -/
def CutInt (N : Nat) (W : World) (z : Int) (s : Value) (w : World) : Prop :=
  ∃ g r c, s = .pointer (some ⟨g, 0, none⟩) ∧ W.heap.size ≤ g ∧ Bk w g 27 2 ∧ w.cell? ⟨g, 0, none⟩ = some (.bool (decide (z < 0))) ∧ w.cell? ⟨g, 1, none⟩ = some (.slice r (nlen z.natAbs) c) ∧ Nt N w r (nlen z.natAbs) c z.natAbs ∧ Since W w
theorem cutInt_of {N g : Nat} {W w : World} {z : Int} {r : Option Addr} {c : Nat} (hN : N ≤ W.heap.size) (hg : W.heap.size ≤ g) (hk : Bk w g 27 2) (h1 : Nt N w r (nlen z.natAbs) c z.natAbs) (hb : Since W w) :
    CutInt N W z (.pointer (some ⟨g, 0, none⟩)) ((w.setCell ⟨g, 0, none⟩ (.bool (decide (z < 0)))).setCell ⟨g, 1, none⟩ (.slice r (nlen z.natAbs) c)) := by
  obtain ⟨v0, k0⟩ := hk.cell (o := 0) (by omega)
  obtain ⟨v1, k1⟩ := hk.cell (o := 1) (by omega)
  have hs := set2_cells (v0 := .bool (decide (z < 0))) (v1 := .slice r (nlen z.natAbs) c) k0 k1
  have hf := fin2 hN hg hk.bx h1 hb.1 (.bool (decide (z < 0))) (.slice r (nlen z.natAbs) c)
  exact ⟨g, r, c, rfl, hg, (hk.set _ _).set _ _, hs.1, hs.2, hf.1, hf.2, by simpa [World.setCell] using hb.2⟩
theorem zI_false (m : Nat) : zI false m = (m : Int) := rfl
theorem xcmp_mk (z1 z2 x1 x2 : Int) (d1 d2 : Nat) (h1 : 0 < d1) (h2 : 0 < d2) (p q : Rat) (e1 : mkRat z1 d1 = p) (e2 : mkRat z2 d2 = q) (a1 : z1 * (d2 : Int) = x1) (a2 : z2 * (d1 : Int) = x2) : cmpZ x1 x2 = cmpQ p q := by
  have h := cmp_mk z1 z2 x1 x2 d1 d2 h1 h2 p q e1 e2 a1 a2
  rw [zI_norm, zI_norm] at h
  exact h

def CmpJ1 (N : Nat) (s s' : Bool) (a d a' d' : Option Addr) (na ca nd cd na' ca' nd' cd' : Nat) (zz1 x1 E2 : Int) (D2 : Nat) (W : World) (z0 : Act) (L : Nat → Bool) (z1 : Act) (w : World) : Prop :=
  ∃ u7 u8 u9 u10 u11 u12 u5, z1 = (((((((z0.put (some 7) u7).put (some 8) u8).put (some 9) u9).put (some 10) u10).put (some 11) u11).put (some 12) u12).put (some 5) u5) ∧
    ((L 7 = false ∧ Since W w ∧ (L 0 = true → u7 = .agg #[.bool s, .slice a na ca, .slice d nd cd]) ∧ (L 1 = true → IsInt N zz1 u8 w) ∧ (L 2 = true → u9 = .agg #[.bool s', .slice a' na' ca', .slice d' nd' cd']) ∧ (L 3 = true → IsNat N D2 u10 w) ∧ (L 4 = true → IsInt N E2 u11 w) ∧ (L 5 = true → IsInt N x1 u12 w) ∧ (L 6 = true → IsBox W.heap.size 27 2 u5 w)) ∨
     (L 7 = true ∧ (∀ j, j < 7 → L j = true) ∧ CutInt N W x1 u5 w))

def CmpJ2 (N : Nat) (s s' : Bool) (a d a' d' : Option Addr) (na ca nd cd na' ca' nd' cd' : Nat) (zz2 x2 E1 : Int) (D1 : Nat) (W : World) (z0 : Act) (L : Nat → Bool) (z1 : Act) (w : World) : Prop :=
  ∃ u13 u14 u15 u16 u17 u18 u6, z1 = (((((((z0.put (some 13) u13).put (some 14) u14).put (some 15) u15).put (some 16) u16).put (some 17) u17).put (some 18) u18).put (some 6) u6) ∧
    ((L 7 = false ∧ Since W w ∧ (L 0 = true → u13 = .agg #[.bool s', .slice a' na' ca', .slice d' nd' cd']) ∧ (L 1 = true → IsInt N zz2 u14 w) ∧ (L 2 = true → u15 = .agg #[.bool s, .slice a na ca, .slice d nd cd]) ∧ (L 3 = true → IsNat N D1 u16 w) ∧ (L 4 = true → IsInt N E1 u17 w) ∧ (L 5 = true → IsInt N x2 u18 w) ∧ (L 6 = true → IsBox W.heap.size 27 2 u6 w)) ∨
     (L 7 = true ∧ (∀ j, j < 7 → L j = true) ∧ CutInt N W x2 u6 w))

set_option maxHeartbeats 8000000 in
theorem xrcmp_any {N : Nat} (s s' : Bool) (a d a' d' : Option Addr) (na ca nd cd na' ca' nd' cd' L L' : Nat) (q q' : Rat) (w : World) (hN : N ≤ w.heap.size) (h : Rt N w s a na ca d nd cd q L) (h' : Rt N w s' a' na' ca' d' nd' cd' q' L') (hL : L ≤ 68719476736) (hL' : L' ≤ 68719476736) :
    Calls Try.prog 58 #[.agg #[.bool s, .slice a na ca, .slice d nd cd], .agg #[.bool s', .slice a' na' ca', .slice d' nd' cd']] w fun e w' => e = .returned (.int .i64 (cmpQ q q')) ∧ Below w.heap.size w w' := by
  obtain ⟨l0, l1, l2, mn, md, ha, hd, hq⟩ := h
  obtain ⟨l0', l1', l2', mn', md', ha', hd', hq'⟩ := h'
  obtain ⟨zz1, hz1⟩ : ∃ z, tz s mn md = z := ⟨_, rfl⟩
  obtain ⟨zz2, hz2⟩ : ∃ z, tz s' mn' md' = z := ⟨_, rfl⟩
  have e1 : mkRat zz1 (dl md) = q := by rw [← hz1, tz_dl, hq]
  have e2 : mkRat zz2 (dl md') = q' := by rw [← hz2, tz_dl, hq']
  have lz1 : nlen zz1.natAbs ≤ L := by rw [← hz1]; exact tz_len (nlen_bound ha _ l1)
  have lz2 : nlen zz2.natAbs ≤ L' := by rw [← hz2]; exact tz_len (nlen_bound ha' _ l1')
  have ld1 : nlen (dl md) ≤ L := dl_len (nlen_bound hd _ l2) l0
  have ld2 : nlen (dl md') ≤ L' := dl_len (nlen_bound hd' _ l2') l0'
  have p1 := dl_pos md
  have p2 := dl_pos md'
  obtain ⟨D1, hD1⟩ : ∃ D, dl md = D := ⟨_, rfl⟩
  obtain ⟨D2, hD2⟩ : ∃ D, dl md' = D := ⟨_, rfl⟩
  rw [hD1] at ld1 p1 e1
  rw [hD2] at ld2 p2 e2
  obtain ⟨x1, hx1⟩ : ∃ x, zz1 * (D2 : Int) = x := ⟨_, rfl⟩
  obtain ⟨x2, hx2⟩ : ∃ x, zz2 * (D1 : Int) = x := ⟨_, rfl⟩
  have HE := Lib.hid (xcmp_mk zz1 zz2 x1 x2 D1 D2 p1 p2 q q' e1 e2 hx1 hx2)
  have lx1 : nlen x1.natAbs ≤ 137438953472 := by rw [← hx1, Int.natAbs_mul, Int.natAbs_natCast]; have := nlen_mul zz1.natAbs D2; omega
  have lx2 : nlen x2.natAbs ≤ 137438953472 := by rw [← hx2, Int.natAbs_mul, Int.natAbs_natCast]; have := nlen_mul zz2.natAbs D1; omega
  obtain ⟨E1, hE1⟩ : ∃ E : Int, (D1 : Int) = E := ⟨_, rfl⟩
  obtain ⟨E2, hE2⟩ : ∃ E : Int, (D2 : Int) = E := ⟨_, rfl⟩
  have Hx1 := Lib.hid (show zI (decide (zz1 < 0)) zz1.natAbs * zI (decide (E2 < 0)) E2.natAbs = x1 by rw [zI_norm, zI_norm, ← hE2]; exact hx1)
  have Hx2 := Lib.hid (show zI (decide (zz2 < 0)) zz2.natAbs * zI (decide (E1 < 0)) E1.natAbs = x2 by rw [zI_norm, zI_norm, ← hE1]; exact hx2)
  have ln1 : nlen E1.natAbs ≤ L := by rw [← hE1, Int.natAbs_natCast]; exact ld1
  have ln2 : nlen E2.natAbs ≤ L' := by rw [← hE2, Int.natAbs_natCast]; exact ld2
  have HE1 := Lib.hid ((zI_false D1).trans hE1)
  have HE2 := Lib.hid ((zI_false D2).trans hE2)
  have HZ1 := Lib.hid hz1
  have HZ2 := Lib.hid hz2
  have HD1 := Lib.hid hD1
  have HD2 := Lib.hid hD2
  obtain ⟨W, hW, hWs, k0, k1, k2, k'0, k'1, k'2⟩ : ∃ W, ((w.alloc (.cells #[.bool s, .slice a na ca, .slice d nd cd] 29)).alloc (.cells #[.bool s', .slice a' na' ca', .slice d' nd' cd'] 29)) = W ∧ W.heap.size = w.heap.size + 2 ∧ W.cell? ⟨w.heap.size, 0, none⟩ = some (.bool s) ∧ W.cell? ⟨w.heap.size, 1, none⟩ = some (.slice a na ca) ∧ W.cell? ⟨w.heap.size, 2, none⟩ = some (.slice d nd cd) ∧ W.cell? ⟨w.heap.size + 1, 0, none⟩ = some (.bool s') ∧ W.cell? ⟨w.heap.size + 1, 1, none⟩ = some (.slice a' na' ca') ∧ W.cell? ⟨w.heap.size + 1, 2, none⟩ = some (.slice d' nd' cd') := ⟨_, rfl, by simp, by go_simp, by go_simp, by go_simp, by go_simp, by go_simp, by go_simp⟩
  have HA := Lib.hid (show Nt N W a na ca mn by rw [← hW]; exact ((ha.alloc (.cells #[.bool s, .slice a na ca, .slice d nd cd] 29)).alloc (.cells #[.bool s', .slice a' na' ca', .slice d' nd' cd'] 29)))
  have HD := Lib.hid (show Nt N W d nd cd md by rw [← hW]; exact ((hd.alloc (.cells #[.bool s, .slice a na ca, .slice d nd cd] 29)).alloc (.cells #[.bool s', .slice a' na' ca', .slice d' nd' cd'] 29)))
  have HA' := Lib.hid (show Nt N W a' na' ca' mn' by rw [← hW]; exact ((ha'.alloc (.cells #[.bool s, .slice a na ca, .slice d nd cd] 29)).alloc (.cells #[.bool s', .slice a' na' ca', .slice d' nd' cd'] 29)))
  have HD' := Lib.hid (show Nt N W d' nd' cd' md' by rw [← hW]; exact ((hd'.alloc (.cells #[.bool s, .slice a na ca, .slice d nd cd] 29)).alloc (.cells #[.bool s', .slice a' na' ca', .slice d' nd' cd'] 29)))
  have HNW := Lib.hid (show N ≤ W.heap.size by rw [← hW]; simp; omega)
  have HBW := Lib.hid (show Below w.heap.size w W by rw [← hW]; exact bel2 _ _ _)
  clear ha hd ha' hd' hq hq' hz1 hz2 e1 e2 hD1 hD2 hE1 hE2 hx1 hx2 p1 p2
  go_enter Try.func58, Try.ntmps58
  go_upto_region 1 with fail
  try rw [hW]
  clear hW
  go_cut [5] (fun s5 wx => CutInt N W x1 s5 wx)
  case first =>
    refine region_inv2 (by kernel_rfl) (CmpJ1 N s s' a d a' d' na ca nd cd na' ca' nd' cd' zz1 x1 E2 D2 (W)) ?_ ?_ ?_ ?_
    · exact ⟨undef, undef, undef, undef, undef, undef, undef, by simp only [Act.put, List.setIfInBounds_toArray, List.set_cons_zero, List.set_cons_succ], .inl ⟨rfl, Since.drawn _, (fun h => by cases h), (fun h => by cases h), (fun h => by cases h), (fun h => by cases h), (fun h => by cases h), (fun h => by cases h), (fun h => by cases h)⟩⟩
    · exact acyc_spec (by kernel_rfl)
    · intro Ls a0 wq i o ho hLi hafter hJ
      obtain ⟨u7, u8, u9, u10, u11, u12, u5, rfl, hJ | ⟨h10, hall, _⟩⟩ := hJ
      · obtain ⟨hLl, hS, p0, p1, p2, p3, p4, p5, p6⟩ := hJ
        have hi : i < 8 := (Array.getElem?_eq_some_iff.1 ho).1
        obtain rfl | rfl | rfl | rfl | rfl | rfl | rfl | rfl : i = 0 ∨ i = 1 ∨ i = 2 ∨ i = 3 ∨ i = 4 ∨ i = 5 ∨ i = 6 ∨ i = 7 := by omega
        · simp only [List.getElem?_toArray, List.getElem?_cons_zero, Option.some.injEq] at ho
          subst ho
          have c0 := (hS.1.cell (p := ⟨w.heap.size, 0, none⟩) (by show w.heap.size < W.heap.size; omega)).trans k0
          have c1 := (hS.1.cell (p := ⟨w.heap.size, 1, none⟩) (by show w.heap.size < W.heap.size; omega)).trans k1
          have c2 := (hS.1.cell (p := ⟨w.heap.size, 2, none⟩) (by show w.heap.size < W.heap.size; omega)).trans k2
          have P0 := Lib.hid p0
          have P1 := Lib.hid p1
          have P2 := Lib.hid p2
          have P3 := Lib.hid p3
          have P4 := Lib.hid p4
          have P5 := Lib.hid p5
          have P6 := Lib.hid p6
          have HS := Lib.hid hS
          clear hS hLi hafter p0 p1 p2 p3 p4 p5 p6
          simp only [Act.put, List.setIfInBounds_toArray, List.set_cons_zero, List.set_cons_succ]
          go_wp2_with fail
          exact ⟨.agg #[.bool s, .slice a na ca, .slice d nd cd], u8, u9, u10, u11, u12, u5, by simp only [Act.put, List.setIfInBounds_toArray, List.set_cons_zero, List.set_cons_succ], .inl ⟨by simpa using hLl, HS.out, (fun _ => rfl), (fun h => P1.out (by simpa using h)), (fun h => by first | rfl | exact P2.out (by simpa using h)), (fun h => P3.out (by simpa using h)), (fun h => P4.out (by simpa using h)), (fun h => P5.out (by simpa using h)), (fun h => P6.out (by simpa using h))⟩⟩
        · simp only [List.getElem?_toArray, List.getElem?_cons_zero, List.getElem?_cons_succ, Option.some.injEq] at ho
          subst ho
          obtain rfl := p0 (hafter ⟨0, .data⟩ (by simp) rfl)
          have P0 := Lib.hid p0
          have P1 := Lib.hid p1
          have P2 := Lib.hid p2
          have P3 := Lib.hid p3
          have P4 := Lib.hid p4
          have P5 := Lib.hid p5
          have P6 := Lib.hid p6
          have HS := Lib.hid hS
          clear hS hLi hafter p0 p1 p2 p3 p4 p5 p6
          simp only [Act.put, List.setIfInBounds_toArray, List.set_cons_zero, List.set_cons_succ]
          go_wp2_with fail
          refine (xtop_any (N := N) _ _ _ _ _ mn _ _ md _ (Nat.le_trans HNW.out HS.out.2) (HA.out.below HS.out.1) (HD.out.below HS.out.1) (by omega) (by omega) zz1 HZ1.out).mono ?_
          rintro e wn ⟨r, c, rfl, hn, hb⟩
          have HN := Lib.hid hn
          have Hb := Lib.hid hb
          clear hn hb
          go_wp2_with fail
          exact ⟨.agg #[.bool s, .slice a na ca, .slice d nd cd], _, u9, u10, u11, u12, u5, by simp only [Act.put, List.setIfInBounds_toArray, List.set_cons_zero, List.set_cons_succ], .inl ⟨by simpa using hLl, HS.out.below Hb.out, (fun h => by first | rfl | exact P0.out (by simpa using h)), (fun _ => ⟨r, c, rfl, HN.out⟩), (fun h => by first | rfl | exact P2.out (by simpa using h)), (fun h => (P3.out (by simpa using h)).below Hb.out), (fun h => (P4.out (by simpa using h)).below Hb.out), (fun h => (P5.out (by simpa using h)).below Hb.out), (fun h => (P6.out (by simpa using h)).below Hb.out)⟩⟩
        · simp only [List.getElem?_toArray, List.getElem?_cons_zero, List.getElem?_cons_succ, Option.some.injEq] at ho
          subst ho
          have c0 := (hS.1.cell (p := ⟨w.heap.size + 1, 0, none⟩) (by show w.heap.size + 1 < W.heap.size; omega)).trans k'0
          have c1 := (hS.1.cell (p := ⟨w.heap.size + 1, 1, none⟩) (by show w.heap.size + 1 < W.heap.size; omega)).trans k'1
          have c2 := (hS.1.cell (p := ⟨w.heap.size + 1, 2, none⟩) (by show w.heap.size + 1 < W.heap.size; omega)).trans k'2
          have P0 := Lib.hid p0
          have P1 := Lib.hid p1
          have P2 := Lib.hid p2
          have P3 := Lib.hid p3
          have P4 := Lib.hid p4
          have P5 := Lib.hid p5
          have P6 := Lib.hid p6
          have HS := Lib.hid hS
          clear hS hLi hafter p0 p1 p2 p3 p4 p5 p6
          simp only [Act.put, List.setIfInBounds_toArray, List.set_cons_zero, List.set_cons_succ]
          go_wp2_with fail
          exact ⟨u7, u8, .agg #[.bool s', .slice a' na' ca', .slice d' nd' cd'], u10, u11, u12, u5, by simp only [Act.put, List.setIfInBounds_toArray, List.set_cons_zero, List.set_cons_succ], .inl ⟨by simpa using hLl, HS.out, (fun h => by first | rfl | exact P0.out (by simpa using h)), (fun h => P1.out (by simpa using h)), (fun _ => rfl), (fun h => P3.out (by simpa using h)), (fun h => P4.out (by simpa using h)), (fun h => P5.out (by simpa using h)), (fun h => P6.out (by simpa using h))⟩⟩
        · simp only [List.getElem?_toArray, List.getElem?_cons_zero, List.getElem?_cons_succ, Option.some.injEq] at ho
          subst ho
          obtain rfl := p2 (hafter ⟨2, .data⟩ (by simp) rfl)
          have P0 := Lib.hid p0
          have P1 := Lib.hid p1
          have P2 := Lib.hid p2
          have P3 := Lib.hid p3
          have P4 := Lib.hid p4
          have P5 := Lib.hid p5
          have P6 := Lib.hid p6
          have HS := Lib.hid hS
          clear hS hLi hafter p0 p1 p2 p3 p4 p5 p6
          simp only [Act.put, List.setIfInBounds_toArray, List.set_cons_zero, List.set_cons_succ]
          go_wp2_with fail
          refine (xlow_any (N := N) _ _ _ _ _ mn' _ _ md' _ (Nat.le_trans HNW.out HS.out.2) (HA'.out.below HS.out.1) (HD'.out.below HS.out.1) (by omega) (by omega)).mono ?_
          rw [HD2.out]
          rintro e wn ⟨r, c, rfl, hn, hb⟩
          have HN := Lib.hid hn
          have Hb := Lib.hid hb
          clear hn hb
          go_wp2_with fail
          exact ⟨u7, u8, .agg #[.bool s', .slice a' na' ca', .slice d' nd' cd'], _, u11, u12, u5, by simp only [Act.put, List.setIfInBounds_toArray, List.set_cons_zero, List.set_cons_succ], .inl ⟨by simpa using hLl, HS.out.below Hb.out, (fun h => by first | rfl | exact P0.out (by simpa using h)), (fun h => (P1.out (by simpa using h)).below Hb.out), (fun h => by first | rfl | exact P2.out (by simpa using h)), (fun _ => ⟨r, c, rfl, HN.out⟩), (fun h => (P4.out (by simpa using h)).below Hb.out), (fun h => (P5.out (by simpa using h)).below Hb.out), (fun h => (P6.out (by simpa using h)).below Hb.out)⟩⟩
        · simp only [List.getElem?_toArray, List.getElem?_cons_zero, List.getElem?_cons_succ, Option.some.injEq] at ho
          subst ho
          obtain ⟨r3, c3, rfl, hn3⟩ := p3 (hafter ⟨3, .data⟩ (by simp) rfl)
          have HN3 := Lib.hid hn3
          clear hn3
          have P0 := Lib.hid p0
          have P1 := Lib.hid p1
          have P2 := Lib.hid p2
          have P3 := Lib.hid p3
          have P4 := Lib.hid p4
          have P5 := Lib.hid p5
          have P6 := Lib.hid p6
          have HS := Lib.hid hS
          clear hS hLi hafter p0 p1 p2 p3 p4 p5 p6
          simp only [Act.put, List.setIfInBounds_toArray, List.set_cons_zero, List.set_cons_succ]
          go_wp2_with fail
          refine (xmake_z (N := N) false _ _ _ D2 _ (Nat.le_trans HNW.out HS.out.2) HN3.out (by omega) E2 HE2.out).mono ?_
          rintro e wn ⟨r, c, rfl, hn, hb⟩
          have HN := Lib.hid hn
          have Hb := Lib.hid hb
          clear hn hb
          go_wp2_with fail
          exact ⟨u7, u8, u9, _, _, u12, u5, by simp only [Act.put, List.setIfInBounds_toArray, List.set_cons_zero, List.set_cons_succ], .inl ⟨by simpa using hLl, HS.out.below Hb.out, (fun h => by first | rfl | exact P0.out (by simpa using h)), (fun h => (P1.out (by simpa using h)).below Hb.out), (fun h => by first | rfl | exact P2.out (by simpa using h)), (fun h => (P3.out (by simpa using h)).below Hb.out), (fun _ => ⟨r, c, rfl, HN.out⟩), (fun h => (P5.out (by simpa using h)).below Hb.out), (fun h => (P6.out (by simpa using h)).below Hb.out)⟩⟩
        · simp only [List.getElem?_toArray, List.getElem?_cons_zero, List.getElem?_cons_succ, Option.some.injEq] at ho
          subst ho
          obtain ⟨r1, c1, rfl, hn1⟩ := p1 (hafter ⟨1, .data⟩ (by simp) rfl)
          have HN1 := Lib.hid hn1
          clear hn1
          obtain ⟨r4, c4, rfl, hn4⟩ := p4 (hafter ⟨4, .data⟩ (by simp) rfl)
          have HN4 := Lib.hid hn4
          clear hn4
          have P0 := Lib.hid p0
          have P1 := Lib.hid p1
          have P2 := Lib.hid p2
          have P3 := Lib.hid p3
          have P4 := Lib.hid p4
          have P5 := Lib.hid p5
          have P6 := Lib.hid p6
          have HS := Lib.hid hS
          clear hS hLi hafter p0 p1 p2 p3 p4 p5 p6
          simp only [Act.put, List.setIfInBounds_toArray, List.set_cons_zero, List.set_cons_succ]
          go_wp2_with fail
          refine (ximul_any (N := N) _ _ _ _ _ _ zz1.natAbs _ _ E2.natAbs _ (Nat.le_trans HNW.out HS.out.2) HN1.out HN4.out (by omega) (by omega) x1 Hx1.out).mono ?_
          rintro e wn ⟨r, c, rfl, hn, hb⟩
          have HN := Lib.hid hn
          have Hb := Lib.hid hb
          clear hn hb
          go_wp2_with fail
          exact ⟨u7, _, u9, u10, _, _, u5, by simp only [Act.put, List.setIfInBounds_toArray, List.set_cons_zero, List.set_cons_succ], .inl ⟨by simpa using hLl, HS.out.below Hb.out, (fun h => by first | rfl | exact P0.out (by simpa using h)), (fun h => (P1.out (by simpa using h)).below Hb.out), (fun h => by first | rfl | exact P2.out (by simpa using h)), (fun h => (P3.out (by simpa using h)).below Hb.out), (fun h => (P4.out (by simpa using h)).below Hb.out), (fun _ => ⟨r, c, rfl, HN.out⟩), (fun h => (P6.out (by simpa using h)).below Hb.out)⟩⟩
        · simp only [List.getElem?_toArray, List.getElem?_cons_zero, List.getElem?_cons_succ, Option.some.injEq] at ho
          subst ho
          have P0 := Lib.hid p0
          have P1 := Lib.hid p1
          have P2 := Lib.hid p2
          have P3 := Lib.hid p3
          have P4 := Lib.hid p4
          have P5 := Lib.hid p5
          have P6 := Lib.hid p6
          have HS := Lib.hid hS
          clear hS hLi hafter p0 p1 p2 p3 p4 p5 p6
          simp only [Act.put, List.setIfInBounds_toArray, List.set_cons_zero, List.set_cons_succ]
          go_wp2_with fail
          exact ⟨u7, u8, u9, u10, u11, u12, _, by simp only [Act.put, List.setIfInBounds_toArray, List.set_cons_zero, List.set_cons_succ], .inl ⟨by simpa using hLl, HS.out.below (bel1 wq (.cells #[.bool false, .slice none 0 0] 27)), (fun h => by first | rfl | exact P0.out (by simpa using h)), (fun h => (P1.out (by simpa using h)).below (bel1 wq (.cells #[.bool false, .slice none 0 0] 27))), (fun h => by first | rfl | exact P2.out (by simpa using h)), (fun h => (P3.out (by simpa using h)).below (bel1 wq (.cells #[.bool false, .slice none 0 0] 27))), (fun h => (P4.out (by simpa using h)).below (bel1 wq (.cells #[.bool false, .slice none 0 0] 27))), (fun h => (P5.out (by simpa using h)).below (bel1 wq (.cells #[.bool false, .slice none 0 0] 27))), (fun _ => ⟨wq.heap.size, rfl, HS.out.2, Bk.new _ _ _⟩)⟩⟩
        · simp only [List.getElem?_toArray, List.getElem?_cons_zero, List.getElem?_cons_succ, Option.some.injEq] at ho
          subst ho
          have hall : ∀ j, j < 7 → Ls j = true := by
            intro j hj
            obtain rfl | rfl | rfl | rfl | rfl | rfl | rfl : j = 0 ∨ j = 1 ∨ j = 2 ∨ j = 3 ∨ j = 4 ∨ j = 5 ∨ j = 6 := by omega
            all_goals exact hafter ⟨_, .phase⟩ (by simp) rfl
          have HALL := Lib.hid hall
          clear hall
          obtain ⟨r5, c5, rfl, hn5⟩ := p5 (hafter ⟨5, .data⟩ (by simp) rfl)
          have HN5 := Lib.hid hn5
          clear hn5
          obtain ⟨g, rfl, hg, hbk⟩ := p6 (hafter ⟨6, .data⟩ (by simp) rfl)
          have f0 := hbk.frozen
          have HK := Lib.hid hbk
          obtain ⟨v0, hv0⟩ := hbk.cell (o := 0) (by omega)
          obtain ⟨v1, hv1⟩ := hbk.cell (o := 1) (by omega)
          clear hbk
          have P0 := Lib.hid p0
          have P1 := Lib.hid p1
          have P2 := Lib.hid p2
          have P3 := Lib.hid p3
          have P4 := Lib.hid p4
          have P5 := Lib.hid p5
          have P6 := Lib.hid p6
          have HS := Lib.hid hS
          clear hS hLi hafter p0 p1 p2 p3 p4 p5 p6
          simp only [Act.put, List.setIfInBounds_toArray, List.set_cons_zero, List.set_cons_succ]
          go_wp2_with fail
          exact ⟨u7, u8, u9, u10, u11, .agg #[.bool (decide (x1 < 0)), .slice r5 (nlen x1.natAbs) c5], .pointer (some ⟨g, 0, none⟩), by simp only [Act.put, List.setIfInBounds_toArray, List.set_cons_zero, List.set_cons_succ], .inr ⟨by simp, fun j hj => by simp [HALL.out j hj], cutInt_of HNW.out hg HK.out HN5.out HS.out⟩⟩
      · exfalso
        have hi : i < 8 := (Array.getElem?_eq_some_iff.1 ho).1
        rcases Nat.lt_or_ge i 7 with h | h
        · rw [hall i h] at hLi; cases hLi
        · obtain rfl : i = 7 := by omega
          rw [h10] at hLi; cases hLi
    · intro Ls a0 wq hall hJ
      obtain ⟨u7, u8, u9, u10, u11, u12, u5, rfl, ⟨h10, _⟩ | ⟨_, _, hcut⟩⟩ := hJ
      · rw [hall 7 (by decide)] at h10; cases h10
      · have HC := Lib.hid hcut
        clear hcut
        simp only [Act.put, List.setIfInBounds_toArray, List.set_cons_zero, List.set_cons_succ]
        go_wp2_with fail
        go_meet
        exact HC.out
  case rest =>
    obtain ⟨W2, rfl⟩ : ∃ W2 : World, W2 = wc := ⟨_, rfl⟩
    obtain ⟨g1, ra, ca1, rfl, hg1, hk1, kg0, kg1, hn1, hs1⟩ := hcut
    have hgl := hk1.lt
    have HN1 := Lib.hid hn1
    have hsz1 := hs1.2
    replace k0 := (hs1.1.cell (p := ⟨w.heap.size, 0, none⟩) (by show w.heap.size < W.heap.size; omega)).trans k0
    replace k1 := (hs1.1.cell (p := ⟨w.heap.size, 1, none⟩) (by show w.heap.size < W.heap.size; omega)).trans k1
    replace k2 := (hs1.1.cell (p := ⟨w.heap.size, 2, none⟩) (by show w.heap.size < W.heap.size; omega)).trans k2
    replace k'0 := (hs1.1.cell (p := ⟨w.heap.size + 1, 0, none⟩) (by show w.heap.size + 1 < W.heap.size; omega)).trans k'0
    replace k'1 := (hs1.1.cell (p := ⟨w.heap.size + 1, 1, none⟩) (by show w.heap.size + 1 < W.heap.size; omega)).trans k'1
    replace k'2 := (hs1.1.cell (p := ⟨w.heap.size + 1, 2, none⟩) (by show w.heap.size + 1 < W.heap.size; omega)).trans k'2
    replace HA := Lib.hid (HA.out.below hs1.1)
    replace HD := Lib.hid (HD.out.below hs1.1)
    replace HA' := Lib.hid (HA'.out.below hs1.1)
    replace HD' := Lib.hid (HD'.out.below hs1.1)
    replace HNW := Lib.hid (Nat.le_trans HNW.out hs1.2)
    replace HBW := Lib.hid (HBW.out.trans (hs1.1.mono (by omega)))
    clear hn1 hs1 hk1 Hx1 HZ1 HD2 HE2
    go_upto_region 2 with fail
    go_cut [6] (fun s6 wx => CutInt N W2 x2 s6 wx)
    case first =>
      refine region_inv2 (by kernel_rfl) (CmpJ2 N s s' a d a' d' na ca nd cd na' ca' nd' cd' zz2 x2 E1 D1 (W2)) ?_ ?_ ?_ ?_
      · exact ⟨u13, u14, u15, u16, u17, u18, undef, by simp only [Act.put, List.setIfInBounds_toArray, List.set_cons_zero, List.set_cons_succ], .inl ⟨rfl, Since.drawn _, (fun h => by cases h), (fun h => by cases h), (fun h => by cases h), (fun h => by cases h), (fun h => by cases h), (fun h => by cases h), (fun h => by cases h)⟩⟩
      · exact acyc_spec (by kernel_rfl)
      · intro Ls a0 wq i o ho hLi hafter hJ
        obtain ⟨u13, u14, u15, u16, u17, u18, u6, rfl, hJ | ⟨h10, hall, _⟩⟩ := hJ
        · obtain ⟨hLl, hS, p0, p1, p2, p3, p4, p5, p6⟩ := hJ
          have hi : i < 8 := (Array.getElem?_eq_some_iff.1 ho).1
          obtain rfl | rfl | rfl | rfl | rfl | rfl | rfl | rfl : i = 0 ∨ i = 1 ∨ i = 2 ∨ i = 3 ∨ i = 4 ∨ i = 5 ∨ i = 6 ∨ i = 7 := by omega
          · simp only [List.getElem?_toArray, List.getElem?_cons_zero, Option.some.injEq] at ho
            subst ho
            have c0 := (hS.1.cell (p := ⟨w.heap.size + 1, 0, none⟩) (by show w.heap.size + 1 < W2.heap.size; omega)).trans k'0
            have c1 := (hS.1.cell (p := ⟨w.heap.size + 1, 1, none⟩) (by show w.heap.size + 1 < W2.heap.size; omega)).trans k'1
            have c2 := (hS.1.cell (p := ⟨w.heap.size + 1, 2, none⟩) (by show w.heap.size + 1 < W2.heap.size; omega)).trans k'2
            have P0 := Lib.hid p0
            have P1 := Lib.hid p1
            have P2 := Lib.hid p2
            have P3 := Lib.hid p3
            have P4 := Lib.hid p4
            have P5 := Lib.hid p5
            have P6 := Lib.hid p6
            have HS := Lib.hid hS
            clear hS hLi hafter p0 p1 p2 p3 p4 p5 p6
            simp only [Act.put, List.setIfInBounds_toArray, List.set_cons_zero, List.set_cons_succ]
            go_wp2_with fail
            exact ⟨.agg #[.bool s', .slice a' na' ca', .slice d' nd' cd'], u14, u15, u16, u17, u18, u6, by simp only [Act.put, List.setIfInBounds_toArray, List.set_cons_zero, List.set_cons_succ], .inl ⟨by simpa using hLl, HS.out, (fun _ => rfl), (fun h => P1.out (by simpa using h)), (fun h => by first | rfl | exact P2.out (by simpa using h)), (fun h => P3.out (by simpa using h)), (fun h => P4.out (by simpa using h)), (fun h => P5.out (by simpa using h)), (fun h => P6.out (by simpa using h))⟩⟩
          · simp only [List.getElem?_toArray, List.getElem?_cons_zero, List.getElem?_cons_succ, Option.some.injEq] at ho
            subst ho
            obtain rfl := p0 (hafter ⟨0, .data⟩ (by simp) rfl)
            have P0 := Lib.hid p0
            have P1 := Lib.hid p1
            have P2 := Lib.hid p2
            have P3 := Lib.hid p3
            have P4 := Lib.hid p4
            have P5 := Lib.hid p5
            have P6 := Lib.hid p6
            have HS := Lib.hid hS
            clear hS hLi hafter p0 p1 p2 p3 p4 p5 p6
            simp only [Act.put, List.setIfInBounds_toArray, List.set_cons_zero, List.set_cons_succ]
            go_wp2_with fail
            refine (xtop_any (N := N) _ _ _ _ _ mn' _ _ md' _ (Nat.le_trans HNW.out HS.out.2) (HA'.out.below HS.out.1) (HD'.out.below HS.out.1) (by omega) (by omega) zz2 HZ2.out).mono ?_
            rintro e wn ⟨r, c, rfl, hn, hb⟩
            have HN := Lib.hid hn
            have Hb := Lib.hid hb
            clear hn hb
            go_wp2_with fail
            exact ⟨.agg #[.bool s', .slice a' na' ca', .slice d' nd' cd'], _, u15, u16, u17, u18, u6, by simp only [Act.put, List.setIfInBounds_toArray, List.set_cons_zero, List.set_cons_succ], .inl ⟨by simpa using hLl, HS.out.below Hb.out, (fun h => by first | rfl | exact P0.out (by simpa using h)), (fun _ => ⟨r, c, rfl, HN.out⟩), (fun h => by first | rfl | exact P2.out (by simpa using h)), (fun h => (P3.out (by simpa using h)).below Hb.out), (fun h => (P4.out (by simpa using h)).below Hb.out), (fun h => (P5.out (by simpa using h)).below Hb.out), (fun h => (P6.out (by simpa using h)).below Hb.out)⟩⟩
          · simp only [List.getElem?_toArray, List.getElem?_cons_zero, List.getElem?_cons_succ, Option.some.injEq] at ho
            subst ho
            have c0 := (hS.1.cell (p := ⟨w.heap.size, 0, none⟩) (by show w.heap.size < W2.heap.size; omega)).trans k0
            have c1 := (hS.1.cell (p := ⟨w.heap.size, 1, none⟩) (by show w.heap.size < W2.heap.size; omega)).trans k1
            have c2 := (hS.1.cell (p := ⟨w.heap.size, 2, none⟩) (by show w.heap.size < W2.heap.size; omega)).trans k2
            have P0 := Lib.hid p0
            have P1 := Lib.hid p1
            have P2 := Lib.hid p2
            have P3 := Lib.hid p3
            have P4 := Lib.hid p4
            have P5 := Lib.hid p5
            have P6 := Lib.hid p6
            have HS := Lib.hid hS
            clear hS hLi hafter p0 p1 p2 p3 p4 p5 p6
            simp only [Act.put, List.setIfInBounds_toArray, List.set_cons_zero, List.set_cons_succ]
            go_wp2_with fail
            exact ⟨u13, u14, .agg #[.bool s, .slice a na ca, .slice d nd cd], u16, u17, u18, u6, by simp only [Act.put, List.setIfInBounds_toArray, List.set_cons_zero, List.set_cons_succ], .inl ⟨by simpa using hLl, HS.out, (fun h => by first | rfl | exact P0.out (by simpa using h)), (fun h => P1.out (by simpa using h)), (fun _ => rfl), (fun h => P3.out (by simpa using h)), (fun h => P4.out (by simpa using h)), (fun h => P5.out (by simpa using h)), (fun h => P6.out (by simpa using h))⟩⟩
          · simp only [List.getElem?_toArray, List.getElem?_cons_zero, List.getElem?_cons_succ, Option.some.injEq] at ho
            subst ho
            obtain rfl := p2 (hafter ⟨2, .data⟩ (by simp) rfl)
            have P0 := Lib.hid p0
            have P1 := Lib.hid p1
            have P2 := Lib.hid p2
            have P3 := Lib.hid p3
            have P4 := Lib.hid p4
            have P5 := Lib.hid p5
            have P6 := Lib.hid p6
            have HS := Lib.hid hS
            clear hS hLi hafter p0 p1 p2 p3 p4 p5 p6
            simp only [Act.put, List.setIfInBounds_toArray, List.set_cons_zero, List.set_cons_succ]
            go_wp2_with fail
            refine (xlow_any (N := N) _ _ _ _ _ mn _ _ md _ (Nat.le_trans HNW.out HS.out.2) (HA.out.below HS.out.1) (HD.out.below HS.out.1) (by omega) (by omega)).mono ?_
            rw [HD1.out]
            rintro e wn ⟨r, c, rfl, hn, hb⟩
            have HN := Lib.hid hn
            have Hb := Lib.hid hb
            clear hn hb
            go_wp2_with fail
            exact ⟨u13, u14, .agg #[.bool s, .slice a na ca, .slice d nd cd], _, u17, u18, u6, by simp only [Act.put, List.setIfInBounds_toArray, List.set_cons_zero, List.set_cons_succ], .inl ⟨by simpa using hLl, HS.out.below Hb.out, (fun h => by first | rfl | exact P0.out (by simpa using h)), (fun h => (P1.out (by simpa using h)).below Hb.out), (fun h => by first | rfl | exact P2.out (by simpa using h)), (fun _ => ⟨r, c, rfl, HN.out⟩), (fun h => (P4.out (by simpa using h)).below Hb.out), (fun h => (P5.out (by simpa using h)).below Hb.out), (fun h => (P6.out (by simpa using h)).below Hb.out)⟩⟩
          · simp only [List.getElem?_toArray, List.getElem?_cons_zero, List.getElem?_cons_succ, Option.some.injEq] at ho
            subst ho
            obtain ⟨r3, c3, rfl, hn3⟩ := p3 (hafter ⟨3, .data⟩ (by simp) rfl)
            have HN3 := Lib.hid hn3
            clear hn3
            have P0 := Lib.hid p0
            have P1 := Lib.hid p1
            have P2 := Lib.hid p2
            have P3 := Lib.hid p3
            have P4 := Lib.hid p4
            have P5 := Lib.hid p5
            have P6 := Lib.hid p6
            have HS := Lib.hid hS
            clear hS hLi hafter p0 p1 p2 p3 p4 p5 p6
            simp only [Act.put, List.setIfInBounds_toArray, List.set_cons_zero, List.set_cons_succ]
            go_wp2_with fail
            refine (xmake_z (N := N) false _ _ _ D1 _ (Nat.le_trans HNW.out HS.out.2) HN3.out (by omega) E1 HE1.out).mono ?_
            rintro e wn ⟨r, c, rfl, hn, hb⟩
            have HN := Lib.hid hn
            have Hb := Lib.hid hb
            clear hn hb
            go_wp2_with fail
            exact ⟨u13, u14, u15, _, _, u18, u6, by simp only [Act.put, List.setIfInBounds_toArray, List.set_cons_zero, List.set_cons_succ], .inl ⟨by simpa using hLl, HS.out.below Hb.out, (fun h => by first | rfl | exact P0.out (by simpa using h)), (fun h => (P1.out (by simpa using h)).below Hb.out), (fun h => by first | rfl | exact P2.out (by simpa using h)), (fun h => (P3.out (by simpa using h)).below Hb.out), (fun _ => ⟨r, c, rfl, HN.out⟩), (fun h => (P5.out (by simpa using h)).below Hb.out), (fun h => (P6.out (by simpa using h)).below Hb.out)⟩⟩
          · simp only [List.getElem?_toArray, List.getElem?_cons_zero, List.getElem?_cons_succ, Option.some.injEq] at ho
            subst ho
            obtain ⟨r1, c1, rfl, hn1⟩ := p1 (hafter ⟨1, .data⟩ (by simp) rfl)
            have HN1 := Lib.hid hn1
            clear hn1
            obtain ⟨r4, c4, rfl, hn4⟩ := p4 (hafter ⟨4, .data⟩ (by simp) rfl)
            have HN4 := Lib.hid hn4
            clear hn4
            have P0 := Lib.hid p0
            have P1 := Lib.hid p1
            have P2 := Lib.hid p2
            have P3 := Lib.hid p3
            have P4 := Lib.hid p4
            have P5 := Lib.hid p5
            have P6 := Lib.hid p6
            have HS := Lib.hid hS
            clear hS hLi hafter p0 p1 p2 p3 p4 p5 p6
            simp only [Act.put, List.setIfInBounds_toArray, List.set_cons_zero, List.set_cons_succ]
            go_wp2_with fail
            refine (ximul_any (N := N) _ _ _ _ _ _ zz2.natAbs _ _ E1.natAbs _ (Nat.le_trans HNW.out HS.out.2) HN1.out HN4.out (by omega) (by omega) x2 Hx2.out).mono ?_
            rintro e wn ⟨r, c, rfl, hn, hb⟩
            have HN := Lib.hid hn
            have Hb := Lib.hid hb
            clear hn hb
            go_wp2_with fail
            exact ⟨u13, _, u15, u16, _, _, u6, by simp only [Act.put, List.setIfInBounds_toArray, List.set_cons_zero, List.set_cons_succ], .inl ⟨by simpa using hLl, HS.out.below Hb.out, (fun h => by first | rfl | exact P0.out (by simpa using h)), (fun h => (P1.out (by simpa using h)).below Hb.out), (fun h => by first | rfl | exact P2.out (by simpa using h)), (fun h => (P3.out (by simpa using h)).below Hb.out), (fun h => (P4.out (by simpa using h)).below Hb.out), (fun _ => ⟨r, c, rfl, HN.out⟩), (fun h => (P6.out (by simpa using h)).below Hb.out)⟩⟩
          · simp only [List.getElem?_toArray, List.getElem?_cons_zero, List.getElem?_cons_succ, Option.some.injEq] at ho
            subst ho
            have P0 := Lib.hid p0
            have P1 := Lib.hid p1
            have P2 := Lib.hid p2
            have P3 := Lib.hid p3
            have P4 := Lib.hid p4
            have P5 := Lib.hid p5
            have P6 := Lib.hid p6
            have HS := Lib.hid hS
            clear hS hLi hafter p0 p1 p2 p3 p4 p5 p6
            simp only [Act.put, List.setIfInBounds_toArray, List.set_cons_zero, List.set_cons_succ]
            go_wp2_with fail
            exact ⟨u13, u14, u15, u16, u17, u18, _, by simp only [Act.put, List.setIfInBounds_toArray, List.set_cons_zero, List.set_cons_succ], .inl ⟨by simpa using hLl, HS.out.below (bel1 wq (.cells #[.bool false, .slice none 0 0] 27)), (fun h => by first | rfl | exact P0.out (by simpa using h)), (fun h => (P1.out (by simpa using h)).below (bel1 wq (.cells #[.bool false, .slice none 0 0] 27))), (fun h => by first | rfl | exact P2.out (by simpa using h)), (fun h => (P3.out (by simpa using h)).below (bel1 wq (.cells #[.bool false, .slice none 0 0] 27))), (fun h => (P4.out (by simpa using h)).below (bel1 wq (.cells #[.bool false, .slice none 0 0] 27))), (fun h => (P5.out (by simpa using h)).below (bel1 wq (.cells #[.bool false, .slice none 0 0] 27))), (fun _ => ⟨wq.heap.size, rfl, HS.out.2, Bk.new _ _ _⟩)⟩⟩
          · simp only [List.getElem?_toArray, List.getElem?_cons_zero, List.getElem?_cons_succ, Option.some.injEq] at ho
            subst ho
            have hall : ∀ j, j < 7 → Ls j = true := by
              intro j hj
              obtain rfl | rfl | rfl | rfl | rfl | rfl | rfl : j = 0 ∨ j = 1 ∨ j = 2 ∨ j = 3 ∨ j = 4 ∨ j = 5 ∨ j = 6 := by omega
              all_goals exact hafter ⟨_, .phase⟩ (by simp) rfl
            have HALL := Lib.hid hall
            clear hall
            obtain ⟨r5, c5, rfl, hn5⟩ := p5 (hafter ⟨5, .data⟩ (by simp) rfl)
            have HN5 := Lib.hid hn5
            clear hn5
            obtain ⟨g, rfl, hg, hbk⟩ := p6 (hafter ⟨6, .data⟩ (by simp) rfl)
            have f0 := hbk.frozen
            have HK := Lib.hid hbk
            obtain ⟨v0, hv0⟩ := hbk.cell (o := 0) (by omega)
            obtain ⟨v1, hv1⟩ := hbk.cell (o := 1) (by omega)
            clear hbk
            have P0 := Lib.hid p0
            have P1 := Lib.hid p1
            have P2 := Lib.hid p2
            have P3 := Lib.hid p3
            have P4 := Lib.hid p4
            have P5 := Lib.hid p5
            have P6 := Lib.hid p6
            have HS := Lib.hid hS
            clear hS hLi hafter p0 p1 p2 p3 p4 p5 p6
            simp only [Act.put, List.setIfInBounds_toArray, List.set_cons_zero, List.set_cons_succ]
            go_wp2_with fail
            exact ⟨u13, u14, u15, u16, u17, .agg #[.bool (decide (x2 < 0)), .slice r5 (nlen x2.natAbs) c5], .pointer (some ⟨g, 0, none⟩), by simp only [Act.put, List.setIfInBounds_toArray, List.set_cons_zero, List.set_cons_succ], .inr ⟨by simp, fun j hj => by simp [HALL.out j hj], cutInt_of HNW.out hg HK.out HN5.out HS.out⟩⟩
        · exfalso
          have hi : i < 8 := (Array.getElem?_eq_some_iff.1 ho).1
          rcases Nat.lt_or_ge i 7 with h | h
          · rw [hall i h] at hLi; cases hLi
          · obtain rfl : i = 7 := by omega
            rw [h10] at hLi; cases hLi
      · intro Ls a0 wq hall hJ
        obtain ⟨u13, u14, u15, u16, u17, u18, u6, rfl, ⟨h10, _⟩ | ⟨_, _, hcut⟩⟩ := hJ
        · rw [hall 7 (by decide)] at h10; cases h10
        · have HC := Lib.hid hcut
          clear hcut
          simp only [Act.put, List.setIfInBounds_toArray, List.set_cons_zero, List.set_cons_succ]
          go_wp2_with fail
          go_meet
          exact HC.out
    case rest =>
      clear HA HD HA' HD'
      obtain ⟨g2, rb, cb1, rfl, hg2, hk2, kh0, kh1, hn2, hs2⟩ := hcut
      have hgl2 := hk2.lt
      have HN2 := Lib.hid hn2
      have hsz2 := hs2.2
      replace kg0 := (hs2.1.cell (p := ⟨g1, 0, none⟩) hgl).trans kg0
      replace kg1 := (hs2.1.cell (p := ⟨g1, 1, none⟩) hgl).trans kg1
      replace HN1 := Lib.hid (HN1.out.below hs2.1)
      replace HBW := Lib.hid (HBW.out.trans (hs2.1.mono (by omega)))
      have hNc : N ≤ wc.heap.size := Nat.le_trans HNW.out hs2.2
      clear hn2 hs2 hk2 k0 k1 k2 k'0 k'1 k'2
      go_wp2_with fail
      refine (xicmp_any (N := N) _ _ _ _ _ _ x1.natAbs _ _ x2.natAbs _ hNc HN1.out HN2.out (by omega) (by omega) x1 x2 (zI_norm x1) (zI_norm x2)).mono ?_
      rw [HE.out]
      rintro e we ⟨rfl, hb⟩
      have HBe := Lib.hid hb
      clear hb
      go_wp2_with fail
      go_ret
      exact ⟨rfl, HBW.out.trans (HBe.out.mono (by omega))⟩

end Go.Proofs.Ytnidfpilmmhniaa
