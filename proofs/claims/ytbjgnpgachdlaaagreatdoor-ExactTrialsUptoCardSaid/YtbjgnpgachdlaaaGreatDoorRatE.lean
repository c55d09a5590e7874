/- Contract of ratio.Add: for rational numbers of at most 2^36 limbs in a part. -/
import Derived.Test.YtbjgnpgachdlaaaGreatDoorRatD
import Derived.Test.YtbjgnpgachdlaaaGreatDoorReg
import Derived.Deep.DeepCutAuto
namespace Go.Proofs.YtbjgnpgachdlaaaGreatDoor
open Go.RowKit

/-- block b is a box of type T with k cells, none frozen -/
def Bk (w : World) (b : Nat) (T : TypeId) (k : Nat) : Prop := ∃ cur, w.heap[b]? = some (.cells cur T (0, 0)) ∧ cur.size = k
theorem Bk.bx {w : World} {b k : Nat} {T : TypeId} (h : Bk w b T k) : Bx w b T := by obtain ⟨c, h, _⟩ := h; exact ⟨c, _, h⟩
theorem Bk.lt {w : World} {b k : Nat} {T : TypeId} (h : Bk w b T k) : b < w.heap.size := h.bx.lt
theorem Bk.below {w w' : World} {b k : Nat} {T : TypeId} (h : Bk w b T k) (hb : Below w.heap.size w w') : Bk w' b T k := by
  have hl := h.lt
  obtain ⟨c, h, hk⟩ := h; exact ⟨c, (hb.block b hl).trans h, hk⟩
theorem Bk.new (w : World) (c : Array Value) (T : TypeId) : Bk (w.alloc (.cells c T)) w.heap.size T c.size := ⟨c, heap_alloc_new w _, rfl⟩
theorem Bk.cell {w : World} {b k : Nat} {T : TypeId} (h : Bk w b T k) {o : Nat} (ho : o < k) : ∃ v, w.cell? ⟨b, o, none⟩ = some v := by
  obtain ⟨c, h, rfl⟩ := h
  exact ⟨c[o], by simp [World.cell?, h, ho]⟩
theorem Bk.frozen {w : World} {b k : Nat} {T : TypeId} (h : Bk w b T k) (o : Nat) : w.frozen? ⟨b, o, none⟩ = false := by
  obtain ⟨c, h, rfl⟩ := h; simp [World.frozen?, h]
theorem Bk.set {w : World} {b k : Nat} {T : TypeId} (h : Bk w b T k) (p : Addr) (v : Value) : Bk (w.setCell p v) b T k := by
  obtain ⟨c, h, hk⟩ := h
  by_cases e : b = p.block
  · subst e
    refine ⟨if p.spot.isSome then c else c.setIfInBounds p.off v, ?_, ?_⟩
    · simp [World.setCell, Array.getElem?_modify, h]
    · split <;> simp [hk]
  · exact ⟨c, (Below.heap_setCell _ _ _ _ e).trans h, hk⟩

/-- u is the whole number m as an integer -/
def IsWh (N m : Nat) (u : Value) (w : World) : Prop := ∃ r c, u = .agg #[.bool false, .slice r (nlen m) c] ∧ Nt N w r (nlen m) c m
/-- u is the integer z in normal form -/
def IsInt (N : Nat) (z : Int) (u : Value) (w : World) : Prop := ∃ r c, u = .agg #[.bool (decide (z < 0)), .slice r (nlen z.natAbs) c] ∧ Nt N w r (nlen z.natAbs) c z.natAbs
/-- u points to a box of its own -/
def IsBox (b0 : Nat) (T : TypeId) (k : Nat) (u : Value) (w : World) : Prop := ∃ g, u = .pointer (some ⟨g, 0, none⟩) ∧ b0 ≤ g ∧ Bk w g T k
theorem Bk.new' (w : World) (c : Array Value) (T : TypeId) (b : Nat) (h : b = w.heap.size) : Bk (w.alloc (.cells c T)) b T c.size := by subst h; exact Bk.new w c T
theorem set2_cells {w : World} {g : Nat} {a0 a1 v0 v1 : Value} (h0 : w.cell? ⟨g, 0, none⟩ = some a0) (h1 : w.cell? ⟨g, 1, none⟩ = some a1) :
    ((w.setCell ⟨g, 0, none⟩ v0).setCell ⟨g, 1, none⟩ v1).cell? ⟨g, 0, none⟩ = some v0 ∧ ((w.setCell ⟨g, 0, none⟩ v0).setCell ⟨g, 1, none⟩ v1).cell? ⟨g, 1, none⟩ = some v1 :=
  ⟨(World.cell?_setCell_other _ _ _ _ (by simp)).trans (World.cell?_setCell_same _ _ _ h0), World.cell?_setCell_same _ _ _ ((World.cell?_setCell_other _ _ _ _ (by simp)).trans h1)⟩
theorem IsWh.below {N m : Nat} {u : Value} {w w' : World} (h : IsWh N m u w) (hb : Below w.heap.size w w') : IsWh N m u w' := by obtain ⟨r, c, e, h⟩ := h; exact ⟨r, c, e, h.below hb⟩
theorem IsInt.below {N : Nat} {z : Int} {u : Value} {w w' : World} (h : IsInt N z u w) (hb : Below w.heap.size w w') : IsInt N z u w' := by obtain ⟨r, c, e, h⟩ := h; exact ⟨r, c, e, h.below hb⟩
theorem IsBox.below {b0 k : Nat} {T : TypeId} {u : Value} {w w' : World} (h : IsBox b0 T k u w) (hb : Below w.heap.size w w') : IsBox b0 T k u w' := by obtain ⟨g, e, h1, h⟩ := h; exact ⟨g, e, h1, h.below hb⟩

theorem add_mk (z1 z2 x1 x2 x : Int) (d1 d2 : Nat) (h1 : 0 < d1) (h2 : 0 < d2) (q q' p : Rat) (e1 : mkRat z1 d1 = q) (e2 : mkRat z2 d2 = q') (hp : q + q' = p) (a1 : z1 * zI false d2 = x1) (a2 : z2 * zI false d1 = x2) (hx : zI (decide (x1 < 0)) x1.natAbs + zI (decide (x2 < 0)) x2.natAbs = x) : mkRat (zI (decide (x < 0)) x.natAbs) (d1 * d2) = p := by
  rw [zI_norm, zI_norm] at hx
  rw [zI_norm, ← hx, ← a1, ← a2, ← hp, ← e1, ← e2, Rat.mkRat_add_mkRat _ _ (by omega) (by omega)]
  rfl
theorem nlen_iadd {z : Int} {s1 s2 : Bool} {m1 m2 : Nat} (hz : zI s1 m1 + zI s2 m2 = z) : nlen z.natAbs ≤ max (nlen m1) (nlen m2) + 1 := by
  have h : z.natAbs ≤ m1 + m2 := by
    have h1 := zI_abs s1 m1
    have h2 := zI_abs s2 m2
    omega
  exact Nat.le_trans (nlen_mono h) (nlen_add m1 m2)

/-- what stays while the statement runs -/
structure AddB (N b0 ga gb : Nat) (w0 : World) (s1 s2 : Bool) (a1 a2 d1 d2 : Option Addr) (na1 ca1 mn1 na2 ca2 mn2 nd1 cd1 md1 nd2 cd2 md2 : Nat) (w : World) : Prop where
  fa0 : w.cell? ⟨ga, 0, none⟩ = some (.bool s1)
  fa1 : w.cell? ⟨ga, 1, none⟩ = some (.slice a1 na1 ca1)
  fb0 : w.cell? ⟨gb, 0, none⟩ = some (.bool s2)
  fb1 : w.cell? ⟨gb, 1, none⟩ = some (.slice a2 na2 ca2)
  fna : Nt N w a1 na1 ca1 mn1
  fnb : Nt N w a2 na2 ca2 mn2
  fda : Nt N w d1 nd1 cd1 md1
  fdb : Nt N w d2 nd2 cd2 md2
  res : Bk w (b0 + 2) 28 3
  sz : N ≤ w.heap.size
  bel : Below b0 w0 w
  szb : b0 + 3 ≤ w.heap.size
theorem cell_mono {w w' : World} {b o : Nat} {v : Value} (h : w.cell? ⟨b, o, none⟩ = some v) (hb : Below w.heap.size w w') : w'.cell? ⟨b, o, none⟩ = some v := (hb.cell (p := ⟨b, o, none⟩) (World.block_lt_of_cell? w _ h)).trans h
theorem AddB.below {N b0 ga gb : Nat} {w0 : World} {s1 s2 : Bool} {a1 a2 d1 d2 : Option Addr} {na1 ca1 mn1 na2 ca2 mn2 nd1 cd1 md1 nd2 cd2 md2 : Nat} {w w' : World} (h : AddB N b0 ga gb w0 s1 s2 a1 a2 d1 d2 na1 ca1 mn1 na2 ca2 mn2 nd1 cd1 md1 nd2 cd2 md2 w) (hb : Below w.heap.size w w') :
    AddB N b0 ga gb w0 s1 s2 a1 a2 d1 d2 na1 ca1 mn1 na2 ca2 mn2 nd1 cd1 md1 nd2 cd2 md2 w' :=
  ⟨cell_mono h.fa0 hb, cell_mono h.fa1 hb, cell_mono h.fb0 hb, cell_mono h.fb1 hb, h.fna.below hb, h.fnb.below hb, h.fda.below hb, h.fdb.below hb, h.res.below hb, Nat.le_trans h.sz hb.size, h.bel.trans (hb.mono (by have := h.szb; omega)), Nat.le_trans h.szb hb.size⟩

/-- what holds behind 'num := ..' -/
def AddCut (N b0 : Nat) (w0 : World) (x : Int) (d1 d2 : Option Addr) (nd1 cd1 md1 nd2 cd2 md2 : Nat) (s9 : Value) (w : World) : Prop :=
  ∃ g r c, s9 = .pointer (some ⟨g, 0, none⟩) ∧ b0 + 3 ≤ g ∧ w.cell? ⟨g, 0, none⟩ = some (.bool (decide (x < 0))) ∧ w.cell? ⟨g, 1, none⟩ = some (.slice r (nlen x.natAbs) c) ∧
    Nt N w r (nlen x.natAbs) c x.natAbs ∧ Nt N w d1 nd1 cd1 md1 ∧ Nt N w d2 nd2 cd2 md2 ∧ Bk w (b0 + 2) 28 3 ∧ Below b0 w0 w ∧ N ≤ w.heap.size

def AddJ (N b0 ga gb : Nat) (w0 : World) (s1 s2 : Bool) (a1 a2 d1 d2 : Option Addr) (na1 ca1 mn1 na2 ca2 mn2 nd1 cd1 md1 nd2 cd2 md2 : Nat) (x1 x2 x : Int) (z0 : Act) (L : Nat → Bool) (a : Act) (w : World) : Prop :=
  ∃ u20 u21 u22 u23 u24 u25 u26 u27 u28 u9, a = ((((((((((z0.put (some 20) u20).put (some 21) u21).put (some 22) u22).put (some 23) u23).put (some 24) u24).put (some 25) u25).put (some 26) u26).put (some 27) u27).put (some 28) u28).put (some 9) u9) ∧
    ((L 10 = false ∧ AddB N b0 ga gb w0 s1 s2 a1 a2 d1 d2 na1 ca1 mn1 na2 ca2 mn2 nd1 cd1 md1 nd2 cd2 md2 w ∧ (L 0 = true → u20 = .agg #[.bool s1, .slice a1 na1 ca1]) ∧ (L 1 = true → u21 = .slice d2 nd2 cd2) ∧ (L 2 = true → IsWh N md2 u22 w) ∧ (L 3 = true → IsInt N x1 u23 w) ∧ (L 4 = true → u24 = .agg #[.bool s2, .slice a2 na2 ca2]) ∧ (L 5 = true → u25 = .slice d1 nd1 cd1) ∧ (L 6 = true → IsWh N md1 u26 w) ∧ (L 7 = true → IsInt N x2 u27 w) ∧ (L 8 = true → IsInt N x u28 w) ∧ (L 9 = true → IsBox (b0 + 3) 26 2 u9 w)) ∨
     (L 10 = true ∧ (∀ j, j < 10 → L j = true) ∧ AddCut N b0 w0 x d1 d2 nd1 cd1 md1 nd2 cd2 md2 u9 w))

set_option maxHeartbeats 4000000 in
theorem radd_any {N : Nat} (s s' : Bool) (a d a' d' : Option Addr) (na ca nd cd na' ca' nd' cd' L L' : Nat) (q q' : Rat) (w : World) (hN : N ≤ w.heap.size) (h : Rt N w s a na ca d nd cd q L) (h' : Rt N w s' a' na' ca' d' nd' cd' q' L') (hL : L ≤ 68719476736) (hL' : L' ≤ 68719476736) (p : Rat) (hp : q + q' = p) :
    Calls Tryz.prog 72 #[.agg #[.bool s, .slice a na ca, .slice d nd cd], .agg #[.bool s', .slice a' na' ca', .slice d' nd' cd']] w (RatPost N w p) := by
  have H := Lib.hid (((h.alloc (.cells #[.bool s, .slice a na ca, .slice d nd cd] 28)).alloc (.cells #[.bool s', .slice a' na' ca', .slice d' nd' cd'] 28)).alloc (.cells #[.bool false, .slice none 0 0, .slice none 0 0] 28))
  have H' := Lib.hid (((h'.alloc (.cells #[.bool s, .slice a na ca, .slice d nd cd] 28)).alloc (.cells #[.bool s', .slice a' na' ca', .slice d' nd' cd'] 28)).alloc (.cells #[.bool false, .slice none 0 0, .slice none 0 0] 28))
  have HP := Lib.hid hp
  clear h h' hp
  go_enter Tryz.func72, Tryz.ntmps72
  go_wp2_with fail
  refine (parts_any (N := N) _ _ _ _ _ _ _ L q _ (by simp; omega) H.out).mono ?_
  rintro e wa ⟨s1, a1, na1, ca1, d1, nd1, cd1, mn1, md1, rfl, hn, hn', hp1, hq1, l1, l1', hb⟩
  obtain ⟨hcwa, hfwa⟩ := bcell hb
  have hzwa0 : w.heap.size < wa.heap.size := by have := hb.size; (try simp at this); omega
  have hzwa1 : w.heap.size + 1 < wa.heap.size := by have := hb.size; (try simp at this); omega
  have hzwa2 : w.heap.size + 2 < wa.heap.size := by have := hb.size; (try simp at this); omega
  have HBwa := Lib.hid hb
  have HNwa := Lib.hid hn
  have HN'wa := Lib.hid hn'
  clear hb hn hn'
  go_wp2_with fail
  refine (parts_any (N := N) _ _ _ _ _ _ _ L' q' _ (by simp; omega) ((H'.out.below HBwa.out).alloc _)).mono ?_
  rintro e wb ⟨s2, a2, na2, ca2, d2, nd2, cd2, mn2, md2, rfl, hn, hn', hp2, hq2, l2, l2', hb⟩
  obtain ⟨hcwb, hfwb⟩ := bcell hb
  have hzwb0 : w.heap.size < wb.heap.size := by have := hb.size; (try simp at this); omega
  have hzwb1 : w.heap.size + 1 < wb.heap.size := by have := hb.size; (try simp at this); omega
  have hzwb2 : w.heap.size + 2 < wb.heap.size := by have := hb.size; (try simp at this); omega
  have hzwb3 : wa.heap.size < wb.heap.size := by have := hb.size; (try simp at this); omega
  have HBwb := Lib.hid hb
  have HNwb := Lib.hid hn
  have HN'wb := Lib.hid hn'
  clear hb hn hn'
  have b1 := nlen_bound HNwa.out _ l1
  have b2 := nlen_bound HNwb.out _ l2
  have b3 := nlen_bound HN'wa.out _ l1'
  have b4 := nlen_bound HN'wb.out _ l2'
  obtain ⟨x1, hx1⟩ : ∃ z, zI s1 mn1 * zI false md2 = z := ⟨_, rfl⟩
  obtain ⟨x2, hx2⟩ : ∃ z, zI s2 mn2 * zI false md1 = z := ⟨_, rfl⟩
  have lx1 := nlen_imul hx1
  have lx2 := nlen_imul hx2
  obtain ⟨x, hx⟩ : ∃ x, zI (decide (x1 < 0)) x1.natAbs + zI (decide (x2 < 0)) x2.natAbs = x := ⟨_, rfl⟩
  have lx := nlen_iadd hx
  have HQ := Lib.hid (add_mk (zI s1 mn1) (zI s2 mn2) x1 x2 x md1 md2 hp1 hp2 q q' p hq1 hq2 HP.out hx1 hx2 hx)
  have HX1 := Lib.hid hx1
  have HX2 := Lib.hid hx2
  have HX := Lib.hid hx
  have lm := nlen_mul md1 md2
  clear hq1 hq2 hx1 hx2 hx
  go_upto_region 3 with fail
  go_cut [9] (fun s9 wx => AddCut N w.heap.size w x d1 d2 nd1 cd1 md1 nd2 cd2 md2 s9 wx)
  case first =>
    refine region_inv2 (by kernel_rfl) (AddJ N w.heap.size wa.heap.size wb.heap.size w s1 s2 a1 a2 d1 d2 na1 ca1 mn1 na2 ca2 mn2 nd1 cd1 md1 nd2 cd2 md2 x1 x2 x) ?_ ?_ ?_ ?_
    · refine ⟨undef, undef, undef, undef, undef, undef, undef, undef, undef, undef, by simp only [Act.put, List.setIfInBounds_toArray, List.set_cons_zero, List.set_cons_succ], .inl ⟨rfl, ?_, (fun h => by cases h), (fun h => by cases h), (fun h => by cases h), (fun h => by cases h), (fun h => by cases h), (fun h => by cases h), (fun h => by cases h), (fun h => by cases h), (fun h => by cases h), (fun h => by cases h)⟩⟩
      refine ⟨by go_simp, by go_simp, by go_simp, by go_simp, (HNwa.out.below (bel_of_alloc HBwb.out)).alloc _, HNwb.out.alloc _, (HN'wa.out.below (bel_of_alloc HBwb.out)).alloc _, HN'wb.out.alloc _, ?_, by simp; omega, ?_, by simp; omega⟩
      · exact (((Bk.new' ((w.alloc (.cells #[.bool s, .slice a na ca, .slice d nd cd] 28)).alloc (.cells #[.bool s', .slice a' na' ca', .slice d' nd' cd'] 28)) #[.bool false, .slice none 0 0, .slice none 0 0] 28 (w.heap.size + 2) (by simp)).below HBwa.out).below (bel_of_alloc HBwb.out)).below (bel1 wb _).drew
      · exact ((((bel3 w _ _ _).trans (HBwa.out.mono (by first | omega | (simp; done) | (simp; omega)))).trans ((bel_of_alloc HBwb.out).mono (by first | omega | (simp; done) | (simp; omega))))).trans ((bel1 wb _).drew.mono (by omega))
    · exact acyc_spec (by kernel_rfl)
    · intro L a0 wq i o ho hLi hafter hJ
      obtain ⟨u20, u21, u22, u23, u24, u25, u26, u27, u28, u9, rfl, hJ | ⟨h10, hall, _⟩⟩ := hJ
      · obtain ⟨hL10, hB, p0, p1, p2, p3, p4, p5, p6, p7, p8, p9⟩ := hJ
        have hi : i < 11 := (Array.getElem?_eq_some_iff.1 ho).1
        obtain rfl | rfl | rfl | rfl | rfl | rfl | rfl | rfl | rfl | rfl | rfl : i = 0 ∨ i = 1 ∨ i = 2 ∨ i = 3 ∨ i = 4 ∨ i = 5 ∨ i = 6 ∨ i = 7 ∨ i = 8 ∨ i = 9 ∨ i = 10 := by omega
        · simp only [List.getElem?_toArray, List.getElem?_cons_zero, Option.some.injEq] at ho
          subst ho
          have c0 := hB.fa0
          have c1 := hB.fa1
          have P0 := Lib.hid p0
          have P1 := Lib.hid p1
          have P2 := Lib.hid p2
          have P3 := Lib.hid p3
          have P4 := Lib.hid p4
          have P5 := Lib.hid p5
          have P6 := Lib.hid p6
          have P7 := Lib.hid p7
          have P8 := Lib.hid p8
          have P9 := Lib.hid p9
          have HB := Lib.hid hB
          clear hB hLi hafter p0 p1 p2 p3 p4 p5 p6 p7 p8 p9
          simp only [Act.put, List.setIfInBounds_toArray, List.set_cons_zero, List.set_cons_succ]
          go_wp2_with fail
          exact ⟨.agg #[.bool s1, .slice a1 na1 ca1], u21, u22, u23, u24, u25, u26, u27, u28, u9, by simp only [Act.put, List.setIfInBounds_toArray, List.set_cons_zero, List.set_cons_succ], .inl ⟨by simpa using hL10, HB.out, (fun _ => rfl), (fun h => by first | rfl | exact P1.out (by simpa using h)), (fun h => P2.out (by simpa using h)), (fun h => P3.out (by simpa using h)), (fun h => by first | rfl | exact P4.out (by simpa using h)), (fun h => by first | rfl | exact P5.out (by simpa using h)), (fun h => P6.out (by simpa using h)), (fun h => P7.out (by simpa using h)), (fun h => P8.out (by simpa using h)), (fun h => P9.out (by simpa using h))⟩⟩
        · simp only [List.getElem?_toArray, List.getElem?_cons_zero, List.getElem?_cons_succ, Option.some.injEq] at ho
          subst ho
          have P0 := Lib.hid p0
          have P1 := Lib.hid p1
          have P2 := Lib.hid p2
          have P3 := Lib.hid p3
          have P4 := Lib.hid p4
          have P5 := Lib.hid p5
          have P6 := Lib.hid p6
          have P7 := Lib.hid p7
          have P8 := Lib.hid p8
          have P9 := Lib.hid p9
          have HB := Lib.hid hB
          clear hB hLi hafter p0 p1 p2 p3 p4 p5 p6 p7 p8 p9
          simp only [Act.put, List.setIfInBounds_toArray, List.set_cons_zero, List.set_cons_succ]
          go_wp2_with fail
          exact ⟨u20, .slice d2 nd2 cd2, u22, u23, u24, u25, u26, u27, u28, u9, by simp only [Act.put, List.setIfInBounds_toArray, List.set_cons_zero, List.set_cons_succ], .inl ⟨by simpa using hL10, HB.out, (fun h => by first | rfl | exact P0.out (by simpa using h)), (fun _ => rfl), (fun h => P2.out (by simpa using h)), (fun h => P3.out (by simpa using h)), (fun h => by first | rfl | exact P4.out (by simpa using h)), (fun h => by first | rfl | exact P5.out (by simpa using h)), (fun h => P6.out (by simpa using h)), (fun h => P7.out (by simpa using h)), (fun h => P8.out (by simpa using h)), (fun h => P9.out (by simpa using h))⟩⟩
        · simp only [List.getElem?_toArray, List.getElem?_cons_zero, List.getElem?_cons_succ, Option.some.injEq] at ho
          subst ho
          obtain rfl := p1 (hafter ⟨1, .data⟩ (by simp) rfl)
          have P0 := Lib.hid p0
          have P1 := Lib.hid p1
          have P2 := Lib.hid p2
          have P3 := Lib.hid p3
          have P4 := Lib.hid p4
          have P5 := Lib.hid p5
          have P6 := Lib.hid p6
          have P7 := Lib.hid p7
          have P8 := Lib.hid p8
          have P9 := Lib.hid p9
          have HB := Lib.hid hB
          clear hB hLi hafter p0 p1 p2 p3 p4 p5 p6 p7 p8 p9
          simp only [Act.put, List.setIfInBounds_toArray, List.set_cons_zero, List.set_cons_succ]
          go_wp2_with fail
          refine (whole_any (N := N) _ _ _ md2 _ HB.out.sz HB.out.fdb (by omega)).mono ?_
          rintro e wc ⟨r, c, rfl, hn, hb⟩
          have HN := Lib.hid hn
          have Hb := Lib.hid hb
          clear hn hb
          go_wp2_with fail
          exact ⟨u20, .slice d2 nd2 cd2, _, u23, u24, u25, u26, u27, u28, u9, by simp only [Act.put, List.setIfInBounds_toArray, List.set_cons_zero, List.set_cons_succ], .inl ⟨by simpa using hL10, HB.out.below Hb.out, (fun h => by first | rfl | exact P0.out (by simpa using h)), (fun h => by first | rfl | exact P1.out (by simpa using h)), (fun _ => ⟨r, c, rfl, HN.out⟩), (fun h => (P3.out (by simpa using h)).below Hb.out), (fun h => by first | rfl | exact P4.out (by simpa using h)), (fun h => by first | rfl | exact P5.out (by simpa using h)), (fun h => (P6.out (by simpa using h)).below Hb.out), (fun h => (P7.out (by simpa using h)).below Hb.out), (fun h => (P8.out (by simpa using h)).below Hb.out), (fun h => (P9.out (by simpa using h)).below Hb.out)⟩⟩
        · simp only [List.getElem?_toArray, List.getElem?_cons_zero, List.getElem?_cons_succ, Option.some.injEq] at ho
          subst ho
          obtain rfl := p0 (hafter ⟨0, .data⟩ (by simp) rfl)
          obtain ⟨r0, c0, rfl, hn0⟩ := p2 (hafter ⟨2, .data⟩ (by simp) rfl)
          have HN0 := Lib.hid hn0
          clear hn0
          have P0 := Lib.hid p0
          have P1 := Lib.hid p1
          have P2 := Lib.hid p2
          have P3 := Lib.hid p3
          have P4 := Lib.hid p4
          have P5 := Lib.hid p5
          have P6 := Lib.hid p6
          have P7 := Lib.hid p7
          have P8 := Lib.hid p8
          have P9 := Lib.hid p9
          have HB := Lib.hid hB
          clear hB hLi hafter p0 p1 p2 p3 p4 p5 p6 p7 p8 p9
          simp only [Act.put, List.setIfInBounds_toArray, List.set_cons_zero, List.set_cons_succ]
          go_wp2_with fail
          refine (imul_any (N := N) s1 false _ _ _ _ mn1 _ _ md2 _ HB.out.sz HB.out.fna HN0.out (by omega) (by omega) x1 HX1.out).mono ?_
          rintro e wc ⟨r, c, rfl, hn, hb⟩
          have HN := Lib.hid hn
          have Hb := Lib.hid hb
          clear hn hb
          go_wp2_with fail
          exact ⟨.agg #[.bool s1, .slice a1 na1 ca1], u21, _, _, u24, u25, u26, u27, u28, u9, by simp only [Act.put, List.setIfInBounds_toArray, List.set_cons_zero, List.set_cons_succ], .inl ⟨by simpa using hL10, HB.out.below Hb.out, (fun h => by first | rfl | exact P0.out (by simpa using h)), (fun h => by first | rfl | exact P1.out (by simpa using h)), (fun h => (P2.out (by simpa using h)).below Hb.out), (fun _ => ⟨r, c, rfl, HN.out⟩), (fun h => by first | rfl | exact P4.out (by simpa using h)), (fun h => by first | rfl | exact P5.out (by simpa using h)), (fun h => (P6.out (by simpa using h)).below Hb.out), (fun h => (P7.out (by simpa using h)).below Hb.out), (fun h => (P8.out (by simpa using h)).below Hb.out), (fun h => (P9.out (by simpa using h)).below Hb.out)⟩⟩
        · simp only [List.getElem?_toArray, List.getElem?_cons_zero, List.getElem?_cons_succ, Option.some.injEq] at ho
          subst ho
          have c0 := hB.fb0
          have c1 := hB.fb1
          have P0 := Lib.hid p0
          have P1 := Lib.hid p1
          have P2 := Lib.hid p2
          have P3 := Lib.hid p3
          have P4 := Lib.hid p4
          have P5 := Lib.hid p5
          have P6 := Lib.hid p6
          have P7 := Lib.hid p7
          have P8 := Lib.hid p8
          have P9 := Lib.hid p9
          have HB := Lib.hid hB
          clear hB hLi hafter p0 p1 p2 p3 p4 p5 p6 p7 p8 p9
          simp only [Act.put, List.setIfInBounds_toArray, List.set_cons_zero, List.set_cons_succ]
          go_wp2_with fail
          exact ⟨u20, u21, u22, u23, .agg #[.bool s2, .slice a2 na2 ca2], u25, u26, u27, u28, u9, by simp only [Act.put, List.setIfInBounds_toArray, List.set_cons_zero, List.set_cons_succ], .inl ⟨by simpa using hL10, HB.out, (fun h => by first | rfl | exact P0.out (by simpa using h)), (fun h => by first | rfl | exact P1.out (by simpa using h)), (fun h => P2.out (by simpa using h)), (fun h => P3.out (by simpa using h)), (fun _ => rfl), (fun h => by first | rfl | exact P5.out (by simpa using h)), (fun h => P6.out (by simpa using h)), (fun h => P7.out (by simpa using h)), (fun h => P8.out (by simpa using h)), (fun h => P9.out (by simpa using h))⟩⟩
        · simp only [List.getElem?_toArray, List.getElem?_cons_zero, List.getElem?_cons_succ, Option.some.injEq] at ho
          subst ho
          have P0 := Lib.hid p0
          have P1 := Lib.hid p1
          have P2 := Lib.hid p2
          have P3 := Lib.hid p3
          have P4 := Lib.hid p4
          have P5 := Lib.hid p5
          have P6 := Lib.hid p6
          have P7 := Lib.hid p7
          have P8 := Lib.hid p8
          have P9 := Lib.hid p9
          have HB := Lib.hid hB
          clear hB hLi hafter p0 p1 p2 p3 p4 p5 p6 p7 p8 p9
          simp only [Act.put, List.setIfInBounds_toArray, List.set_cons_zero, List.set_cons_succ]
          go_wp2_with fail
          exact ⟨u20, u21, u22, u23, u24, .slice d1 nd1 cd1, u26, u27, u28, u9, by simp only [Act.put, List.setIfInBounds_toArray, List.set_cons_zero, List.set_cons_succ], .inl ⟨by simpa using hL10, HB.out, (fun h => by first | rfl | exact P0.out (by simpa using h)), (fun h => by first | rfl | exact P1.out (by simpa using h)), (fun h => P2.out (by simpa using h)), (fun h => P3.out (by simpa using h)), (fun h => by first | rfl | exact P4.out (by simpa using h)), (fun _ => rfl), (fun h => P6.out (by simpa using h)), (fun h => P7.out (by simpa using h)), (fun h => P8.out (by simpa using h)), (fun h => P9.out (by simpa using h))⟩⟩
        · simp only [List.getElem?_toArray, List.getElem?_cons_zero, List.getElem?_cons_succ, Option.some.injEq] at ho
          subst ho
          obtain rfl := p5 (hafter ⟨5, .data⟩ (by simp) rfl)
          have P0 := Lib.hid p0
          have P1 := Lib.hid p1
          have P2 := Lib.hid p2
          have P3 := Lib.hid p3
          have P4 := Lib.hid p4
          have P5 := Lib.hid p5
          have P6 := Lib.hid p6
          have P7 := Lib.hid p7
          have P8 := Lib.hid p8
          have P9 := Lib.hid p9
          have HB := Lib.hid hB
          clear hB hLi hafter p0 p1 p2 p3 p4 p5 p6 p7 p8 p9
          simp only [Act.put, List.setIfInBounds_toArray, List.set_cons_zero, List.set_cons_succ]
          go_wp2_with fail
          refine (whole_any (N := N) _ _ _ md1 _ HB.out.sz HB.out.fda (by omega)).mono ?_
          rintro e wc ⟨r, c, rfl, hn, hb⟩
          have HN := Lib.hid hn
          have Hb := Lib.hid hb
          clear hn hb
          go_wp2_with fail
          exact ⟨u20, u21, u22, u23, u24, .slice d1 nd1 cd1, _, u27, u28, u9, by simp only [Act.put, List.setIfInBounds_toArray, List.set_cons_zero, List.set_cons_succ], .inl ⟨by simpa using hL10, HB.out.below Hb.out, (fun h => by first | rfl | exact P0.out (by simpa using h)), (fun h => by first | rfl | exact P1.out (by simpa using h)), (fun h => (P2.out (by simpa using h)).below Hb.out), (fun h => (P3.out (by simpa using h)).below Hb.out), (fun h => by first | rfl | exact P4.out (by simpa using h)), (fun h => by first | rfl | exact P5.out (by simpa using h)), (fun _ => ⟨r, c, rfl, HN.out⟩), (fun h => (P7.out (by simpa using h)).below Hb.out), (fun h => (P8.out (by simpa using h)).below Hb.out), (fun h => (P9.out (by simpa using h)).below Hb.out)⟩⟩
        · simp only [List.getElem?_toArray, List.getElem?_cons_zero, List.getElem?_cons_succ, Option.some.injEq] at ho
          subst ho
          obtain rfl := p4 (hafter ⟨4, .data⟩ (by simp) rfl)
          obtain ⟨r0, c0, rfl, hn0⟩ := p6 (hafter ⟨6, .data⟩ (by simp) rfl)
          have HN0 := Lib.hid hn0
          clear hn0
          have P0 := Lib.hid p0
          have P1 := Lib.hid p1
          have P2 := Lib.hid p2
          have P3 := Lib.hid p3
          have P4 := Lib.hid p4
          have P5 := Lib.hid p5
          have P6 := Lib.hid p6
          have P7 := Lib.hid p7
          have P8 := Lib.hid p8
          have P9 := Lib.hid p9
          have HB := Lib.hid hB
          clear hB hLi hafter p0 p1 p2 p3 p4 p5 p6 p7 p8 p9
          simp only [Act.put, List.setIfInBounds_toArray, List.set_cons_zero, List.set_cons_succ]
          go_wp2_with fail
          refine (imul_any (N := N) s2 false _ _ _ _ mn2 _ _ md1 _ HB.out.sz HB.out.fnb HN0.out (by omega) (by omega) x2 HX2.out).mono ?_
          rintro e wc ⟨r, c, rfl, hn, hb⟩
          have HN := Lib.hid hn
          have Hb := Lib.hid hb
          clear hn hb
          go_wp2_with fail
          exact ⟨u20, u21, u22, u23, .agg #[.bool s2, .slice a2 na2 ca2], u25, _, _, u28, u9, by simp only [Act.put, List.setIfInBounds_toArray, List.set_cons_zero, List.set_cons_succ], .inl ⟨by simpa using hL10, HB.out.below Hb.out, (fun h => by first | rfl | exact P0.out (by simpa using h)), (fun h => by first | rfl | exact P1.out (by simpa using h)), (fun h => (P2.out (by simpa using h)).below Hb.out), (fun h => (P3.out (by simpa using h)).below Hb.out), (fun h => by first | rfl | exact P4.out (by simpa using h)), (fun h => by first | rfl | exact P5.out (by simpa using h)), (fun h => (P6.out (by simpa using h)).below Hb.out), (fun _ => ⟨r, c, rfl, HN.out⟩), (fun h => (P8.out (by simpa using h)).below Hb.out), (fun h => (P9.out (by simpa using h)).below Hb.out)⟩⟩
        · simp only [List.getElem?_toArray, List.getElem?_cons_zero, List.getElem?_cons_succ, Option.some.injEq] at ho
          subst ho
          obtain ⟨r0, c0, rfl, hn0⟩ := p3 (hafter ⟨3, .data⟩ (by simp) rfl)
          obtain ⟨r1, c1, rfl, hn1⟩ := p7 (hafter ⟨7, .data⟩ (by simp) rfl)
          have HN0 := Lib.hid hn0
          have HN1 := Lib.hid hn1
          clear hn0 hn1
          have P0 := Lib.hid p0
          have P1 := Lib.hid p1
          have P2 := Lib.hid p2
          have P3 := Lib.hid p3
          have P4 := Lib.hid p4
          have P5 := Lib.hid p5
          have P6 := Lib.hid p6
          have P7 := Lib.hid p7
          have P8 := Lib.hid p8
          have P9 := Lib.hid p9
          have HB := Lib.hid hB
          clear hB hLi hafter p0 p1 p2 p3 p4 p5 p6 p7 p8 p9
          simp only [Act.put, List.setIfInBounds_toArray, List.set_cons_zero, List.set_cons_succ]
          go_wp2_with fail
          refine (iadd_any (N := N) _ _ _ _ _ _ x1.natAbs _ _ x2.natAbs _ HB.out.sz HN0.out HN1.out (by omega) (by omega) x HX.out).mono ?_
          rintro e wc ⟨r, c, rfl, hn, hb⟩
          have HN := Lib.hid hn
          have Hb := Lib.hid hb
          clear hn hb
          go_wp2_with fail
          exact ⟨u20, u21, u22, _, u24, u25, u26, _, _, u9, by simp only [Act.put, List.setIfInBounds_toArray, List.set_cons_zero, List.set_cons_succ], .inl ⟨by simpa using hL10, HB.out.below Hb.out, (fun h => by first | rfl | exact P0.out (by simpa using h)), (fun h => by first | rfl | exact P1.out (by simpa using h)), (fun h => (P2.out (by simpa using h)).below Hb.out), (fun h => (P3.out (by simpa using h)).below Hb.out), (fun h => by first | rfl | exact P4.out (by simpa using h)), (fun h => by first | rfl | exact P5.out (by simpa using h)), (fun h => (P6.out (by simpa using h)).below Hb.out), (fun h => (P7.out (by simpa using h)).below Hb.out), (fun _ => ⟨r, c, rfl, HN.out⟩), (fun h => (P9.out (by simpa using h)).below Hb.out)⟩⟩
        · simp only [List.getElem?_toArray, List.getElem?_cons_zero, List.getElem?_cons_succ, Option.some.injEq] at ho
          subst ho
          have P0 := Lib.hid p0
          have P1 := Lib.hid p1
          have P2 := Lib.hid p2
          have P3 := Lib.hid p3
          have P4 := Lib.hid p4
          have P5 := Lib.hid p5
          have P6 := Lib.hid p6
          have P7 := Lib.hid p7
          have P8 := Lib.hid p8
          have P9 := Lib.hid p9
          have HB := Lib.hid hB
          clear hB hLi hafter p0 p1 p2 p3 p4 p5 p6 p7 p8 p9
          simp only [Act.put, List.setIfInBounds_toArray, List.set_cons_zero, List.set_cons_succ]
          go_wp2_with fail
          exact ⟨u20, u21, u22, u23, u24, u25, u26, u27, u28, _, by simp only [Act.put, List.setIfInBounds_toArray, List.set_cons_zero, List.set_cons_succ], .inl ⟨by simpa using hL10, HB.out.below (bel1 wq (.cells #[.bool false, .slice none 0 0] 26)), (fun h => by first | rfl | exact P0.out (by simpa using h)), (fun h => by first | rfl | exact P1.out (by simpa using h)), (fun h => (P2.out (by simpa using h)).below (bel1 wq (.cells #[.bool false, .slice none 0 0] 26))), (fun h => (P3.out (by simpa using h)).below (bel1 wq (.cells #[.bool false, .slice none 0 0] 26))), (fun h => by first | rfl | exact P4.out (by simpa using h)), (fun h => by first | rfl | exact P5.out (by simpa using h)), (fun h => (P6.out (by simpa using h)).below (bel1 wq (.cells #[.bool false, .slice none 0 0] 26))), (fun h => (P7.out (by simpa using h)).below (bel1 wq (.cells #[.bool false, .slice none 0 0] 26))), (fun h => (P8.out (by simpa using h)).below (bel1 wq (.cells #[.bool false, .slice none 0 0] 26))), (fun _ => ⟨wq.heap.size, rfl, HB.out.szb, Bk.new _ _ _⟩)⟩⟩
        · simp only [List.getElem?_toArray, List.getElem?_cons_zero, List.getElem?_cons_succ, Option.some.injEq] at ho
          subst ho
          have hall : ∀ j, j < 10 → L j = true := by
            intro j hj
            obtain rfl | rfl | rfl | rfl | rfl | rfl | rfl | rfl | rfl | rfl : j = 0 ∨ j = 1 ∨ j = 2 ∨ j = 3 ∨ j = 4 ∨ j = 5 ∨ j = 6 ∨ j = 7 ∨ j = 8 ∨ j = 9 := by omega
            all_goals exact hafter ⟨_, .phase⟩ (by simp) rfl
          have HALL := Lib.hid hall
          clear hall
          obtain ⟨r0, c0, rfl, hn0⟩ := p8 (hafter ⟨8, .data⟩ (by simp) rfl)
          obtain ⟨g, rfl, hg, hbk⟩ := p9 (hafter ⟨9, .data⟩ (by simp) rfl)
          obtain ⟨v0, hv0⟩ := hbk.cell (o := 0) (by omega)
          obtain ⟨v1, hv1⟩ := hbk.cell (o := 1) (by omega)
          have f0 := hbk.frozen 0
          have f1 := hbk.frozen 1
          have HK := Lib.hid hbk
          have HN0 := Lib.hid hn0
          clear hbk hn0
          have P0 := Lib.hid p0
          have P1 := Lib.hid p1
          have P2 := Lib.hid p2
          have P3 := Lib.hid p3
          have P4 := Lib.hid p4
          have P5 := Lib.hid p5
          have P6 := Lib.hid p6
          have P7 := Lib.hid p7
          have P8 := Lib.hid p8
          have P9 := Lib.hid p9
          have HB := Lib.hid hB
          clear hB hLi hafter p0 p1 p2 p3 p4 p5 p6 p7 p8 p9
          simp only [Act.put, List.setIfInBounds_toArray, List.set_cons_zero, List.set_cons_succ]
          go_wp2_with fail
          refine ⟨u20, u21, u22, u23, u24, u25, u26, u27, .agg #[.bool (decide (x < 0)), .slice r0 (nlen x.natAbs) c0], .pointer (some ⟨g, 0, none⟩), by simp only [Act.put, List.setIfInBounds_toArray, List.set_cons_zero, List.set_cons_succ], .inr ⟨by simp, fun j hj => by simp [HALL.out j hj], g, r0, c0, rfl, hg, (set2_cells hv0 hv1).1, (set2_cells hv0 hv1).2, (fin2 hN (by omega) HK.out.bx HN0.out HB.out.bel _ _).1, (fin2 hN (by omega) HK.out.bx HB.out.fda HB.out.bel _ _).1, (fin2 hN (by omega) HK.out.bx HB.out.fdb HB.out.bel _ _).1, (HB.out.res.set _ _).set _ _, (fin2 hN (by omega) HK.out.bx HB.out.fdb HB.out.bel _ _).2, by simpa [World.setCell] using HB.out.sz⟩⟩
      · exfalso
        have hi : i < 11 := (Array.getElem?_eq_some_iff.1 ho).1
        rcases Nat.lt_or_ge i 10 with h | h
        · rw [hall i h] at hLi; cases hLi
        · obtain rfl : i = 10 := by omega
          rw [h10] at hLi; cases hLi
    · intro L a0 wq hall hJ
      obtain ⟨u20, u21, u22, u23, u24, u25, u26, u27, u28, u9, rfl, ⟨h10, _⟩ | ⟨_, _, hcut⟩⟩ := hJ
      · rw [hall 10 (by decide)] at h10; cases h10
      · have HC := Lib.hid hcut
        clear hcut
        simp only [Act.put, List.setIfInBounds_toArray, List.set_cons_zero, List.set_cons_succ]
        go_wp2_with fail
        go_meet
        exact HC.out
  case rest =>
    obtain ⟨g, r, c, rfl, hg, k0, k1, hnr, hda, hdb, hres, hbel, hsz⟩ := hcut
    obtain ⟨v0, r0⟩ := hres.cell (o := 0) (by omega)
    obtain ⟨v1, r1⟩ := hres.cell (o := 1) (by omega)
    obtain ⟨v2, r2⟩ := hres.cell (o := 2) (by omega)
    have fr := hres.frozen
    have hgl : g < wc.heap.size := World.block_lt_of_cell? wc _ k0
    have hrl := hres.lt
    have r0' : wc.cell? ⟨w.heap.size + 1 + 1, 0, none⟩ = some v0 := r0
    have r1' : wc.cell? ⟨w.heap.size + 1 + 1, 1, none⟩ = some v1 := r1
    have r2' : wc.cell? ⟨w.heap.size + 1 + 1, 2, none⟩ = some v2 := r2
    have fr' : ∀ o, wc.frozen? ⟨w.heap.size + 1 + 1, o, none⟩ = false := fr
    have hrl' : w.heap.size + 1 + 1 < wc.heap.size := hrl
    have HNR := Lib.hid hnr
    have HDA := Lib.hid hda
    have HDB := Lib.hid hdb
    have HRES := Lib.hid hres
    have HBEL := Lib.hid hbel
    clear hnr hda hdb hres hbel hcwa hfwa hcwb hfwb HBwa HBwb HNwa HN'wa HNwb HN'wb H H'
    go_wp2_with fail
    go_region_held3 (fun w' => w'.cell? ⟨g, 0, none⟩ = some (.bool (decide (x < 0))) ∧ w'.cell? ⟨g, 1, none⟩ = some (.slice r (nlen x.natAbs) c))
      (first | (go_keep; done) | ((try dsimp only); (repeat' apply And.intro) <;> (first | (go_keep; done) | (exact cell_keep_alloc_drew (by first | omega | (simp; omega)) (by first | assumption | go_simp)) | (exact cell_keep_alloc (by first | omega | (simp; omega)) (by first | assumption | go_simp)) | (rw [cell_set2 _ _ _ _ _ _ _ _ (by omega)]; assumption) | (rw [cell_set3 _ _ _ _ _ _ _ _ _ _ (by omega)]; assumption))))
      (first
        | (go_at_call 43; refine (mul_any (N := N) _ _ _ _ md1 _ _ md2 _ (by exact hsz) (by exact HDA.out) (by exact HDB.out) (by omega) (by omega)).mono ?_; rintro e wd ⟨rd, cd3, rfl, hn, hb⟩; have kwd0 : wd.cell? ⟨g, 0, none⟩ = some (.bool (decide (x < 0))) := (hb.cell (p := ⟨g, 0, none⟩) (by first | (simp; done) | (simp; omega))).trans (by go_simp); have kwd1 : wd.cell? ⟨g, 1, none⟩ = some (.slice r (nlen x.natAbs) c) := (hb.cell (p := ⟨g, 1, none⟩) (by first | (simp; done) | (simp; omega))).trans (by go_simp); have hzwd0 : g < wd.heap.size := (by have := hb.size; (try simp at this); omega); have hzwd1 : w.heap.size + 2 < wd.heap.size := (by have := hb.size; (try simp at this); omega); have hzwd2 : w.heap.size + 1 + 1 < wd.heap.size := (by have := hb.size; (try simp at this); omega); obtain ⟨hcwd, hfwd⟩ := bcell hb; have HBwd := Lib.hid hb; have HNwd := Lib.hid hn; have ewd0 : wd.cell? ⟨w.heap.size + 1 + 1, 0, none⟩ = some v0 := (hb.cell (p := ⟨w.heap.size + 1 + 1, 0, none⟩) (by first | omega | (simp; omega))).trans (by exact r0'); have ewd1 : wd.cell? ⟨w.heap.size + 1 + 1, 1, none⟩ = some v1 := (hb.cell (p := ⟨w.heap.size + 1 + 1, 1, none⟩) (by first | omega | (simp; omega))).trans (by exact r1'); have ewd2 : wd.cell? ⟨w.heap.size + 1 + 1, 2, none⟩ = some v2 := (hb.cell (p := ⟨w.heap.size + 1 + 1, 2, none⟩) (by first | omega | (simp; omega))).trans (by exact r2'); have zwd : ∀ o, wd.frozen? ⟨w.heap.size + 1 + 1, o, none⟩ = false := (fun o => (hb.frozen (p := ⟨w.heap.size + 1 + 1, o, none⟩) (by first | omega | (simp; omega))).trans (by exact fr' o)); clear hb hn)
        | (go_at_call 75; refine (reduce_any (N := N) _ _ _ _ _ x.natAbs _ _ (md1 * md2) _ (by omega) (by exact (HNR.out.below (bel_of_drew HBwd.out))) (by exact HNwd.out) (by omega) (by omega) (Nat.mul_pos hp1 hp2) p HQ.out).mono ?_; rintro e we ⟨rx, cx, rx2, cx2, rfl, hn, hn', hb⟩; have kwe0 : we.cell? ⟨g, 0, none⟩ = some (.bool (decide (x < 0))) := (hb.cell (p := ⟨g, 0, none⟩) (by omega)).trans kwd0; have kwe1 : we.cell? ⟨g, 1, none⟩ = some (.slice r (nlen x.natAbs) c) := (hb.cell (p := ⟨g, 1, none⟩) (by omega)).trans kwd1; have hzwe0 : g < we.heap.size := (by have := hb.size; (try simp at this); omega); have hzwe1 : w.heap.size + 2 < we.heap.size := (by have := hb.size; (try simp at this); omega); have hzwe2 : w.heap.size + 1 + 1 < we.heap.size := (by have := hb.size; (try simp at this); omega); obtain ⟨hcwe, hfwe⟩ := bcell hb; have HBwe := Lib.hid hb; have HNwe := Lib.hid hn; have HN'we := Lib.hid hn'; have ewe0 : we.cell? ⟨w.heap.size + 1 + 1, 0, none⟩ = some v0 := (hb.cell (p := ⟨w.heap.size + 1 + 1, 0, none⟩) (by first | omega | (simp; omega))).trans (by exact ewd0); have ewe1 : we.cell? ⟨w.heap.size + 1 + 1, 1, none⟩ = some v1 := (hb.cell (p := ⟨w.heap.size + 1 + 1, 1, none⟩) (by first | omega | (simp; omega))).trans (by exact ewd1); have ewe2 : we.cell? ⟨w.heap.size + 1 + 1, 2, none⟩ = some v2 := (hb.cell (p := ⟨w.heap.size + 1 + 1, 2, none⟩) (by first | omega | (simp; omega))).trans (by exact ewd2); have zwe : ∀ o, we.frozen? ⟨w.heap.size + 1 + 1, o, none⟩ = false := (fun o => (hb.frozen (p := ⟨w.heap.size + 1 + 1, o, none⟩) (by first | omega | (simp; omega))).trans (by exact zwd o)); clear hb hn hn'))
    have HBx : Hid (Bx we (w.heap.size + 1 + 1) 28) := (HRES.out.bx.drewB HBwd.out).below HBwe.out
    have HBL := Lib.hid ((HBEL.out.trans ((bel_of_drew HBwd.out).mono (show w.heap.size ≤ wc.heap.size by omega))).trans (HBwe.out.mono (by omega)))
    have HF := Lib.hid (fun v0 v1 v2 => fin3 hN (by omega) HBx.out HNwe.out HN'we.out HBL.out v0 v1 v2)
    have t0 : ∀ u, (we.setCell ⟨w.heap.size + 1 + 1, 0, none⟩ u).cell? ⟨w.heap.size + 1 + 1, 0, none⟩ = some u := fun u => World.cell?_setCell_same _ _ _ ewe0
    have t1 : ∀ u v, ((we.setCell ⟨w.heap.size + 1 + 1, 0, none⟩ u).setCell ⟨w.heap.size + 1 + 1, 1, none⟩ v).cell? ⟨w.heap.size + 1 + 1, 1, none⟩ = some v := fun u v => (set2_cells ewe0 ewe1).2
    have t2 : ∀ u v x, (((we.setCell ⟨w.heap.size + 1 + 1, 0, none⟩ u).setCell ⟨w.heap.size + 1 + 1, 1, none⟩ v).setCell ⟨w.heap.size + 1 + 1, 2, none⟩ x).cell? ⟨w.heap.size + 1 + 1, 2, none⟩ = some x := fun u v x => World.cell?_setCell_same _ _ _ ((World.cell?_setCell_other _ _ _ _ (by simp)).trans ((World.cell?_setCell_other _ _ _ _ (by simp)).trans ewe2))
    go_wp2_with fail
    exact bodyPost_ret (v := .agg #[.bool (decide ((p).num < 0)), .slice rx (nlen (p).num.natAbs) cx, .slice rx2 (nlen (p).den) cx2]) (by simp [results, Tryz.results72, go_sem, t0, t1, t2]) rfl ⟨_, _, _, _, rfl, (HF.out _ _ _).1, (HF.out _ _ _).2.1, (HF.out _ _ _).2.2⟩

end Go.Proofs.YtbjgnpgachdlaaaGreatDoor
