/- Contract of ratio.Add: for rational numbers of at most 2^36 limbs in a part. -/
import Derived.Test.YtnillajhhimeiaaDoorRatD
import Derived.Test.YtnillajhhimeiaaDoorReg
import Derived.Deep.DeepCutAuto
namespace Go.Proofs.YtnillajhhimeiaaDoor
open Go.RowKit

/-- block b is a box of type T with k cells, none frozen -/
def Bk (w : World) (b : Nat) (T : TypeId) (k : Nat) : Prop := ∃ cur, w.heap[b]? = some (.cells cur T (0, 0)) ∧ cur.size = k
theorem Bk.bx {w : World} {b k : Nat} {T : TypeId} (h : Bk w b T k) : Bx w b T := by obtain ⟨c, h, _⟩ := h; exact ⟨c, _, h⟩
theorem Bk.lt {w : World} {b k : Nat} {T : TypeId} (h : Bk w b T k) : b < w.heap.size := h.bx.lt
theorem Bk.below {w w' : World} {b k : Nat} {T : TypeId} (h : Bk w b T k) (hb : Below w.heap.size w w') : Bk w' b T k := by
  have hl := h.lt
  obtain ⟨c, h, hk⟩ := h; exact ⟨c, (hb.block b hl).trans h, hk⟩
theorem Bk.new (w : World) (c : Array Value) (T : TypeId) : Bk (w.alloc (.cells c T)) w.heap.size T c.size := ⟨c, heap_alloc_new w _, rfl⟩
theorem Bk.cell {w : World} {b k : Nat} {T : TypeId} (h : Bk w b T k) {o : Nat} (ho : o < k) : ∃ v, w.cell? ⟨b, o, none⟩ = some v := by
  obtain ⟨c, h, rfl⟩ := h
  exact ⟨c[o], by simp [World.cell?, h, ho]⟩
theorem Bk.frozen {w : World} {b k : Nat} {T : TypeId} (h : Bk w b T k) (o : Nat) : w.frozen? ⟨b, o, none⟩ = false := by
  obtain ⟨c, h, rfl⟩ := h; simp [World.frozen?, h]
theorem Bk.set {w : World} {b k : Nat} {T : TypeId} (h : Bk w b T k) (p : Addr) (v : Value) : Bk (w.setCell p v) b T k := by
  obtain ⟨c, h, hk⟩ := h
  by_cases e : b = p.block
  · subst e
    refine ⟨if p.spot.isSome then c else c.setIfInBounds p.off v, ?_, ?_⟩
    · simp [World.setCell, Array.getElem?_modify, h]
    · split <;> simp [hk]
  · exact ⟨c, (Below.heap_setCell _ _ _ _ e).trans h, hk⟩

/-- u is the whole number m as an integer -/
def IsWh (N m : Nat) (u : Value) (w : World) : Prop := ∃ r c, u = .agg #[.bool false, .slice r (nlen m) c] ∧ Nt N w r (nlen m) c m
/-- u is the integer z in normal form -/
def IsInt (N : Nat) (z : Int) (u : Value) (w : World) : Prop := ∃ r c, u = .agg #[.bool (decide (z < 0)), .slice r (nlen z.natAbs) c] ∧ Nt N w r (nlen z.natAbs) c z.natAbs
/-- u points to a box of its own -/
def IsBox (b0 : Nat) (T : TypeId) (k : Nat) (u : Value) (w : World) : Prop := ∃ g, u = .pointer (some ⟨g, 0, none⟩) ∧ b0 ≤ g ∧ Bk w g T k
theorem Bk.new' (w : World) (c : Array Value) (T : TypeId) (b : Nat) (h : b = w.heap.size) : Bk (w.alloc (.cells c T)) b T c.size := by subst h; exact Bk.new w c T
theorem set2_cells {w : World} {g : Nat} {a0 a1 v0 v1 : Value} (h0 : w.cell? ⟨g, 0, none⟩ = some a0) (h1 : w.cell? ⟨g, 1, none⟩ = some a1) :
    ((w.setCell ⟨g, 0, none⟩ v0).setCell ⟨g, 1, none⟩ v1).cell? ⟨g, 0, none⟩ = some v0 ∧ ((w.setCell ⟨g, 0, none⟩ v0).setCell ⟨g, 1, none⟩ v1).cell? ⟨g, 1, none⟩ = some v1 :=
  ⟨(World.cell?_setCell_other _ _ _ _ (by simp)).trans (World.cell?_setCell_same _ _ _ h0), World.cell?_setCell_same _ _ _ ((World.cell?_setCell_other _ _ _ _ (by simp)).trans h1)⟩
theorem IsWh.below {N m : Nat} {u : Value} {w w' : World} (h : IsWh N m u w) (hb : Below w.heap.size w w') : IsWh N m u w' := by obtain ⟨r, c, e, h⟩ := h; exact ⟨r, c, e, h.below hb⟩
theorem IsInt.below {N : Nat} {z : Int} {u : Value} {w w' : World} (h : IsInt N z u w) (hb : Below w.heap.size w w') : IsInt N z u w' := by obtain ⟨r, c, e, h⟩ := h; exact ⟨r, c, e, h.below hb⟩
theorem IsBox.below {b0 k : Nat} {T : TypeId} {u : Value} {w w' : World} (h : IsBox b0 T k u w) (hb : Below w.heap.size w w') : IsBox b0 T k u w' := by obtain ⟨g, e, h1, h⟩ := h; exact ⟨g, e, h1, h.below hb⟩

theorem add_mk (z1 z2 x1 x2 x : Int) (d1 d2 : Nat) (h1 : 0 < d1) (h2 : 0 < d2) (q q' p : Rat) (e1 : mkRat z1 d1 = q) (e2 : mkRat z2 d2 = q') (hp : q + q' = p) (a1 : z1 * zI false d2 = x1) (a2 : z2 * zI false d1 = x2) (hx : zI (decide (x1 < 0)) x1.natAbs + zI (decide (x2 < 0)) x2.natAbs = x) : mkRat (zI (decide (x < 0)) x.natAbs) (d1 * d2) = p := by
  rw [zI_norm, zI_norm] at hx
  rw [zI_norm, ← hx, ← a1, ← a2, ← hp, ← e1, ← e2, Rat.mkRat_add_mkRat _ _ (by omega) (by omega)]
  rfl
theorem nlen_iadd {z : Int} {s1 s2 : Bool} {m1 m2 : Nat} (hz : zI s1 m1 + zI s2 m2 = z) : nlen z.natAbs ≤ max (nlen m1) (nlen m2) + 1 := by
  have h : z.natAbs ≤ m1 + m2 := by
    have h1 := zI_abs s1 m1
    have h2 := zI_abs s2 m2
    omega
  exact Nat.le_trans (nlen_mono h) (nlen_add m1 m2)

/-- what stays while the statement runs -/
structure AddB (N b0 ga gb : Nat) (w0 : World) (s1 s2 : Bool) (a1 a2 d1 d2 : Option Addr) (na1 ca1 mn1 na2 ca2 mn2 nd1 cd1 md1 nd2 cd2 md2 : Nat) (w : World) : Prop where
  fa0 : w.cell? ⟨ga, 0, none⟩ = some (.bool s1)
  fa1 : w.cell? ⟨ga, 1, none⟩ = some (.slice a1 na1 ca1)
  fb0 : w.cell? ⟨gb, 0, none⟩ = some (.bool s2)
  fb1 : w.cell? ⟨gb, 1, none⟩ = some (.slice a2 na2 ca2)
  fna : Nt N w a1 na1 ca1 mn1
  fnb : Nt N w a2 na2 ca2 mn2
  fda : Nt N w d1 nd1 cd1 md1
  fdb : Nt N w d2 nd2 cd2 md2
  res : Bk w (b0 + 2) 30 3
  sz : N ≤ w.heap.size
  bel : Below b0 w0 w
  szb : b0 + 3 ≤ w.heap.size
theorem cell_mono {w w' : World} {b o : Nat} {v : Value} (h : w.cell? ⟨b, o, none⟩ = some v) (hb : Below w.heap.size w w') : w'.cell? ⟨b, o, none⟩ = some v := (hb.cell (p := ⟨b, o, none⟩) (World.block_lt_of_cell? w _ h)).trans h
theorem AddB.below {N b0 ga gb : Nat} {w0 : World} {s1 s2 : Bool} {a1 a2 d1 d2 : Option Addr} {na1 ca1 mn1 na2 ca2 mn2 nd1 cd1 md1 nd2 cd2 md2 : Nat} {w w' : World} (h : AddB N b0 ga gb w0 s1 s2 a1 a2 d1 d2 na1 ca1 mn1 na2 ca2 mn2 nd1 cd1 md1 nd2 cd2 md2 w) (hb : Below w.heap.size w w') :
    AddB N b0 ga gb w0 s1 s2 a1 a2 d1 d2 na1 ca1 mn1 na2 ca2 mn2 nd1 cd1 md1 nd2 cd2 md2 w' :=
  ⟨cell_mono h.fa0 hb, cell_mono h.fa1 hb, cell_mono h.fb0 hb, cell_mono h.fb1 hb, h.fna.below hb, h.fnb.below hb, h.fda.below hb, h.fdb.below hb, h.res.below hb, Nat.le_trans h.sz hb.size, h.bel.trans (hb.mono (by have := h.szb; omega)), Nat.le_trans h.szb hb.size⟩

/-- what holds behind 'num := ..' -/
def AddCut (N b0 : Nat) (w0 : World) (x : Int) (d1 d2 : Option Addr) (nd1 cd1 md1 nd2 cd2 md2 : Nat) (s9 : Value) (w : World) : Prop :=
  ∃ g r c, s9 = .pointer (some ⟨g, 0, none⟩) ∧ b0 + 3 ≤ g ∧ w.cell? ⟨g, 0, none⟩ = some (.bool (decide (x < 0))) ∧ w.cell? ⟨g, 1, none⟩ = some (.slice r (nlen x.natAbs) c) ∧
    Nt N w r (nlen x.natAbs) c x.natAbs ∧ Nt N w d1 nd1 cd1 md1 ∧ Nt N w d2 nd2 cd2 md2 ∧ Bk w (b0 + 2) 30 3 ∧ Below b0 w0 w ∧ N ≤ w.heap.size

def AddJ (N b0 ga gb : Nat) (w0 : World) (s1 s2 : Bool) (a1 a2 d1 d2 : Option Addr) (na1 ca1 mn1 na2 ca2 mn2 nd1 cd1 md1 nd2 cd2 md2 : Nat) (x1 x2 x : Int) (z0 : Act) (L : Nat → Bool) (a : Act) (w : World) : Prop :=
  ∃ u20 u21 u22 u23 u24 u25 u26 u27 u28 u9, a = ((((((((((z0.put (some 20) u20).put (some 21) u21).put (some 22) u22).put (some 23) u23).put (some 24) u24).put (some 25) u25).put (some 26) u26).put (some 27) u27).put (some 28) u28).put (some 9) u9) ∧
    ((L 10 = false ∧ AddB N b0 ga gb w0 s1 s2 a1 a2 d1 d2 na1 ca1 mn1 na2 ca2 mn2 nd1 cd1 md1 nd2 cd2 md2 w ∧ (L 0 = true → u20 = .agg #[.bool s1, .slice a1 na1 ca1]) ∧ (L 1 = true → u21 = .slice d2 nd2 cd2) ∧ (L 2 = true → IsWh N md2 u22 w) ∧ (L 3 = true → IsInt N x1 u23 w) ∧ (L 4 = true → u24 = .agg #[.bool s2, .slice a2 na2 ca2]) ∧ (L 5 = true → u25 = .slice d1 nd1 cd1) ∧ (L 6 = true → IsWh N md1 u26 w) ∧ (L 7 = true → IsInt N x2 u27 w) ∧ (L 8 = true → IsInt N x u28 w) ∧ (L 9 = true → IsBox (b0 + 3) 28 2 u9 w)) ∨
     (L 10 = true ∧ (∀ j, j < 10 → L j = true) ∧ AddCut N b0 w0 x d1 d2 nd1 cd1 md1 nd2 cd2 md2 u9 w))

end Go.Proofs.YtnillajhhimeiaaDoor
