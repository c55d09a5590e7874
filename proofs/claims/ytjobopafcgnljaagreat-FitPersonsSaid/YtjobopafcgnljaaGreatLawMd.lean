import Derived.Test.YtjobopafcgnljaaGreatAl
import Derived.Test.YtjobopafcgnljaaGreatNulB
import Derived.Test.YtjobopafcgnljaaGreatTstD
import Derived.Test.YtjobopafcgnljaaGreatSmA
import Derived.Test.YtjobopafcgnljaaGreatModP
import Derived.Maps.AppendAt
namespace Go.Proofs.YtjobopafcgnljaaGreat
open Go.RowKit
def ObM (B : Nat) (w : World) (v : Value) (j : Nat) (f : Nat → Bool) : Prop := w.ownsRow B 4 1 v j ((List.range j).map fun i => .bool (f i))
theorem ObM.below {B : Nat} {w w' : World} {v : Value} {j : Nat} {f : Nat → Bool} (h : ObM B w v j f) (hb : Below w.heap.size w w') : ObM B w' v j f := by
 refine ⟨h.1, ?_⟩
 rcases h.2 with e | ⟨g, cap, cur, rfl, hbg, hgg, rest⟩
 ·exact Or.inl e
 ·exact Or.inr ⟨g, cap, cur, rfl, hbg, (hb.block g (Array.getElem?_eq_some_iff.1 hgg).1).trans hgg, rest⟩
theorem ObM.set {B : Nat} {w : World} {v : Value} {j ub o : Nat} {f : Nat → Bool} (h : ObM B w v j f) (hub : ub < B) (x : Value) : ObM B (w.setCell ⟨ub, o, none⟩ x) v j f := by
 refine ⟨h.1, ?_⟩
 rcases h.2 with e | ⟨g, cap, cur, rfl, hbg, hgg, rest⟩
 ·exact Or.inl e
 ·exact Or.inr ⟨g, cap, cur, rfl, hbg, (Below.heap_setCell w ⟨ub, o, none⟩ x g (show g ≠ ub by omega)).trans hgg, rest⟩
theorem ObM.push {B : Nat} {w : World} {v : Value} {j : Nat} {f : Nat → Bool} {b : Bool} (hf : f j = b) (h : w.ownsRow B 4 1 v (j + 1) (((List.range j).map fun i => .bool (f i)) ++ [.bool b])) : ObM B w v (j + 1) f := by
 unfold ObM; rw [List.range_succ, List.map_append]
 simp only [List.map_cons, List.map_nil, hf]
 exact h
theorem ObM.sl {B : Nat} {w : World} {v : Value} {j : Nat} {f : Nat → Bool} (h : ObM B w v j f) : ∃ p cap, v = .slice p j cap ∧ Sl w p j cap (fun i => .bool (f i)) := by
 obtain ⟨_, ⟨rfl, h0⟩ | ⟨g, cap, cur, rfl, hg, hh, h1, h2, h3, h4⟩⟩ := h
 ·subst h0; exact ⟨none, 0, rfl, Nat.le_refl _, Nat.zero_le _, fun h => by omega⟩
 ·refine ⟨_, cap, rfl, h1, h2, fun hn => ⟨g, 0, rfl, fun i hi => ?_⟩⟩
  have h5 : cur.toList[i]? = some (.bool (f i)) := by
   have : (cur.toList.take (j * 1))[i]? = some (.bool (f i)) := by rw [h4]; simp [hi]
   rwa [List.getElem?_take_of_lt (by omega)] at this
  simp [World.cell?, hh]
  simpa using h5
theorem own_belM {B : Nat} {e : TypeId} {w0 w w1 : World} {x : Value} {n k : Nat} {xs : List Value} (hx : w.ownsRow B e k x n xs) (hbel : Below B w0 w) (hB : B ≤ w.heap.size) (hg : w.grownBy w1 x.ownBlock) : Below B w0 w1 :=
 hbel.grown hg hB (fun k hk => (hx.lt k hk).1)
theorem own_kpM {N B : Nat} {w w1 : World} {x : Value} {n : Nat} {xs : List Value} (hx : w.ownsRow B 4 1 x n xs) (hN : N ≤ B) (hg : w.grownBy w1 x.ownBlock) : Kp N w w1 := by
 refine ⟨hg.size, fun b hb ho => hg.block b hb fun e => ?_⟩
 have h1 := hx.lt b e.symm
 rcases hx.2 with ⟨rfl, _⟩ | ⟨g, cap, cur, rfl, hbg, hgg, _⟩
 ·simp [Value.ownBlock] at e
 ·simp [Value.ownBlock] at e
  subst e
  rcases ho with ho | ⟨c, z, ho⟩
  ·omega
  ·rw [hgg] at ho; simp at ho
def Re (N : Nat) (w : World) (b n : Nat) (q : Nat → Rat) (L : Nat) : Prop :=
 Bk w b 29 (n * 3) ∧ ∀ i, i < n → ∃ s ra rn rc da dn dc, w.cell? ⟨b, i * 3, none⟩ = some (.bool s) ∧ w.cell? ⟨b, i * 3 + 1, none⟩ = some (.slice ra rn rc) ∧ w.cell? ⟨b, i * 3 + 2, none⟩ = some (.slice da dn dc) ∧ Rt N w s ra rn rc da dn dc (q i) L
theorem Re.below {N : Nat} {w w' : World} {b n L : Nat} {q : Nat → Rat} (h : Re N w b n q L) (hb : Below w.heap.size w w') : Re N w' b n q L := by
 refine ⟨h.1.below hb, fun i hi => ?_⟩
 obtain ⟨s, ra, rn, rc, da, dn, dc, h3, h4, h5, h6⟩ := h.2 i hi
 exact ⟨s, ra, rn, rc, da, dn, dc, cell_mono h3 hb, cell_mono h4 hb, cell_mono h5 hb, h6.below hb⟩
theorem Re.keep {N : Nat} {w w' : World} {b n L : Nat} {q : Nat → Rat} (h : Re N w b n q L) (kp : Kp N w w') (s : Sb b w w') : Re N w' b n q L := by
 refine ⟨?_, fun i hi => ?_⟩
 ·obtain ⟨c, h1, h2⟩ := h.1; exact ⟨c, Eq.trans s h1, h2⟩
 ·obtain ⟨sg, ra, rn, rc, da, dn, dc, h3, h4, h5, h6⟩ := h.2 i hi
  exact ⟨sg, ra, rn, rc, da, dn, dc, s.cell.trans h3, s.cell.trans h4, s.cell.trans h5, h6.keep kp⟩
theorem Re.congr {N : Nat} {w : World} {b n L : Nat} {q q' : Nat → Rat} (h : Re N w b n q L) (e : ∀ i, i < n → q i = q' i) : Re N w b n q' L :=
 ⟨h.1, fun i hi => by rw [← e i hi]; exact h.2 i hi⟩
theorem Re.bn {N : Nat} {w : World} {b n L : Nat} {q : Nat → Rat} (h : Re N w b n q L) : Bn w b := h.1.bx.bn (by decide)
theorem Re.put {N : Nat} {w : World} {b n k L : Nat} {q q' : Nat → Rat} (h : Re N w b n q L) (hN : N ≤ b) (hk : k < n) (p : Rat) (hp : q' k = p) (hL : rsz p ≤ L) (e : ∀ i, i < n → i ≠ k → q i = q' i) {r r2 : Option Addr} {c c2 : Nat} (h1 : Nt N w r (nlen p.num.natAbs) c p.num.natAbs) (h2 : Nt N w r2 (nlen p.den) c2 p.den) :
  Re N (((w.setCell ⟨b, k * 3, none⟩ (.bool (decide (p.num < 0)))).setCell ⟨b, k * 3 + 1, none⟩ (.slice r (nlen p.num.natAbs) c)).setCell ⟨b, k * 3 + 2, none⟩ (.slice r2 (nlen p.den) c2)) b n q' L := by
 subst hp
 have kp : Kp N w (((w.setCell ⟨b, k * 3, none⟩ (.bool (decide ((q' k).num < 0)))).setCell ⟨b, k * 3 + 1, none⟩ (.slice r (nlen (q' k).num.natAbs) c)).setCell ⟨b, k * 3 + 2, none⟩ (.slice r2 (nlen (q' k).den) c2)) :=
  (((Kp.refl N w).put hN h.bn _).put hN (h.bn.set _ _) _).put hN ((h.bn.set _ _).set _ _) _
 refine ⟨((h.1.set _ _).set _ _).set _ _, fun i hi => ?_⟩
 by_cases ei : i = k
 ·subst ei
  obtain ⟨v0, g0⟩ := h.1.cell (o := i * 3) (by omega)
  obtain ⟨v1, g1⟩ := h.1.cell (o := i * 3 + 1) (by omega)
  obtain ⟨v2, g2⟩ := h.1.cell (o := i * 3 + 2) (by omega)
  refine ⟨_, r, _, c, r2, _, c2, ?_, ?_, ?_, Rt.of_norm (h1.keep kp) (h2.keep kp) L hL⟩
  ·exact (World.cell?_setCell_other _ _ _ _ (by first | (simp; done) | (simp; omega))).trans ((World.cell?_setCell_other _ _ _ _ (by first | (simp; done) | (simp; omega))).trans (World.cell?_setCell_same _ _ _ g0))
  ·exact (World.cell?_setCell_other _ _ _ _ (by first | (simp; done) | (simp; omega))).trans (World.cell?_setCell_same _ _ _ ((World.cell?_setCell_other _ _ _ _ (by first | (simp; done) | (simp; omega))).trans g1))
  ·exact World.cell?_setCell_same _ _ _ ((World.cell?_setCell_other _ _ _ _ (by first | (simp; done) | (simp; omega))).trans ((World.cell?_setCell_other _ _ _ _ (by first | (simp; done) | (simp; omega))).trans g2))
 ·obtain ⟨s, ra, rn, rc, da, dn, dc, h3, h4, h5, h6⟩ := h.2 i hi
  rw [← e i hi ei]
  refine ⟨s, ra, rn, rc, da, dn, dc, ?_, ?_, ?_, h6.keep kp⟩
  all_goals
   refine (World.cell?_setCell_other _ _ _ _ (by first | (simp; done) | (simp; omega))).trans ((World.cell?_setCell_other _ _ _ _ (by first | (simp; done) | (simp; omega))).trans ((World.cell?_setCell_other _ _ _ _ (by first | (simp; done) | (simp; omega))).trans ?_))
   assumption
theorem Tryz.underBoolsM : Tryz.prog.underlying 37 = some (.slice 4) := by kernel_rfl
theorem Tryz.infoBoolM : (Tryz.prog.info? 4).map (fun i => (i.zero, i.size, i.bytes)) = some (some (.bool false), 1, 1) := by kernel_rfl
theorem made_cell (n o : Nat) (w : World) (h : o < n * 3) : (w.alloc (.cells (madeCells #[.bool false, .slice none 0 0, .slice none 0 0] (n * 3)) 29)).cell? ⟨w.heap.size, o, none⟩ = some ((#[.bool false, .slice none 0 0, .slice none 0 0] : Array Value)[o % 3]!) := by
 unfold World.cell?
 rw [heap_alloc_new]
 simp [madeCells, h]
theorem Re.made (N : Nat) (w : World) (n L : Nat) (hL : 1 ≤ L) : Re N (w.alloc (.cells (madeCells #[.bool false, .slice none 0 0, .slice none 0 0] (n * 3)) 29)) w.heap.size n (fun _ => 0) L := by
 refine ⟨by have := Bk.new w (madeCells #[.bool false, .slice none 0 0, .slice none 0 0] (n * 3)) 29; rwa [size_madeCells] at this, fun i hi => ?_⟩
 refine ⟨false, none, 0, 0, none, 0, 0, ?_, ?_, ?_, hL, Nat.zero_le _, Nat.zero_le _, 0, 0, Nt.zero _ _, Nt.zero _ _, by show mkRat (zI false 0) 0 = 0; decide +kernel⟩
 ·rw [made_cell n _ w (by omega), Nat.mul_mod_left]; rfl
 ·rw [made_cell n _ w (by omega), show (i * 3 + 1) % 3 = 1 by omega]; rfl
 ·rw [made_cell n _ w (by omega), show (i * 3 + 2) % 3 = 2 by omega]; rfl
end Go.Proofs.YtjobopafcgnljaaGreat
