import Derived.Test.YtjobopafcgnljaaGreatRfC
import Derived.Test.YtjobopafcgnljaaGreatRfD
namespace Go.Proofs.YtjobopafcgnljaaGreat
open Go.RowKit
theorem Rl.put {N : Nat} {w : World} {b n m k : Nat} {q q' : Nat → Rat} (h : Rl N w b n m q) (hN : N ≤ b) (hm : m ≤ n) (hk : k < m) (p : Rat) (hp : q' k = p) (e : ∀ i, i < m → i ≠ k → q i = q' i) {r r2 : Option Addr} {c c2 : Nat} (h1 : Nt N w r (nlen p.num.natAbs) c p.num.natAbs) (h2 : Nt N w r2 (nlen p.den) c2 p.den) :
  Rl N (((w.setCell ⟨b, k * 3, none⟩ (.bool (decide (p.num < 0)))).setCell ⟨b, k * 3 + 1, none⟩ (.slice r (nlen p.num.natAbs) c)).setCell ⟨b, k * 3 + 2, none⟩ (.slice r2 (nlen p.den) c2)) b n m q' := by
 subst hp
 have kp : Kp N w (((w.setCell ⟨b, k * 3, none⟩ (.bool (decide ((q' k).num < 0)))).setCell ⟨b, k * 3 + 1, none⟩ (.slice r (nlen (q' k).num.natAbs) c)).setCell ⟨b, k * 3 + 2, none⟩ (.slice r2 (nlen (q' k).den) c2)) :=
  (((Kp.refl N w).put hN h.bn _).put hN (h.bn.set _ _) _).put hN ((h.bn.set _ _).set _ _) _
 refine ⟨((h.1.set _ _).set _ _).set _ _, fun i hi => ?_⟩
 by_cases ei : i = k
 ·subst ei
  obtain ⟨v0, g0⟩ := h.1.cell (o := i * 3) (by omega)
  obtain ⟨v1, g1⟩ := h.1.cell (o := i * 3 + 1) (by omega)
  obtain ⟨v2, g2⟩ := h.1.cell (o := i * 3 + 2) (by omega)
  refine ⟨r, c, r2, c2, ?_, ?_, ?_, h1.keep kp, h2.keep kp⟩
  ·exact (World.cell?_setCell_other _ _ _ _ (by first | (simp; done) | (simp; omega))).trans ((World.cell?_setCell_other _ _ _ _ (by first | (simp; done) | (simp; omega))).trans (World.cell?_setCell_same _ _ _ g0))
  ·exact (World.cell?_setCell_other _ _ _ _ (by first | (simp; done) | (simp; omega))).trans (World.cell?_setCell_same _ _ _ ((World.cell?_setCell_other _ _ _ _ (by first | (simp; done) | (simp; omega))).trans g1))
  ·exact World.cell?_setCell_same _ _ _ ((World.cell?_setCell_other _ _ _ _ (by first | (simp; done) | (simp; omega))).trans ((World.cell?_setCell_other _ _ _ _ (by first | (simp; done) | (simp; omega))).trans g2))
 ·obtain ⟨r, c, r2, c2, h3, h4, h5, h6, h7⟩ := h.2 i hi
  rw [← e i hi ei]
  refine ⟨r, c, r2, c2, ?_, ?_, ?_, h6.keep kp, h7.keep kp⟩
  all_goals
   refine (World.cell?_setCell_other _ _ _ _ (by first | (simp; done) | (simp; omega))).trans ((World.cell?_setCell_other _ _ _ _ (by first | (simp; done) | (simp; omega))).trans ((World.cell?_setCell_other _ _ _ _ (by first | (simp; done) | (simp; omega))).trans ?_))
   assumption
theorem Ol.row {N B : Nat} {w : World} {v : Value} {m : Nat} {q : Nat → Rat} (h : Ol N B w v m q) (hm : 0 < m) : ∃ g cap, v = .slice (some ⟨g, 0, none⟩) m cap ∧ B ≤ g ∧ g < w.heap.size ∧ m ≤ cap ∧ cap ≤ maxLen ∧ Rl N w g cap m q := by
 obtain ⟨xs, ho, hc⟩ := h
 obtain ⟨_, ⟨_, h0⟩ | ⟨g, cap, cur, rfl, hg, hh, h1, h2, h3, h4⟩⟩ := ho
 ·omega
 ·refine ⟨g, cap, rfl, hg, (Array.getElem?_eq_some_iff.1 hh).1, h1, h2, ⟨cur, hh, h3⟩, fun i hi => ?_⟩
  obtain ⟨v0, v1, v2, g0, g1, g2, r, c, r2, c2, rfl, rfl, rfl, n1, n2⟩ := hc.2 i hi
  exact ⟨r, c, r2, c2, by have := owns_cell hh h4 _ (by omega) _ g0; simpa using this, by have := owns_cell hh h4 _ (by omega) _ g1; simpa using this, by have := owns_cell hh h4 _ (by omega) _ g2; simpa using this, n1, n2⟩
theorem Ol.nil (N B : Nat) (w : World) (q : Nat → Rat) : Ol N B w (.slice none 0 0) 0 q := ⟨[], ⟨rfl, .inl ⟨rfl, rfl⟩⟩, Cl.nil _⟩
structure Tq (N : Nat) (w : World) (tb n m : Nat) (β κ : Nat → Nat) (x : Nat → Nat → Rat) : Prop where
 tl : tb < w.heap.size
 top : ∀ r, r < n → w.cell? ⟨tb, r, none⟩ = some (.slice (some ⟨β r, 0, none⟩) m (κ r))
 row : ∀ r, r < n → Rl N w (β r) (κ r) m (x r)
 big : ∀ r, r < n → m ≤ κ r
 inj : ∀ r s, r < n → s < n → β r = β s → r = s
 ne : ∀ r, r < n → tb ≠ β r
theorem Tq.below {N : Nat} {w w' : World} {tb n m : Nat} {β κ : Nat → Nat} {x : Nat → Nat → Rat} (h : Tq N w tb n m β κ x) (hb : Below w.heap.size w w') : Tq N w' tb n m β κ x :=
 ⟨Nat.lt_of_lt_of_le h.tl hb.size, fun r hr => cell_mono (h.top r hr) hb, fun r hr => (h.row r hr).below hb, h.big, h.inj, h.ne⟩
theorem Tq.congr {N : Nat} {w : World} {tb n m : Nat} {β κ : Nat → Nat} {x y : Nat → Nat → Rat} (h : Tq N w tb n m β κ x) (e : ∀ r, r < n → ∀ c, c < m → x r c = y r c) : Tq N w tb n m β κ y :=
 ⟨h.tl, h.top, fun r hr => (h.row r hr).congr (e r hr), h.big, h.inj, h.ne⟩
theorem Tq.set {N : Nat} {w : World} {tb n m k c : Nat} {β κ : Nat → Nat} {x y : Nat → Nat → Rat} (h : Tq N w tb n m β κ x) (hN : ∀ r, r < n → N ≤ β r) (hk : k < n) (hc : c < m) (p : Rat) (hp : y k c = p) {a a2 : Option Addr} {cp cp2 : Nat} (h1 : Nt N w a (nlen p.num.natAbs) cp p.num.natAbs) (h2 : Nt N w a2 (nlen p.den) cp2 p.den) (e : ∀ r, r < n → ∀ d, d < m → ¬ (r = k ∧ d = c) → x r d = y r d) :
  Tq N (((w.setCell ⟨β k, c * 3, none⟩ (.bool (decide (p.num < 0)))).setCell ⟨β k, c * 3 + 1, none⟩ (.slice a (nlen p.num.natAbs) cp)).setCell ⟨β k, c * 3 + 2, none⟩ (.slice a2 (nlen p.den) cp2)) tb n m β κ y := by
 have hr0 := h.row k hk
 have kp : Kp N w (((w.setCell ⟨β k, c * 3, none⟩ (.bool (decide (p.num < 0)))).setCell ⟨β k, c * 3 + 1, none⟩ (.slice a (nlen p.num.natAbs) cp)).setCell ⟨β k, c * 3 + 2, none⟩ (.slice a2 (nlen p.den) cp2)) :=
  (((Kp.refl N w).put (hN k hk) hr0.bn _).put (hN k hk) (hr0.bn.set _ _) _).put (hN k hk) ((hr0.bn.set _ _).set _ _) _
 refine ⟨by simpa [World.setCell] using h.tl, fun r hr => ?_, fun r hr => ?_, h.big, h.inj, h.ne⟩
 ·have hne := h.ne k hk
  exact (World.cell?_setCell_other _ _ _ _ (by intro e'; simp only [Addr.mk.injEq] at e'; omega)).trans ((World.cell?_setCell_other _ _ _ _ (by intro e'; simp only [Addr.mk.injEq] at e'; omega)).trans ((World.cell?_setCell_other _ _ _ _ (by intro e'; simp only [Addr.mk.injEq] at e'; omega)).trans (h.top r hr)))
 ·by_cases er : r = k
  ·subst er
   exact hr0.put (hN r hr) (h.big r hr) hc p hp (fun d hd hne => e r hr d hd (fun hh => hne hh.2)) h1 h2
  ·have hnb : β r ≠ β k := fun hh => er (h.inj r k hr hk hh)
   exact ((h.row r hr).keep kp (((Sb.set (Sb.refl _ _) hnb _).set hnb _).set hnb _)).congr (fun d hd => e r hr d hd (fun hh => er hh.1))
theorem own_kpT {N B : Nat} {w w1 : World} {x : Value} {n : Nat} {xs : List Value} (hx : w.ownsRow B 38 1 x n xs) (hN : N ≤ B) (hg : w.grownBy w1 x.ownBlock) : Kp N w w1 := by
 refine ⟨hg.size, fun b hb ho => hg.block b hb fun e => ?_⟩
 have h1 := hx.lt b e.symm
 rcases hx.2 with ⟨rfl, _⟩ | ⟨g, cap, cur, rfl, hbg, hgg, _⟩
 ·simp [Value.ownBlock] at e
 ·simp [Value.ownBlock] at e
  subst e
  rcases ho with ho | ⟨c, z, ho⟩
  ·omega
  ·rw [hgg] at ho; simp at ho
def rwq (β κ : Nat → Nat) (m c : Nat) : List Value := (List.range c).map fun j => .slice (some ⟨β j, 0, none⟩) m (κ j)
theorem rwq_succ (β κ : Nat → Nat) (m c g cap : Nat) : rwq β κ m c ++ [.slice (some ⟨g, 0, none⟩) m cap] = rwq (fun j => if j = c then g else β j) (fun j => if j = c then cap else κ j) m (c + 1) := by
 unfold rwq
 rw [List.range_succ, List.map_append]
 congr 1
 ·refine List.map_congr_left (fun j hj => ?_)
  have : ¬ j = c := by have := List.mem_range.1 hj; omega
  simp only [if_neg this]
 ·simp
structure TG (N : Nat) (w1 : World) (m c : Nat) (β κ : Nat → Nat) (x : Nat → Rat) (out : Value) (wr : World) : Prop where
 own : wr.ownsRow w1.heap.size 38 1 out c (rwq β κ m c)
 row : ∀ j, j < c → Rl N wr (β j) (κ j) m x
 big : ∀ j, j < c → m ≤ κ j
 ne : ∀ j, j < c → out.ownBlock ≠ some (β j)
 inj : ∀ j j', j < c → j' < c → β j = β j' → j = j'
 lo : ∀ j, j < c → w1.heap.size ≤ β j
 bel : Below w1.heap.size w1 wr
theorem TG.start (N : Nat) (w1 : World) (m : Nat) (β κ : Nat → Nat) (x : Nat → Rat) : TG N w1 m 0 β κ x (.slice none 0 0) w1 :=
 ⟨⟨rfl, .inl ⟨rfl, rfl⟩⟩, fun j hj => by omega, fun j hj => by omega, fun j hj => by omega, fun j _ hj => by omega, fun j hj => by omega, Below.refl _ _⟩
theorem TG.below {N : Nat} {w1 wr w2 : World} {m c : Nat} {β κ : Nat → Nat} {x : Nat → Rat} {out : Value} (h : TG N w1 m c β κ x out wr) (hb : Below wr.heap.size wr w2) : TG N w1 m c β κ x out w2 := by
 refine ⟨⟨h.own.1, ?_⟩, fun j hj => (h.row j hj).below hb, h.big, h.ne, h.inj, h.lo, h.bel.trans (hb.mono h.bel.size)⟩
 rcases h.own.2 with e | ⟨g, cap, cur, rfl, hbg, hgg, rest⟩
 ·exact Or.inl e
 ·exact Or.inr ⟨g, cap, cur, rfl, hbg, (hb.block g (Array.getElem?_eq_some_iff.1 hgg).1).trans hgg, rest⟩
theorem TG.step {N : Nat} {w1 wr w2 : World} {m c g cap L0 : Nat} {β κ : Nat → Nat} {x : Nat → Rat} {out v2 : Value} {o2 : Obj} (h : TG N w1 m c β κ x out wr) (hN : N ≤ w1.heap.size)
  (hr : Rl N wr g cap m x) (hcap : m ≤ cap) (hL : ∀ j, j < c → β j < L0) (hL2 : ∀ k, out.ownBlock = some k → k < L0) (hL3 : w1.heap.size ≤ L0) (hg0 : L0 ≤ g)
  (hm : w2.ownsRow w1.heap.size 38 1 v2 (c + 1) (rwq β κ m c ++ [.slice (some ⟨g, 0, none⟩) m cap]))
  (hg : (wr.alloc o2).grownBy w2 out.ownBlock)
  (hat : v2.ownBlock = out.ownBlock ∨ v2.ownBlock = some (wr.alloc o2).heap.size) :
  TG N w1 m (c + 1) (fun j => if j = c then g else β j) (fun j => if j = c then cap else κ j) x v2 w2 := by
 have hb := h.bel.size
 have hgl : g < wr.heap.size := hr.lt
 have own2 := h.own
 have kp : Kp N wr w2 := by
  have h1 : Kp N wr (wr.alloc o2) := (Kp.refl N wr).alloc _
  refine h1.trans (own_kpT (B := w1.heap.size) (x := out) (n := c) (xs := rwq β κ m c) ⟨h.own.1, ?_⟩ hN hg)
  rcases h.own.2 with e | ⟨g', cap', cur, rfl, hbg, hgg, rest⟩
  ·exact Or.inl e
  ·exact Or.inr ⟨g', cap', cur, rfl, hbg, ((bel1 wr o2).block g' (Array.getElem?_eq_some_iff.1 hgg).1).trans hgg, rest⟩
 have hlt : ∀ k, out.ownBlock = some k → w1.heap.size ≤ k ∧ k < wr.heap.size := fun k hk => h.own.lt k hk
 have sb : ∀ b, b < wr.heap.size → out.ownBlock ≠ some b → Sb b wr w2 := fun b hb2 hne => by
  have h1 := (bel1 wr o2).block b hb2
  exact (hg.block b (by simp; omega) (fun e => hne e.symm)).trans h1
 rw [rwq_succ] at hm
 refine ⟨hm, fun j hj => ?_, fun j hj => ?_, fun j hj => ?_, fun j j' hj hj' e => ?_, fun j hj => ?_, (h.bel.alloc hb o2).grown hg (by simp; omega) (fun k hk => (hlt k hk).1)⟩
 ·by_cases e : j = c
  ·subst e
   simp only [if_pos]
   exact hr.keep kp (sb g hgl (fun e => by have := hL2 _ e; omega))
  ·simp only [if_neg e]
   exact (h.row j (by omega)).keep kp (sb _ (h.row j (by omega)).lt (h.ne j (by omega)))
 ·by_cases e : j = c
  ·simp only [if_pos e]; exact hcap
  ·simp only [if_neg e]; exact h.big j (by omega)
 ·by_cases e : j = c
  ·subst e
   simp only [if_pos]
   rcases hat with hat | hat
   ·rw [hat]; intro e; have := hL2 _ e; omega
   ·rw [hat]; simp; omega
  ·simp only [if_neg e]
   rcases hat with hat | hat
   ·rw [hat]; exact h.ne j (by omega)
   ·rw [hat]; have := (h.row j (by omega)).lt; simp; omega
 ·change (if j = c then g else β j) = (if j' = c then g else β j') at e
  by_cases e1 : j = c <;> by_cases e2 : j' = c
  ·omega
  ·rw [if_pos e1, if_neg e2] at e; have := hL j' (by omega); omega
  ·rw [if_neg e1, if_pos e2] at e; have := hL j (by omega); omega
  ·rw [if_neg e1, if_neg e2] at e; exact h.inj j j' (by omega) (by omega) e
 ·by_cases e : j = c
  ·simp only [if_pos e]; omega
  ·simp only [if_neg e]; exact h.lo j (by omega)
theorem TG.open {N : Nat} {w1 wr : World} {m n : Nat} {β κ : Nat → Nat} {x : Nat → Rat} {out : Value} (h : TG N w1 m n β κ x out wr) (hn : 0 < n) : ∃ g cap, out = .slice (some ⟨g, 0, none⟩) n cap ∧ n ≤ cap ∧ cap ≤ maxLen ∧ w1.heap.size ≤ g ∧ Tq N wr g n m β κ (fun _ => x) := by
 obtain ⟨_, ⟨_, h0⟩ | ⟨g, cap, cur, rfl, hg, hh, h1, h2, h3, h4⟩⟩ := h.own
 ·omega
 ·refine ⟨g, cap, rfl, h1, h2, hg, (Array.getElem?_eq_some_iff.1 hh).1, fun i hi => ?_, h.row, h.big, h.inj, fun j hj e => h.ne j hj (by simp [Value.ownBlock, e])⟩
  have h5 : cur.toList[i]? = some (.slice (some ⟨β i, 0, none⟩) m (κ i)) := by
   have : (cur.toList.take (n * 1))[i]? = some (.slice (some ⟨β i, 0, none⟩) m (κ i)) := by rw [h4]; simp [rwq, hi]
   rwa [List.getElem?_take_of_lt (by omega)] at this
  simp [World.cell?, hh]
  simpa using h5
end Go.Proofs.YtjobopafcgnljaaGreat
