/- Lists of natural numbers and of rational numbers in memory. No condition. Contracts of exact.fraction, isProbability, split. Contracts of exact.total, fractions. Contracts of exact.product, moments. -/
import Derived.Test.YtmecipfdelgfbaaDoorJoR1
import Derived.Test.YtmecipfdelgfbaaDoorJoA
namespace Go.Proofs.YtmecipfdelgfbaaDoor
open Go.RowKit

/-- block b is as it was -/
def Sb (b : Nat) (w w' : World) : Prop := w'.heap[b]? = w.heap[b]?
theorem Sb.refl (b : Nat) (w : World) : Sb b w w := rfl
theorem Sb.trans {b : Nat} {w1 w2 w3 : World} (h : Sb b w1 w2) (k : Sb b w2 w3) : Sb b w1 w3 := Eq.trans k h
theorem Sb.below {b : Nat} {w w' : World} (hb : Below w.heap.size w w') (h : b < w.heap.size) : Sb b w w' := hb.block b h
theorem Sb.alloc {b : Nat} {w W : World} (h : Sb b w W) (hl : b < W.heap.size) (o : Obj) : Sb b w (W.alloc o) := h.trans (Sb.below (bel1 W o) hl)
theorem Sb.drew {b : Nat} {w W : World} (h : Sb b w W) : Sb b w W.drew := h
theorem Sb.set {b c o : Nat} {w W : World} (h : Sb b w W) (hne : b ≠ c) (v : Value) : Sb b w (W.setCell ⟨c, o, none⟩ v) := h.trans (Below.heap_setCell W ⟨c, o, none⟩ v b hne)
theorem Sb.cell {b o : Nat} {w w' : World} (h : Sb b w w') : w'.cell? ⟨b, o, none⟩ = w.cell? ⟨b, o, none⟩ := World.cell?_of_block (w := w) (a := ⟨b, o, none⟩) h

/-- the slice holds n natural numbers, each of at most L limbs -/
def Ns (N : Nat) (w : World) (a : Option Addr) (n cap : Nat) (m : Nat → Nat) (L : Nat) : Prop :=
  n ≤ cap ∧ cap ≤ maxLen ∧ (0 < n → ∃ b off, a = some ⟨b, off, none⟩ ∧ ∀ i, i < n → ∃ ra rn rc, w.cell? ⟨b, off + i, none⟩ = some (.slice ra rn rc) ∧ Nt N w ra rn rc (m i) ∧ rn ≤ L)
theorem Ns.below {N : Nat} {w w' : World} {a : Option Addr} {n cap L : Nat} {m : Nat → Nat} (h : Ns N w a n cap m L) (hb : Below w.heap.size w w') : Ns N w' a n cap m L := by
  obtain ⟨h0, h1, h2⟩ := h
  refine ⟨h0, h1, fun hn => ?_⟩
  obtain ⟨b, off, e, hc⟩ := h2 hn
  refine ⟨b, off, e, fun i hi => ?_⟩
  obtain ⟨ra, rn, rc, h3, h4, h5⟩ := hc i hi
  exact ⟨ra, rn, rc, cell_mono h3 hb, h4.below hb, h5⟩
theorem Ns.congr {N : Nat} {w : World} {a : Option Addr} {n cap L : Nat} {m m' : Nat → Nat} (h : Ns N w a n cap m L) (e : ∀ i, i < n → m i = m' i) : Ns N w a n cap m' L := by
  obtain ⟨h0, h1, h2⟩ := h
  refine ⟨h0, h1, fun hn => ?_⟩
  obtain ⟨b, off, e1, hc⟩ := h2 hn
  exact ⟨b, off, e1, fun i hi => by rw [← e i hi]; exact hc i hi⟩
theorem Ns.lim {N : Nat} {w : World} {a : Option Addr} {n cap L : Nat} {m : Nat → Nat} (h : Ns N w a n cap m L) : ∀ i, i < n → nlen (m i) ≤ L := by
  intro i hi
  obtain ⟨b, off, _, hc⟩ := h.2.2 (by omega)
  obtain ⟨ra, rn, rc, _, h4, h5⟩ := hc i hi
  exact nlen_bound h4 _ h5
theorem Ns.mono {N : Nat} {w : World} {a : Option Addr} {n cap L L' : Nat} {m : Nat → Nat} (h : Ns N w a n cap m L) (hL : L ≤ L') : Ns N w a n cap m L' := by
  obtain ⟨h0, h1, h2⟩ := h
  refine ⟨h0, h1, fun hn => ?_⟩
  obtain ⟨b, off, e, hc⟩ := h2 hn
  refine ⟨b, off, e, fun i hi => ?_⟩
  obtain ⟨ra, rn, rc, h3, h4, h5⟩ := hc i hi
  exact ⟨ra, rn, rc, h3, h4, by omega⟩
/-- a part of the list -/
theorem Ns.part {N : Nat} {w : World} {b off n cap L k : Nat} {m : Nat → Nat} (h : Ns N w (some ⟨b, off, none⟩) n cap m L) (hk : k ≤ n) : Ns N w (some ⟨b, off + k, none⟩) (n - k) (cap - k) (fun i => m (k + i)) L := by
  obtain ⟨h0, h1, h2⟩ := h
  refine ⟨by omega, by omega, fun hn => ?_⟩
  obtain ⟨b', off', e, hc⟩ := h2 (by omega)
  cases e
  exact ⟨b, off + k, rfl, fun i hi => by have := hc (k + i) (by omega); rwa [← Nat.add_assoc] at this⟩
theorem Ns.take {N : Nat} {w : World} {a : Option Addr} {n cap L k : Nat} {m : Nat → Nat} (h : Ns N w a n cap m L) (hk : k ≤ n) : Ns N w a k cap m L := by
  obtain ⟨h0, h1, h2⟩ := h
  refine ⟨by omega, by omega, fun hn => ?_⟩
  obtain ⟨b', off', e, hc⟩ := h2 (by omega)
  exact ⟨b', off', e, fun i hi => hc i (by omega)⟩

/-- block b is a row of n natural numbers that the call made -/
def Nl (N : Nat) (w : World) (b n : Nat) (m : Nat → Nat) (L : Nat) : Prop :=
  Bk w b 24 n ∧ ∀ i, i < n → ∃ ra rn rc, w.cell? ⟨b, i, none⟩ = some (.slice ra rn rc) ∧ Nt N w ra rn rc (m i) ∧ rn ≤ L
theorem Nl.below {N : Nat} {w w' : World} {b n L : Nat} {m : Nat → Nat} (h : Nl N w b n m L) (hb : Below w.heap.size w w') : Nl N w' b n m L := by
  refine ⟨h.1.below hb, fun i hi => ?_⟩
  obtain ⟨ra, rn, rc, h3, h4, h5⟩ := h.2 i hi
  exact ⟨ra, rn, rc, cell_mono h3 hb, h4.below hb, h5⟩
theorem Nl.keep {N : Nat} {w w' : World} {b n L : Nat} {m : Nat → Nat} (h : Nl N w b n m L) (k : Kp N w w') (s : Sb b w w') : Nl N w' b n m L := by
  refine ⟨?_, fun i hi => ?_⟩
  · obtain ⟨c, h1, h2⟩ := h.1; exact ⟨c, Eq.trans s h1, h2⟩
  · obtain ⟨ra, rn, rc, h3, h4, h5⟩ := h.2 i hi
    exact ⟨ra, rn, rc, s.cell.trans h3, h4.keep k, h5⟩
theorem Nl.congr {N : Nat} {w : World} {b n L : Nat} {m m' : Nat → Nat} (h : Nl N w b n m L) (e : ∀ i, i < n → m i = m' i) : Nl N w b n m' L :=
  ⟨h.1, fun i hi => by rw [← e i hi]; exact h.2 i hi⟩
theorem Nl.ns {N : Nat} {w : World} {b n L : Nat} {m : Nat → Nat} (h : Nl N w b n m L) (hn : n ≤ maxLen) : Ns N w (some ⟨b, 0, none⟩) n n m L :=
  ⟨Nat.le_refl _, hn, fun _ => ⟨b, 0, rfl, fun i hi => by rw [Nat.zero_add]; exact h.2 i hi⟩⟩
theorem Nl.lt {N : Nat} {w : World} {b n L : Nat} {m : Nat → Nat} (h : Nl N w b n m L) : b < w.heap.size := h.1.lt
theorem Nl.bn {N : Nat} {w : World} {b n L : Nat} {m : Nat → Nat} (h : Nl N w b n m L) : Bn w b := h.1.bx.bn (by decide)
theorem Nl.set {N : Nat} {w : World} {b n L k : Nat} {m : Nat → Nat} (h : Nl N w b n m L) (hN : N ≤ b) (hk : k < n) {r : Option Addr} {l c v : Nat} (hv : Nt N w r l c v) (hl : l ≤ L) :
    Nl N (w.setCell ⟨b, k, none⟩ (.slice r l c)) b n (fun i => if i = k then v else m i) L := by
  have kp : Kp N w (w.setCell ⟨b, k, none⟩ (.slice r l c)) := (Kp.refl N w).put hN h.bn _
  refine ⟨h.1.set _ _, fun i hi => ?_⟩
  by_cases e : i = k
  · subst e
    obtain ⟨v0, h0⟩ := h.1.cell hi
    exact ⟨r, l, c, World.cell?_setCell_same _ _ _ h0, by dsimp only; rw [if_pos rfl]; exact hv.keep kp, hl⟩
  · obtain ⟨ra, rn, rc, h3, h4, h5⟩ := h.2 i hi
    exact ⟨ra, rn, rc, (World.cell?_setCell_other _ _ _ _ (by first | (simp; done) | (simp; omega))).trans h3, by dsimp only; rw [if_neg e]; exact h4.keep kp, h5⟩
theorem Nl.made (N : Nat) (w : World) (n L : Nat) : Nl N (w.alloc (.cells (madeCells #[.slice none 0 0] n) 24)) w.heap.size n (fun _ => 0) L := by
  have h := World.rowIs_made w (.slice none 0 0) n 24
  refine ⟨by have := Bk.new w (madeCells #[.slice none 0 0] n) 24; rwa [size_madeCells] at this, fun i hi => ⟨none, 0, 0, h.cell hi, Nt.zero _ _, Nat.zero_le _⟩⟩

/-- the slice holds n rational numbers, each of at most L limbs -/
def Rs (N : Nat) (w : World) (a : Option Addr) (n cap : Nat) (q : Nat → Rat) (L : Nat) : Prop :=
  n ≤ cap ∧ cap ≤ maxLen ∧ (0 < n → ∃ b off, a = some ⟨b, off, none⟩ ∧ ∀ i, i < n → ∃ s ra rn rc da dn dc, w.cell? ⟨b, off + i * 3, none⟩ = some (.bool s) ∧ w.cell? ⟨b, off + i * 3 + 1, none⟩ = some (.slice ra rn rc) ∧ w.cell? ⟨b, off + i * 3 + 2, none⟩ = some (.slice da dn dc) ∧ Rt N w s ra rn rc da dn dc (q i) L)
theorem Rs.below {N : Nat} {w w' : World} {a : Option Addr} {n cap L : Nat} {q : Nat → Rat} (h : Rs N w a n cap q L) (hb : Below w.heap.size w w') : Rs N w' a n cap q L := by
  obtain ⟨h0, h1, h2⟩ := h
  refine ⟨h0, h1, fun hn => ?_⟩
  obtain ⟨b, off, e, hc⟩ := h2 hn
  refine ⟨b, off, e, fun i hi => ?_⟩
  obtain ⟨s, ra, rn, rc, da, dn, dc, h3, h4, h5, h6⟩ := hc i hi
  exact ⟨s, ra, rn, rc, da, dn, dc, cell_mono h3 hb, cell_mono h4 hb, cell_mono h5 hb, h6.below hb⟩
theorem Rs.lim {N : Nat} {w : World} {a : Option Addr} {n cap L : Nat} {q : Nat → Rat} (h : Rs N w a n cap q L) : ∀ i, i < n → rsz (q i) ≤ L := by
  intro i hi
  obtain ⟨b, off, _, hc⟩ := h.2.2 (by omega)
  obtain ⟨s, ra, rn, rc, da, dn, dc, _, _, _, h6⟩ := hc i hi
  exact rsz_of h6
/-- the values of the slice at index i -/
theorem Rs.at {N : Nat} {w : World} {b off n cap L : Nat} {q : Nat → Rat} (h : Rs N w (some ⟨b, off, none⟩) n cap q L) {i : Nat} (hi : i < n) : ∃ s ra rn rc da dn dc, w.cell? ⟨b, off + i * 3, none⟩ = some (.bool s) ∧ w.cell? ⟨b, off + i * 3 + 1, none⟩ = some (.slice ra rn rc) ∧ w.cell? ⟨b, off + i * 3 + 2, none⟩ = some (.slice da dn dc) ∧ Rt N w s ra rn rc da dn dc (q i) L := by
  obtain ⟨b', off', e, hc⟩ := h.2.2 (by omega)
  cases e
  exact hc i hi

/-- block b is a row of n rational numbers that the call made; the first k are q in normal form -/
def Rl (N : Nat) (w : World) (b n k : Nat) (q : Nat → Rat) : Prop :=
  Bk w b 28 (n * 3) ∧ ∀ i, i < k → ∃ r c r2 c2, w.cell? ⟨b, i * 3, none⟩ = some (.bool (decide ((q i).num < 0))) ∧ w.cell? ⟨b, i * 3 + 1, none⟩ = some (.slice r (nlen (q i).num.natAbs) c) ∧ w.cell? ⟨b, i * 3 + 2, none⟩ = some (.slice r2 (nlen (q i).den) c2) ∧ Nt N w r (nlen (q i).num.natAbs) c (q i).num.natAbs ∧ Nt N w r2 (nlen (q i).den) c2 (q i).den
theorem Rl.below {N : Nat} {w w' : World} {b n k : Nat} {q : Nat → Rat} (h : Rl N w b n k q) (hb : Below w.heap.size w w') : Rl N w' b n k q := by
  refine ⟨h.1.below hb, fun i hi => ?_⟩
  obtain ⟨r, c, r2, c2, h3, h4, h5, h6, h7⟩ := h.2 i hi
  exact ⟨r, c, r2, c2, cell_mono h3 hb, cell_mono h4 hb, cell_mono h5 hb, h6.below hb, h7.below hb⟩
theorem Rl.keep {N : Nat} {w w' : World} {b n k : Nat} {q : Nat → Rat} (h : Rl N w b n k q) (kp : Kp N w w') (s : Sb b w w') : Rl N w' b n k q := by
  refine ⟨?_, fun i hi => ?_⟩
  · obtain ⟨c, h1, h2⟩ := h.1; exact ⟨c, Eq.trans s h1, h2⟩
  · obtain ⟨r, c, r2, c2, h3, h4, h5, h6, h7⟩ := h.2 i hi
    exact ⟨r, c, r2, c2, s.cell.trans h3, s.cell.trans h4, s.cell.trans h5, h6.keep kp, h7.keep kp⟩
theorem Rl.congr {N : Nat} {w : World} {b n k : Nat} {q q' : Nat → Rat} (h : Rl N w b n k q) (e : ∀ i, i < k → q i = q' i) : Rl N w b n k q' :=
  ⟨h.1, fun i hi => by rw [← e i hi]; exact h.2 i hi⟩
theorem Rl.lt {N : Nat} {w : World} {b n k : Nat} {q : Nat → Rat} (h : Rl N w b n k q) : b < w.heap.size := h.1.lt
theorem Rl.bn {N : Nat} {w : World} {b n k : Nat} {q : Nat → Rat} (h : Rl N w b n k q) : Bn w b := h.1.bx.bn (by decide)
theorem Rl.rs {N : Nat} {w : World} {b n : Nat} {q : Nat → Rat} (h : Rl N w b n n q) (hn : n ≤ maxLen) (L : Nat) (hL : ∀ i, i < n → rsz (q i) ≤ L) : Rs N w (some ⟨b, 0, none⟩) n n q L := by
  refine ⟨Nat.le_refl _, hn, fun _ => ⟨b, 0, rfl, fun i hi => ?_⟩⟩
  obtain ⟨r, c, r2, c2, h3, h4, h5, h6, h7⟩ := h.2 i hi
  rw [Nat.zero_add]
  exact ⟨_, _, _, _, _, _, _, h3, h4, h5, Rt.of_norm h6 h7 L (hL i hi)⟩
theorem Rl.step {N : Nat} {w : World} {b n k : Nat} {q : Nat → Rat} (h : Rl N w b n k q) (hN : N ≤ b) (hk : k < n) {r r2 : Option Addr} {c c2 : Nat} (h1 : Nt N w r (nlen (q k).num.natAbs) c (q k).num.natAbs) (h2 : Nt N w r2 (nlen (q k).den) c2 (q k).den) :
    Rl N (((w.setCell ⟨b, k * 3, none⟩ (.bool (decide ((q k).num < 0)))).setCell ⟨b, k * 3 + 1, none⟩ (.slice r (nlen (q k).num.natAbs) c)).setCell ⟨b, k * 3 + 2, none⟩ (.slice r2 (nlen (q k).den) c2)) b n (k + 1) q := by
  have kp : Kp N w (((w.setCell ⟨b, k * 3, none⟩ (.bool (decide ((q k).num < 0)))).setCell ⟨b, k * 3 + 1, none⟩ (.slice r (nlen (q k).num.natAbs) c)).setCell ⟨b, k * 3 + 2, none⟩ (.slice r2 (nlen (q k).den) c2)) :=
    (((Kp.refl N w).put hN h.bn _).put hN (h.bn.set _ _) _).put hN ((h.bn.set _ _).set _ _) _
  refine ⟨((h.1.set _ _).set _ _).set _ _, fun i hi => ?_⟩
  by_cases e : i = k
  · subst e
    obtain ⟨v0, g0⟩ := h.1.cell (o := i * 3) (by omega)
    obtain ⟨v1, g1⟩ := h.1.cell (o := i * 3 + 1) (by omega)
    obtain ⟨v2, g2⟩ := h.1.cell (o := i * 3 + 2) (by omega)
    refine ⟨r, c, r2, c2, ?_, ?_, ?_, h1.keep kp, h2.keep kp⟩
    · exact (World.cell?_setCell_other _ _ _ _ (by first | (simp; done) | (simp; omega))).trans ((World.cell?_setCell_other _ _ _ _ (by first | (simp; done) | (simp; omega))).trans (World.cell?_setCell_same _ _ _ g0))
    · exact (World.cell?_setCell_other _ _ _ _ (by first | (simp; done) | (simp; omega))).trans (World.cell?_setCell_same _ _ _ ((World.cell?_setCell_other _ _ _ _ (by first | (simp; done) | (simp; omega))).trans g1))
    · exact World.cell?_setCell_same _ _ _ ((World.cell?_setCell_other _ _ _ _ (by first | (simp; done) | (simp; omega))).trans ((World.cell?_setCell_other _ _ _ _ (by first | (simp; done) | (simp; omega))).trans g2))
  · obtain ⟨r, c, r2, c2, h3, h4, h5, h6, h7⟩ := h.2 i (by omega)
    refine ⟨r, c, r2, c2, ?_, ?_, ?_, h6.keep kp, h7.keep kp⟩
    all_goals
      refine (World.cell?_setCell_other _ _ _ _ (by first | (simp; done) | (simp; omega))).trans ((World.cell?_setCell_other _ _ _ _ (by first | (simp; done) | (simp; omega))).trans ((World.cell?_setCell_other _ _ _ _ (by first | (simp; done) | (simp; omega))).trans ?_))
      assumption
theorem Rl.made (N : Nat) (w : World) (n : Nat) (q : Nat → Rat) : Rl N (w.alloc (.cells (madeCells #[.bool false, .slice none 0 0, .slice none 0 0] (n * 3)) 28)) w.heap.size n 0 q :=
  ⟨by have := Bk.new w (madeCells #[.bool false, .slice none 0 0, .slice none 0 0] (n * 3)) 28; rwa [size_madeCells] at this, fun i hi => by omega⟩

theorem Tryd.infoNat : (Tryd.prog.info? 24).map (fun i => (i.zero, i.size, i.bytes)) = some (some (.slice none 0 0), 1, 24) := by kernel_rfl
theorem Tryd.infoRat : (Tryd.prog.info? 28).map (fun i => (i.zero, i.size, i.bytes)) = some (some (.agg #[.bool false, .slice none 0 0, .slice none 0 0]), 3, 56) := by kernel_rfl
theorem Tryd.underNats : Tryd.prog.underlying 87 = some (.slice 24) := by kernel_rfl
theorem Tryd.underRats : Tryd.prog.underlying 51 = some (.slice 28) := by kernel_rfl
theorem make_nats (n : Nat) (h : n ≤ 100000) (w : World) :
    (Instr.makeSlice 87 (.int .i64 (n : Int)) (.int .i64 (n : Int))).run Tryd.prog w = .ok (.slice (some ⟨w.heap.size, 0, none⟩) n n) (w.alloc (.cells (madeCells #[.slice none 0 0] n) 24)) :=
  run_make_row' (P := Tryd.prog) 87 24 (.slice none 0 0) 24 Tryd.underNats Tryd.infoNat rfl .i64 .i64 n (by omega) (by omega) w
theorem make_rats (n : Nat) (h : n ≤ 100000) (w : World) :
    (Instr.makeSlice 51 (.int .i64 (n : Int)) (.int .i64 (n : Int))).run Tryd.prog w = .ok (.slice (some ⟨w.heap.size, 0, none⟩) n n) (w.alloc (.cells (madeCells #[.bool false, .slice none 0 0, .slice none 0 0] (n * 3)) 28)) := by
  obtain ⟨i, hi, hzz⟩ := Option.map_eq_some_iff.1 Tryd.infoRat
  simp only [Prod.mk.injEq] at hzz
  obtain ⟨hz, hs, hb⟩ := hzz
  have hr := run_make (P := Tryd.prog) w 51 28 i _ Tryd.underRats hi hz .i64 .i64 n n (by omega) (Int.le_refl _) (by rw [hb]; omega) (by omega)
  rw [hs] at hr
  simpa [Value.cells] using hr

end Go.Proofs.YtmecipfdelgfbaaDoor

namespace Go.Proofs.YtmecipfdelgfbaaDoor
open Go.RowKit

/-- the fraction of two natural numbers -/
def frq (m d : Nat) : Rat := mkRat (m : Int) d
theorem frq_zI (m d : Nat) : mkRat (zI (false != false) m) d = frq m d := rfl
theorem frq_len (m d L : Nat) (h0 : 1 ≤ L) (h1 : nlen m ≤ L) (h2 : nlen d ≤ L) : rsz (frq m d) ≤ L := rsz_mk _ _ L h0 (by simpa using h1) h2

set_option maxHeartbeats 1000000 in
theorem fraction_any {N : Nat} (a b : Option Addr) (na ca m nb cb d : Nat) (w : World) (hN : N ≤ w.heap.size) (h : Nt N w a na ca m) (h' : Nt N w b nb cb d) (hl : na ≤ 1099511627776) (hl' : nb ≤ 1099511627776) (p : Rat) (hp : frq m d = p) :
    Calls Tryd.prog 56 #[.slice a na ca, .slice b nb cb] w (RatPost N w p) := by
  have hN0 := hN
  have HA := Lib.hid h
  have HD := Lib.hid h'
  have HP := Lib.hid hp
  clear h h' hp
  have lm := nlen_bound HA.out _ hl
  have ld := nlen_bound HD.out _ hl'
  have HB := Lib.hid (Below.refl w.heap.size w)
  go_enter Tryd.func56, Tryd.ntmps56
  go_wp2_with fail
  refine calls_name fun W0 hW => ?_
  have hs_W0 : w.heap.size ≤ W0.heap.size := by rw [← hW]; (first | omega | (simp; done) | (simp; omega))
  have k_R_0 : W0.cell? ⟨w.heap.size, 0, none⟩ = some (.bool false) := by rw [← hW]; (first | (go_simp; done) | (simp; done) | (simp [go_sem]; done) | (simp [go_sem]; done))
  have k_R_1 : W0.cell? ⟨w.heap.size, 1, none⟩ = some (.slice none 0 0) := by rw [← hW]; (first | (go_simp; done) | (simp; done) | (simp [go_sem]; done) | (simp [go_sem]; done))
  have k_R_2 : W0.cell? ⟨w.heap.size, 2, none⟩ = some (.slice none 0 0) := by rw [← hW]; (first | (go_simp; done) | (simp; done) | (simp [go_sem]; done) | (simp [go_sem]; done))
  have f_R : ∀ o, W0.frozen? ⟨w.heap.size, o, none⟩ = false := by intro o; rw [← hW]; (first | (go_simp; done) | (simp; done) | (simp [go_sem]; done) | (simp [go_sem]; done))
  have HX_R := Lib.hid (show Bn W0 (w.heap.size) by rw [← hW]; exact KpA)
  replace HB := Lib.hid (show Below w.heap.size w W0 by rw [← hW]; exact BlA)
  replace hN : N ≤ W0.heap.size := by rw [← hW]; (first | omega | (simp; done) | (simp; omega))
  have hs0 : w.heap.size ≤ W0.heap.size := by rw [← hW]; (first | omega | (simp; done) | (simp; omega))
  have hl_R : w.heap.size < W0.heap.size := by rw [← hW]; (first | omega | (simp; done) | (simp; omega))
  clear hW
  refine (make_any (N := N) false _ _ _ m _ hN (HA.out.below HB.out) hl).mono ?_
  rw [Bool.false_and]
  rintro e wa ⟨rx, cx, rfl, hn, hb⟩
  have hs_wa : W0.heap.size ≤ wa.heap.size := hb.size
  replace k_R_0 : wa.cell? ⟨w.heap.size, 0, none⟩ = some (.bool false) := (hb.cell (p := ⟨w.heap.size, 0, none⟩) hl_R).trans k_R_0
  replace k_R_1 : wa.cell? ⟨w.heap.size, 1, none⟩ = some (.slice none 0 0) := (hb.cell (p := ⟨w.heap.size, 1, none⟩) hl_R).trans k_R_1
  replace k_R_2 : wa.cell? ⟨w.heap.size, 2, none⟩ = some (.slice none 0 0) := (hb.cell (p := ⟨w.heap.size, 2, none⟩) hl_R).trans k_R_2
  replace f_R : ∀ o, wa.frozen? ⟨w.heap.size, o, none⟩ = false := fun o => (hb.frozen (p := ⟨w.heap.size, o, none⟩) hl_R).trans (f_R o)
  replace HX_R := Lib.hid (HX_R.out.below hb)
  replace HB := Lib.hid (HB.out.trans (hb.mono hs0))
  replace hN : N ≤ wa.heap.size := Nat.le_trans hN hb.size
  replace hs0 : w.heap.size ≤ wa.heap.size := Nat.le_trans hs0 hb.size
  replace hl_R : w.heap.size < wa.heap.size := Nat.lt_of_lt_of_le hl_R hb.size
  clear hb
  have HX1 := Lib.hid hn
  clear hn
  go_wp2_with fail
  refine calls_name fun W1 hW => ?_
  have hs_W1 : wa.heap.size ≤ W1.heap.size := by rw [← hW]; (first | omega | (simp; done) | (simp; omega))
  have HK_W1 := Lib.hid (show Kp N wa W1 by rw [← hW]; exact KpA)
  replace k_R_0 : W1.cell? ⟨w.heap.size, 0, none⟩ = some (.bool false) := by rw [← hW]; (first | with_reducible exact k_R_0 | (simp [go_sem, k_R_0]; done) | (simp [go_sem, k_R_0, hl_R]; done) | (go_simp; done) | (simp [go_sem, k_R_0, k_R_1, k_R_2, f_R, hl_R]; done))
  replace k_R_1 : W1.cell? ⟨w.heap.size, 1, none⟩ = some (.slice none 0 0) := by rw [← hW]; (first | with_reducible exact k_R_1 | (simp [go_sem, k_R_1]; done) | (simp [go_sem, k_R_1, hl_R]; done) | (go_simp; done) | (simp [go_sem, k_R_0, k_R_1, k_R_2, f_R, hl_R]; done))
  replace k_R_2 : W1.cell? ⟨w.heap.size, 2, none⟩ = some (.slice none 0 0) := by rw [← hW]; (first | with_reducible exact k_R_2 | (simp [go_sem, k_R_2]; done) | (simp [go_sem, k_R_2, hl_R]; done) | (go_simp; done) | (simp [go_sem, k_R_0, k_R_1, k_R_2, f_R, hl_R]; done))
  replace f_R : ∀ o, W1.frozen? ⟨w.heap.size, o, none⟩ = false := by intro o; rw [← hW]; (first | with_reducible exact f_R o | (simp [go_sem, f_R]; done) | (simp [go_sem, f_R, hl_R]; done) | (go_simp; done) | (simp [go_sem, k_R_0, k_R_1, k_R_2, f_R, hl_R]; done))
  replace HX_R := Lib.hid (show Bn W1 (w.heap.size) by rw [← hW]; exact KpA)
  replace HX1 := Lib.hid (HX1.out.keep HK_W1.out)
  replace HB := Lib.hid (show Below w.heap.size w W1 by rw [← hW]; exact BlA)
  replace hN : N ≤ W1.heap.size := by rw [← hW]; (first | omega | (simp; done) | (simp; omega))
  replace hs0 : w.heap.size ≤ W1.heap.size := by rw [← hW]; (first | omega | (simp; done) | (simp; omega))
  replace hl_R : w.heap.size < W1.heap.size := by rw [← hW]; (first | omega | (simp; done) | (simp; omega))
  clear hW HK_W1
  refine (make_any (N := N) false _ _ _ d _ hN (HD.out.below HB.out) hl').mono ?_
  rw [Bool.false_and]
  rintro e wb ⟨ry, cy, rfl, hn, hb⟩
  have hs_wb : W1.heap.size ≤ wb.heap.size := hb.size
  replace k_R_0 : wb.cell? ⟨w.heap.size, 0, none⟩ = some (.bool false) := (hb.cell (p := ⟨w.heap.size, 0, none⟩) hl_R).trans k_R_0
  replace k_R_1 : wb.cell? ⟨w.heap.size, 1, none⟩ = some (.slice none 0 0) := (hb.cell (p := ⟨w.heap.size, 1, none⟩) hl_R).trans k_R_1
  replace k_R_2 : wb.cell? ⟨w.heap.size, 2, none⟩ = some (.slice none 0 0) := (hb.cell (p := ⟨w.heap.size, 2, none⟩) hl_R).trans k_R_2
  replace f_R : ∀ o, wb.frozen? ⟨w.heap.size, o, none⟩ = false := fun o => (hb.frozen (p := ⟨w.heap.size, o, none⟩) hl_R).trans (f_R o)
  replace HX_R := Lib.hid (HX_R.out.below hb)
  replace HX1 := Lib.hid (HX1.out.below hb)
  replace HB := Lib.hid (HB.out.trans (hb.mono hs0))
  replace hN : N ≤ wb.heap.size := Nat.le_trans hN hb.size
  replace hs0 : w.heap.size ≤ wb.heap.size := Nat.le_trans hs0 hb.size
  replace hl_R : w.heap.size < wb.heap.size := Nat.lt_of_lt_of_le hl_R hb.size
  clear hb
  have HX2 := Lib.hid hn
  clear hn
  go_wp2_with fail
  refine calls_name fun W2 hW => ?_
  have hs_W2 : wb.heap.size ≤ W2.heap.size := by rw [← hW]; (first | omega | (simp; done) | (simp; omega))
  have HK_W2 := Lib.hid (show Kp N wb W2 by rw [← hW]; exact KpA)
  replace k_R_0 : W2.cell? ⟨w.heap.size, 0, none⟩ = some (.bool false) := by rw [← hW]; (first | with_reducible exact k_R_0 | (simp [go_sem, k_R_0]; done) | (simp [go_sem, k_R_0, hl_R]; done) | (go_simp; done) | (simp [go_sem, k_R_0, k_R_1, k_R_2, f_R, hl_R]; done))
  replace k_R_1 : W2.cell? ⟨w.heap.size, 1, none⟩ = some (.slice none 0 0) := by rw [← hW]; (first | with_reducible exact k_R_1 | (simp [go_sem, k_R_1]; done) | (simp [go_sem, k_R_1, hl_R]; done) | (go_simp; done) | (simp [go_sem, k_R_0, k_R_1, k_R_2, f_R, hl_R]; done))
  replace k_R_2 : W2.cell? ⟨w.heap.size, 2, none⟩ = some (.slice none 0 0) := by rw [← hW]; (first | with_reducible exact k_R_2 | (simp [go_sem, k_R_2]; done) | (simp [go_sem, k_R_2, hl_R]; done) | (go_simp; done) | (simp [go_sem, k_R_0, k_R_1, k_R_2, f_R, hl_R]; done))
  replace f_R : ∀ o, W2.frozen? ⟨w.heap.size, o, none⟩ = false := by intro o; rw [← hW]; (first | with_reducible exact f_R o | (simp [go_sem, f_R]; done) | (simp [go_sem, f_R, hl_R]; done) | (go_simp; done) | (simp [go_sem, k_R_0, k_R_1, k_R_2, f_R, hl_R]; done))
  replace HX_R := Lib.hid (show Bn W2 (w.heap.size) by rw [← hW]; exact KpA)
  replace HX1 := Lib.hid (HX1.out.keep HK_W2.out)
  replace HX2 := Lib.hid (HX2.out.keep HK_W2.out)
  replace HB := Lib.hid (show Below w.heap.size w W2 by rw [← hW]; exact BlA)
  replace hN : N ≤ W2.heap.size := by rw [← hW]; (first | omega | (simp; done) | (simp; omega))
  replace hs0 : w.heap.size ≤ W2.heap.size := by rw [← hW]; (first | omega | (simp; done) | (simp; omega))
  replace hl_R : w.heap.size < W2.heap.size := by rw [← hW]; (first | omega | (simp; done) | (simp; omega))
  clear hW HK_W2
  refine (rmake_any (N := N) false false _ _ _ _ m _ _ d _ hN HX1.out HX2.out (by omega) (by omega) p (by exact HP.out)).mono ?_
  rintro e wc ⟨ru, cu, ru2, cu2, rfl, hn, hn', hb⟩
  have hs_wc : W2.heap.size ≤ wc.heap.size := hb.size
  replace k_R_0 : wc.cell? ⟨w.heap.size, 0, none⟩ = some (.bool false) := (hb.cell (p := ⟨w.heap.size, 0, none⟩) hl_R).trans k_R_0
  replace k_R_1 : wc.cell? ⟨w.heap.size, 1, none⟩ = some (.slice none 0 0) := (hb.cell (p := ⟨w.heap.size, 1, none⟩) hl_R).trans k_R_1
  replace k_R_2 : wc.cell? ⟨w.heap.size, 2, none⟩ = some (.slice none 0 0) := (hb.cell (p := ⟨w.heap.size, 2, none⟩) hl_R).trans k_R_2
  replace f_R : ∀ o, wc.frozen? ⟨w.heap.size, o, none⟩ = false := fun o => (hb.frozen (p := ⟨w.heap.size, o, none⟩) hl_R).trans (f_R o)
  replace HX_R := Lib.hid (HX_R.out.below hb)
  replace HX1 := Lib.hid (HX1.out.below hb)
  replace HX2 := Lib.hid (HX2.out.below hb)
  replace HB := Lib.hid (HB.out.trans (hb.mono hs0))
  replace hN : N ≤ wc.heap.size := Nat.le_trans hN hb.size
  replace hs0 : w.heap.size ≤ wc.heap.size := Nat.le_trans hs0 hb.size
  replace hl_R : w.heap.size < wc.heap.size := Nat.lt_of_lt_of_le hl_R hb.size
  clear hb
  have HP1 := Lib.hid hn
  clear hn
  have HQ1 := Lib.hid hn'
  clear hn'
  go_wp2_with fail
  refine bodyPost_ret (v := .agg #[.bool (decide ((p).num < 0)), .slice ru (nlen (p).num.natAbs) cu, .slice ru2 (nlen (p).den) cu2]) (by simp [results, Tryd.results56, go_sem, k_R_0, k_R_1, k_R_2, hl_R]) rfl ⟨_, _, _, _, rfl, HP1.out.keep ?_, HQ1.out.keep ?_, ?_⟩
  all_goals exact KBA

/-- q is a probability -/
def prb (q : Rat) : Bool := decide (0 ≤ q ∧ q ≤ 1)
theorem sgn_lt (q : Rat) (h : q < 0) : decide (0 ≤ q.num.sign) = false := by
  have h1 : q.num < 0 := by
    rcases Int.lt_or_le q.num 0 with h1 | h1
    · exact h1
    · have := Rat.num_nonneg.1 h1; grind
  rw [Int.sign_eq_neg_one_of_neg h1]; decide
theorem sgn_ge (q : Rat) (h : 0 ≤ q) : decide (0 ≤ q.num.sign) = true := by
  have h1 := Rat.num_nonneg.2 h
  rcases Int.lt_or_eq_of_le h1 with h2 | h2
  · rw [Int.sign_eq_one_of_pos h2]; decide
  · rw [← h2]; decide
theorem cmp_le (p q : Rat) : decide (cmpQ p q ≤ 0) = decide (p ≤ q) := by
  unfold cmpQ
  by_cases h1 : p < q
  · rw [if_pos h1, decide_eq_true (by omega), decide_eq_true (by grind)]
  · rw [if_neg h1]
    by_cases h2 : q < p
    · rw [if_pos h2, decide_eq_false (by omega), decide_eq_false (by grind)]
    · rw [if_neg h2, decide_eq_true (by omega), decide_eq_true (by grind)]
theorem rat_one (p : Rat) (hp : mkRat (zI (decide ((1 : Int) < 0) != decide ((1 : Int) < 0)) (1 : Int).natAbs) (1 : Int).natAbs = p) : p = 1 := by rw [← hp]; rfl
theorem rsz_one : rsz 1 ≤ 1 := rsz_mk 1 1 1 (by omega) (nlen_small (by decide)) (nlen_small (by decide))

theorem prb_le (q : Rat) (h : prb q = true) : q.num.natAbs ≤ q.den := by
  unfold prb at h
  obtain ⟨h0, h1⟩ := of_decide_eq_true h
  have h2 := Rat.num_nonneg.2 h0
  have h3 : q.num ≤ q.den := by
    have := (Rat.le_iff _ _).1 h1
    simpa using this
  omega

end Go.Proofs.YtmecipfdelgfbaaDoor

namespace Go.Proofs.YtmecipfdelgfbaaDoor
open Go.RowKit

theorem nlen_add1 (a b L : Nat) (ha : nlen a ≤ L) (hb : nlen b ≤ L) : nlen (a + b) ≤ L + 1 := by
  apply nlen_le
  have h1 := Nat.lt_of_lt_of_le (lt_pow_nlen a) (pB_le ha)
  have h2 := Nat.lt_of_lt_of_le (lt_pow_nlen b) (pB_le hb)
  rw [pB_succ]
  have : B ^ L * 2 ≤ B ^ L * B := Nat.mul_le_mul_left _ (by decide)
  omega
/-- sums of few numbers have one limb more -/
theorem sN_bound (m : Nat → Nat) (c : Nat) : ∀ n, (∀ i, i < n → m i ≤ c) → sN m n ≤ n * c
  | 0, _ => by simp [sN]
  | n + 1, h => by
    have := sN_bound m c n (fun i hi => h i (by omega))
    have := h n (by omega)
    simp only [sN]; rw [Nat.add_mul]; omega
theorem nlen_sN (m : Nat → Nat) (n L : Nat) (h : ∀ i, i < n → nlen (m i) ≤ L) (hn : n ≤ 4294967295) : nlen (sN m n) ≤ L + 1 := by
  apply nlen_le
  have h1 := sN_bound m (B ^ L - 1) n (fun i hi => by have := Nat.lt_of_lt_of_le (lt_pow_nlen (m i)) (pB_le (h i hi)); omega)
  have h2 := pB L
  rw [pB_succ]
  have h3 : n * (B ^ L - 1) ≤ 4294967295 * (B ^ L - 1) := Nat.mul_le_mul_right _ hn
  have h4 : B = 4294967296 := B_eq
  rw [h4] at h1 h3 ⊢
  rw [h4] at h2
  omega

set_option maxHeartbeats 1000000 in
theorem total_any {N : Nat} (a : Option Addr) (n cap : Nat) (m : Nat → Nat) (L : Nat) (w : World) (hN : N ≤ w.heap.size) (h : Ns N w a n cap m L) (hL : L ≤ 68719476736) (hn : n ≤ 4294967295) :
    Calls Tryd.prog 70 #[.slice a n cap] w fun e w' => ∃ r cr, e = .returned (.slice r (nlen (sN m n)) cr) ∧ Nt N w' r (nlen (sN m n)) cr (sN m n) ∧ Below w.heap.size w w' := by
  have hlim := Lib.hid h.lim
  have HA := Lib.hid h
  have bc := h.1
  have bm := h.2.1
  unfold maxLen at bm
  clear h
  go_enter Tryd.func70, Tryd.ntmps70
  go_wp2_with fail
  go_loopw [3, 8] (fun s i wr => ∃ (k : Nat) (r : Option Addr) (c : Nat), k ≤ n ∧ i = .int .i64 k ∧ s = .slice r (nlen (sN m k)) c ∧ Nt N wr r (nlen (sN m k)) c (sN m k) ∧ Below w.heap.size w wr ∧ w.heap.size ≤ wr.heap.size) (fun _ i _ => n - (intOf i).toNat)
  case atStart => exact ⟨0, none, 0, Nat.zero_le _, rfl, by simp only [sN]; rw [nlen_zero], by simp only [sN]; rw [nlen_zero]; exact Nt.zero _ _, Below.refl _ _, Nat.le_refl _⟩
  case round =>
    obtain ⟨k, r, c, hk, rfl, rfl, hs, hbel, hsz⟩ := hrel
    have HS := Lib.hid hs
    have HB := Lib.hid hbel
    clear hs hbel
    by_cases hkn : k < n
    · have HA2 := Lib.hid (HA.out.below HB.out)
      obtain ⟨b, off, rfl, hc⟩ := HA2.out.2.2 (by omega)
      obtain ⟨ra, rn, rc, hcell, hnt, hrl⟩ := hc k hkn
      have HNt := Lib.hid hnt
      clear hc hnt
      have l1 : nlen (sN m k) ≤ L + 1 := nlen_sN m k L (fun i hi => hlim.out i (by omega)) (by omega)
      go_wp2_with fail
      refine (add_any (N := N) _ _ _ _ (sN m k) _ _ (m k) _ (by omega) HS.out HNt.out (by omega) (by omega)).mono ?_
      rintro e wa ⟨ra', ca', rfl, hn1, hb1⟩
      have HN1 := Lib.hid hn1
      have HB1 := Lib.hid (HB.out.trans (hb1.mono hsz))
      have hs1 := hb1.size
      clear hn1 hb1
      go_wp2_with fail
      go_roundw
      case rel => exact ⟨k + 1, _, _, by omega, by go_num, rfl, HN1.out, HB1.out, by omega⟩
      case measure => simp [intOf]; omega
    · obtain rfl : k = n := by omega
      go_wp2_with fail
      go_ret
      exact ⟨_, _, rfl, HS.out, HB.out⟩

/-- it returns a new list of rational numbers in normal form -/
def ListPost (N : Nat) (w : World) (n : Nat) (q : Nat → Rat) (e : Ending) (w' : World) : Prop :=
  ∃ b, e = .returned (.slice (some ⟨b, 0, none⟩) n n) ∧ w.heap.size ≤ b ∧ b < w'.heap.size ∧ Rl N w' b n n q ∧ Below w.heap.size w w'

set_option maxHeartbeats 2000000 in
theorem fractions_any {N : Nat} (a d : Option Addr) (n cap : Nat) (m : Nat → Nat) (L nd cd md : Nat) (w : World) (hN : N ≤ w.heap.size) (h : Ns N w a n cap m L) (hd : Nt N w d nd cd md) (hL : L ≤ 1099511627776) (hnd : nd ≤ 1099511627776) (hn : n ≤ 1000) (q : Nat → Rat) (hq : ∀ i, i < n → frq (m i) md = q i) :
    Calls Tryd.prog 65 #[.slice a n cap, .slice d nd cd] w (ListPost N w n q) := by
  have HA := Lib.hid h
  have HD := Lib.hid hd
  have HQ := Lib.hid hq
  have bc := h.1
  have bm := h.2.1
  unfold maxLen at bm
  clear h hd hq
  have hmk := make_rats n (by omega)
  go_enter Tryd.func65, Tryd.ntmps65
  go_wp2_with fail
  go_loopw [6, 7, 13] (fun _ _ i wr => ∃ k : Nat, k ≤ n ∧ i = .int .i64 k ∧ Rl N wr w.heap.size n k q ∧ Below w.heap.size w wr ∧ w.heap.size < wr.heap.size) (fun _ _ i _ => n - (intOf i).toNat)
  case atStart => exact ⟨0, Nat.zero_le _, rfl, Rl.made N w n q, bel1 w _, by simp⟩
  case round =>
    obtain ⟨k, hk, rfl, hr, hbel, hsz⟩ := hrel
    have HR := Lib.hid hr
    have HB := Lib.hid hbel
    clear hr hbel hmk
    by_cases hkn : k < n
    · have HA2 := Lib.hid (HA.out.below HB.out)
      obtain ⟨b, off, rfl, hc⟩ := HA2.out.2.2 (by omega)
      obtain ⟨ra, rn, rc, hcell, hnt, hrl⟩ := hc k hkn
      have HNt := Lib.hid hnt
      have HDt := Lib.hid (HD.out.below HB.out)
      clear hc hnt
      go_wp2_with fail
      refine (fraction_any (N := N) _ _ _ _ (m k) _ _ md _ (by omega) HNt.out HDt.out (by omega) (by omega) (q k) (HQ.out k hkn)).mono ?_
      rintro e wa ⟨r1, c1, r2, c2, rfl, hn1, hn2, hb1⟩
      have HN1 := Lib.hid hn1
      have HN2 := Lib.hid hn2
      have HB1 := Lib.hid (HB.out.trans (hb1.mono (by omega)))
      have HR1 := Lib.hid (HR.out.below hb1)
      have hs1 := hb1.size
      clear hn1 hn2 hb1 hcell
      obtain ⟨v0, p0⟩ := HR1.out.1.cell (o := k * 3) (by omega)
      obtain ⟨v1, p1⟩ := HR1.out.1.cell (o := k * 3 + 1) (by omega)
      obtain ⟨v2, p2⟩ := HR1.out.1.cell (o := k * 3 + 2) (by omega)
      have fz := HR1.out.1.frozen
      go_wp2_with fail
      go_roundw
      case rel => exact ⟨k + 1, by omega, by go_num, HR1.out.step hN hkn HN1.out HN2.out, ((HB1.out.setCell (Nat.le_refl _) _).setCell (Nat.le_refl _) _).setCell (Nat.le_refl _) _, by simp [World.setCell]; omega⟩
      case measure => simp [intOf]; omega
    · obtain rfl : k = n := by omega
      go_wp2_with fail
      go_ret
      exact ⟨_, rfl, Nat.le_refl _, hsz, HR.out, HB.out⟩

end Go.Proofs.YtmecipfdelgfbaaDoor

namespace Go.Proofs.YtmecipfdelgfbaaDoor
open Go.RowKit

/-! ### The convolution of numbers -/
def cvT (a b : Nat → Nat) (lb k i : Nat) : Nat := if i ≤ k ∧ k - i < lb then a i * b (k - i) else 0
def cvN (a b : Nat → Nat) (lb k n : Nat) : Nat := sN (cvT a b lb k) n
/-- what lies at k behind i rounds and j steps of the next -/
def cvS (a b : Nat → Nat) (lb i j k : Nat) : Nat := cvN a b lb k i + cvT a b j k i
theorem cvS_start (a b : Nat → Nat) (lb k : Nat) : cvS a b lb 0 0 k = 0 := by simp [cvS, cvN, sN, cvT]
theorem cvS_next (a b : Nat → Nat) (lb i k : Nat) : cvS a b lb (i + 1) 0 k = cvS a b lb i lb k := by simp [cvS, cvN, sN, cvT]
theorem cvS_end (a b : Nat → Nat) (lb i k : Nat) : cvS a b lb i 0 k = cvN a b lb k i := by simp [cvS, cvT]
theorem cvS_step (a b : Nat → Nat) (lb i j k : Nat) : cvS a b lb i (j + 1) k = if k = i + j then cvS a b lb i j k + a i * b j else cvS a b lb i j k := by
  unfold cvS cvT
  by_cases h : k = i + j
  · subst h
    rw [if_pos rfl, if_pos (by omega), if_neg (by omega), show i + j - i = j by omega]; omega
  · rw [if_neg h]
    by_cases h2 : i ≤ k ∧ k - i < j
    · rw [if_pos h2, if_pos (by omega)]
    · rw [if_neg h2, if_neg (by omega)]
theorem cvT_len {a b : Nat → Nat} {la lb La Lb : Nat} (ha : ∀ i, i < la → nlen (a i) ≤ La) (hb : ∀ i, i < lb → nlen (b i) ≤ Lb) (j k i : Nat) (hj : j ≤ lb) (hi : i < la) : nlen (cvT a b j k i) ≤ La + Lb := by
  unfold cvT
  by_cases h : i ≤ k ∧ k - i < j
  · rw [if_pos h]
    have h1 := nlen_mul (a i) (b (k - i))
    have h2 := ha i hi
    have h3 := hb (k - i) (by omega)
    omega
  · rw [if_neg h, nlen_zero]; omega
theorem nlen_le_pow {m L : Nat} (h : nlen m ≤ L) : m ≤ B ^ L - 1 := by
  have := Nat.lt_of_lt_of_le (lt_pow_nlen m) (pB_le h); omega
theorem nlen_times {c L n : Nat} (h : c ≤ n * (B ^ L - 1)) (hn : n ≤ 4294967295) : nlen c ≤ L + 1 := by
  apply nlen_le
  have h2 := pB L
  rw [pB_succ]
  have h3 : n * (B ^ L - 1) ≤ 4294967295 * (B ^ L - 1) := Nat.mul_le_mul_right _ hn
  have h4 : B = 4294967296 := B_eq
  rw [h4] at h h3 ⊢
  rw [h4] at h2
  omega
theorem cvN_len {a b : Nat → Nat} {la lb La Lb : Nat} (ha : ∀ i, i < la → nlen (a i) ≤ La) (hb : ∀ i, i < lb → nlen (b i) ≤ Lb) (k : Nat) (hl : la ≤ 4294967295) : nlen (cvN a b lb k la) ≤ La + Lb + 1 :=
  nlen_times (sN_bound _ _ la (fun i hi => nlen_le_pow (cvT_len ha hb lb k i (Nat.le_refl _) hi))) hl
theorem cvS_len {a b : Nat → Nat} {la lb La Lb : Nat} (ha : ∀ i, i < la → nlen (a i) ≤ La) (hb : ∀ i, i < lb → nlen (b i) ≤ Lb) (i j k : Nat) (hi : i < la) (hj : j ≤ lb) (hl : la ≤ 4294967295) : nlen (cvS a b lb i j k) ≤ La + Lb + 1 := by
  have h1 := sN_bound (cvT a b lb k) (B ^ (La + Lb) - 1) i (fun i' hi' => nlen_le_pow (cvT_len ha hb lb k i' (Nat.le_refl _) (by omega)))
  have h2 := nlen_le_pow (cvT_len ha hb j k i hj hi)
  refine nlen_times (n := i + 1) ?_ (by omega)
  unfold cvS cvN
  rw [Nat.add_mul]; omega

theorem Nl.step {N : Nat} {w : World} {b n L k : Nat} {m m' : Nat → Nat} (h : Nl N w b n m L) (hN : N ≤ b) (hk : k < n) {r : Option Addr} {l c : Nat} (hv : Nt N w r l c (m' k)) (hl : l ≤ L) (e : ∀ i, i < n → i ≠ k → m i = m' i) :
    Nl N (w.setCell ⟨b, k, none⟩ (.slice r l c)) b n m' L :=
  (h.set hN hk hv hl).congr (fun i hi => by by_cases h : i = k; (· rw [if_pos h, h]); (· rw [if_neg h]; exact e i hi h))

/-- it returns a new list of natural numbers -/
def NatsPost (N : Nat) (w : World) (n : Nat) (m : Nat → Nat) (L : Nat) (e : Ending) (w' : World) : Prop :=
  ∃ b, e = .returned (.slice (some ⟨b, 0, none⟩) n n) ∧ w.heap.size ≤ b ∧ b < w'.heap.size ∧ Nl N w' b n m L ∧ Below w.heap.size w w'

set_option maxHeartbeats 4000000 in
theorem product_any {N : Nat} (a b : Option Addr) (la ca lb cb La Lb : Nat) (x y : Nat → Nat) (w : World) (hN : N ≤ w.heap.size) (ha : Ns N w a la ca x La) (hb : Ns N w b lb cb y Lb) (hLa : La ≤ 34359738368) (hLb : Lb ≤ 34359738368) (M : Nat) (hM : la + lb = M + 1) (a0 : 0 < la) (b0 : 0 < lb) (a1 : la ≤ 1000) (b1 : lb ≤ 1000) :
    Calls Tryd.prog 66 #[.slice a la ca, .slice b lb cb] w (NatsPost N w M (fun k => cvN x y lb k la) (La + Lb + 1)) := by
  have hxl := Lib.hid ha.lim
  have hyl := Lib.hid hb.lim
  have HA := Lib.hid ha
  have HY := Lib.hid hb
  have c1 := ha.1
  have c2 := ha.2.1
  have c3 := hb.1
  have c4 := hb.2.1
  unfold maxLen at c2 c4
  obtain ⟨ba, oa, rfl, hca⟩ := ha.2.2 a0
  obtain ⟨bb, ob, rfl, hcb⟩ := hb.2.2 b0
  clear ha hb hca hcb
  have hmk := make_nats M (by omega)
  have ec : (M : Int) = (la : Int) + (lb : Int) - 1 := by omega
  rw [ec] at hmk
  clear ec
  go_enter Tryd.func66, Tryd.ntmps66
  go_wp2_with fail
  go_loopw [19] (fun i wr => ∃ k : Nat, k ≤ la ∧ i = .int .i64 k ∧ Nl N wr w.heap.size M (cvS x y lb k 0) (La + Lb + 1) ∧ Below w.heap.size w wr ∧ w.heap.size < wr.heap.size) (fun i _ => la - (intOf i).toNat)
  case atStart => exact ⟨0, Nat.zero_le _, rfl, (Nl.made N w _ _).congr (fun i _ => (cvS_start x y lb i).symm), bel1 w _, by simp⟩
  case round =>
    obtain ⟨k, hk, rfl, hr, hbel, hsz⟩ := hrel
    have HR := Lib.hid hr
    have HB := Lib.hid hbel
    clear hr hbel hmk
    by_cases hkn : k < la
    · obtain ⟨ba', oa', e, hc⟩ := (HA.out.below HB.out).2.2 a0
      cases e
      obtain ⟨ra, rn, rc, hcell, hnt, hrl⟩ := hc k hkn
      have HX := Lib.hid hnt
      clear hc hnt
      go_wp2_with fail
      obtain ⟨wo, rfl⟩ : ∃ wo : World, wo = wr := ⟨_, rfl⟩
      clear hcell
      go_loopw [26] (fun j wq => ∃ l : Nat, l ≤ lb ∧ j = .int .i64 l ∧ Nl N wq w.heap.size M (cvS x y lb k l) (La + Lb + 1) ∧ Below w.heap.size w wq ∧ w.heap.size < wq.heap.size ∧ Nt N wq ra rn rc (x k)) (fun j _ => lb - (intOf j).toNat)
      case atStart => exact ⟨0, Nat.zero_le _, rfl, HR.out, HB.out, hsz, HX.out⟩
      case round =>
        obtain ⟨l, hl, rfl, hr, hbel, hsz2, hx⟩ := hrel
        have HR2 := Lib.hid hr
        have HB2 := Lib.hid hbel
        have HX2 := Lib.hid hx
        clear hr hbel hx
        by_cases hln : l < lb
        · obtain ⟨bb', ob', e, hc⟩ := (HY.out.below HB2.out).2.2 b0
          cases e
          obtain ⟨rb, bn, bc, hcell, hnt, hrl2⟩ := hc l hln
          have HY2 := Lib.hid hnt
          clear hc hnt
          obtain ⟨rs, sn, sc, hs, hsn, hsl⟩ := HR2.out.2 (k + l) (by omega)
          have HS2 := Lib.hid hsn
          clear hsn
          have fz := HR2.out.1.frozen (k + l)
          have hlt : w.heap.size < wr.heap.size := hsz2
          have lx := nlen_bound HX2.out _ hrl
          have ly := nlen_bound HY2.out _ hrl2
          have lm := nlen_mul (x k) (y l)
          have hwr : IntKind.i64.wrap ((k : Int) + (l : Int)) = (k : Int) + (l : Int) := by rw [IntKind.wrap_i64]; omega
          have hi0 : (0 : Int) ≤ (k : Int) + (l : Int) := by omega
          have hi1 : (k : Int) + (l : Int) < (M : Int) := by omega
          have hi2 : ((k : Int) + (l : Int)).toNat = k + l := by omega
          have hNr : N ≤ wr.heap.size := by omega
          have HE := Lib.hid (show cvS x y lb k (l + 1) (k + l) = cvS x y lb k l (k + l) + x k * y l by rw [cvS_step, if_pos rfl])
          have HO := Lib.hid (show ∀ i, i ≠ k + l → cvS x y lb k (l + 1) i = cvS x y lb k l i from fun i hi => by rw [cvS_step, if_neg hi])
          have HL := Lib.hid (show nlen (cvS x y lb k (l + 1) (k + l)) ≤ La + Lb + 1 from cvS_len hxl.out hyl.out k (l + 1) (k + l) hkn (by omega) (by omega))
          go_wp2_with fail
          go_region_with
            (first
              | (go_at_call 53; refine (mul_any (N := N) _ _ _ _ (x k) _ _ (y l) _ (by exact hNr) (by exact HX2.out) (by exact HY2.out) (by omega) (by omega)).mono ?_; rintro e wa ⟨r1, k1, rfl, hn1, hb⟩; replace hb : Below wr.heap.size wr wa := (by first | exact hb | exact bel_of_drew hb); have hs1 := hb.size; have ks := (hb.cell (p := ⟨w.heap.size, k + l, none⟩) hlt).trans hs; have HN1 := Lib.hid hn1; have HR3 := Lib.hid (HR2.out.below hb); have HX3 := Lib.hid (HX2.out.below hb); have HS3 := Lib.hid (HS2.out.below hb); have HB3 := Lib.hid (HB2.out.trans (hb.mono (by omega))); clear hb hn1)
              | (go_at_call 55; refine (add_any (N := N) _ _ _ _ (cvS x y lb k l (k + l)) _ _ (x k * y l) _ (by exact (show N ≤ wa.heap.size by omega)) (by exact HS3.out) (by exact HN1.out) (by omega) (by omega)).mono ?_; rintro e wc ⟨r2, k2, rfl, hn2, hb⟩; replace hb : Below wa.heap.size wa wc := (by first | exact hb | exact bel_of_drew hb); have hs2 := hb.size; have ks2 := (hb.cell (p := ⟨w.heap.size, k + l, none⟩) (show w.heap.size < wa.heap.size by omega)).trans ks; have HN2 := Lib.hid hn2; have HR4 := Lib.hid (HR3.out.below hb); have fz4 := HR4.out.1.frozen (k + l); have HX4 := Lib.hid (HX3.out.below hb); have HB4 := Lib.hid (HB3.out.trans (hb.mono (by omega))); clear hb hn2))
          all_goals
            go_wp2_with fail
            go_roundw
            case rel => exact ⟨l + 1, by omega, by go_num, HR4.out.step hN (by omega) (by rw [HE.out]; exact HN2.out) (by rw [← HE.out]; exact HL.out) (fun i _ hi => (HO.out i hi).symm), HB4.out.setCell (Nat.le_refl _) _, by simp [World.setCell]; omega, HX4.out.keep ((Kp.refl _ _).put hN HR4.out.bn _)⟩
            case measure => simp [intOf]; omega
        · obtain rfl : l = lb := by omega
          go_wp2_with fail
          go_roundw
          case rel => exact ⟨k + 1, by omega, by go_num, HR2.out.congr (fun i _ => (cvS_next x y l k i).symm), HB2.out, hsz2⟩
          case measure => simp [intOf]; omega
    · obtain rfl : k = la := by omega
      go_wp2_with fail
      go_ret
      exact ⟨_, rfl, Nat.le_refl _, hsz, HR.out.congr (fun i _ => cvS_end x y lb k i), HB.out⟩

end Go.Proofs.YtmecipfdelgfbaaDoor
