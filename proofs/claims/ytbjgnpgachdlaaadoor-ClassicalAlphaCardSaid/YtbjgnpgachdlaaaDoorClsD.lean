/- Contract of classical.reliability: for every slice of slices of integers. -/
import Derived.Test.YtbjgnpgachdlaaaDoorClsC
import Derived.RegionTactic
namespace Go.Proofs.YtbjgnpgachdlaaaDoor
open Go.RowKit

/-- it returns the normal forms of p1 and p2, and an error code -/
def RelPost (N : Nat) (w : World) (p1 p2 : Rat) (c : Int) (e : Ending) (w' : World) : Prop :=
  ∃ r1 c1 r2 c2 r3 c3 r4 c4, e = .returned (.tuple #[.agg #[.bool (decide (p1.num < 0)), .slice r1 (nlen p1.num.natAbs) c1, .slice r2 (nlen p1.den) c2], .agg #[.bool (decide (p2.num < 0)), .slice r3 (nlen p2.num.natAbs) c3, .slice r4 (nlen p2.den) c4], .int .i64 c]) ∧
    Nt N w' r1 (nlen p1.num.natAbs) c1 p1.num.natAbs ∧ Nt N w' r2 (nlen p1.den) c2 p1.den ∧ Nt N w' r3 (nlen p2.num.natAbs) c3 p2.num.natAbs ∧ Nt N w' r4 (nlen p2.den) c4 p2.den ∧ Below w.heap.size w w'
def set3 (w : World) (b : Nat) (v0 v1 v2 : Value) : World := ((w.setCell ⟨b, 0, none⟩ v0).setCell ⟨b, 1, none⟩ v1).setCell ⟨b, 2, none⟩ v2
theorem rowIs_below' {w w' : World} {b n : Nat} {t : TypeId} {f : Nat → Value} (h : w.rowIs b t n f) (hb : Below w.heap.size w w') : w'.rowIs b t n f := by
  obtain ⟨c, h1, h2⟩ := h
  exact ⟨c, (hb.block b (Array.getElem?_eq_some_iff.1 h1).1).trans h1, h2⟩
theorem fin33 {N b0 b b' n1 m1 k1 n2 m2 k2 n3 m3 k3 n4 m4 k4 : Nat} {w w1 : World} {r1 r2 r3 r4 : Option Addr} (hN : N ≤ b0) (hb : b0 ≤ b) (hb' : b0 ≤ b') (x : Bx w1 b 28) (x' : Bx w1 b' 28) (h1 : Nt N w1 r1 n1 k1 m1) (h2 : Nt N w1 r2 n2 k2 m2) (h3 : Nt N w1 r3 n3 k3 m3) (h4 : Nt N w1 r4 n4 k4 m4) (hbel : Below b0 w w1) (v0 v1 v2 v3 v4 v5 : Value) :
    Nt N (set3 (set3 w1 b v0 v1 v2) b' v3 v4 v5) r1 n1 k1 m1 ∧ Nt N (set3 (set3 w1 b v0 v1 v2) b' v3 v4 v5) r2 n2 k2 m2 ∧ Nt N (set3 (set3 w1 b v0 v1 v2) b' v3 v4 v5) r3 n3 k3 m3 ∧ Nt N (set3 (set3 w1 b v0 v1 v2) b' v3 v4 v5) r4 n4 k4 m4 ∧ Below b0 w (set3 (set3 w1 b v0 v1 v2) b' v3 v4 v5) := by
  have a := fin3 hN hb x h1 h2 hbel v0 v1 v2
  have a' := fin3 hN hb x h3 h4 hbel v0 v1 v2
  have y : Bx (set3 w1 b v0 v1 v2) b' 28 := ((x'.set _ _).set _ _).set _ _
  have c := fin3 hN hb' y a.1 a.2.1 a.2.2 v3 v4 v5
  have c' := fin3 hN hb' y a'.1 a'.2.1 a'.2.2 v3 v4 v5
  exact ⟨c.1, c.2.1, c'.1, c'.2.1, c.2.2⟩

set_option maxHeartbeats 4000000 in
theorem rel_no {N : Nat} (a : Option Addr) (n cap : Nat) (ra : Nat → Option Addr) (rn rc : Nat → Nat) (z : Nat → Nat → Int) (w : World) (hN : N ≤ w.heap.size) (h : Rw w a n cap ra rn rc z) (c : Int) (hc : rowsC n rn z = c) (hc0 : c ≠ 0) (p : Rat) (hp : (0 : Rat) = p) :
    Calls Tryd.prog 50 #[.slice a n cap] w (RelPost N w p p c) := by
  have HR := Lib.hid ((h.alloc (.cells #[.bool false, .slice none 0 0, .slice none 0 0] 28)).alloc (.cells #[.bool false, .slice none 0 0, .slice none 0 0] 28))
  have HC := Lib.hid hc
  have HP := Lib.hid hp
  have hcb : (c != 0) = true := by simpa using hc0
  clear h hc hp hc0
  go_enter Tryd.func50, Tryd.ntmps50
  go_wp2_with fail
  refine (checkRows_any _ _ _ ra rn rc z _ HR.out).mono ?_
  rw [HC.out]
  rintro e w' ⟨rfl, rfl⟩
  go_wp2_with fail
  refine (czero_any (N := N) _ (by simp; omega) p HP.out).mono ?_
  rintro e wa ⟨rx, cx, rx2, cx2, rfl, hn, hn', hb⟩
  obtain ⟨hcwa, hfwa⟩ := bcell hb
  have hzwa0 : w.heap.size < wa.heap.size := by have := hb.size; (try simp at this); omega
  have hzwa1 : w.heap.size + 1 < wa.heap.size := by have := hb.size; (try simp at this); omega
  have HBwa := Lib.hid hb
  have HNwa := Lib.hid hn
  have HN'wa := Lib.hid hn'
  clear hb hn hn'
  go_wp2_with fail
  refine (czero_any (N := N) _ (by omega) p HP.out).mono ?_
  rintro e wb ⟨ry, cy, ry2, cy2, rfl, hn, hn', hb⟩
  obtain ⟨hcwb, hfwb⟩ := bcell hb
  have hzwb0 : w.heap.size < wb.heap.size := by have := hb.size; (try simp at this); omega
  have hzwb1 : w.heap.size + 1 < wb.heap.size := by have := hb.size; (try simp at this); omega
  have HBwb := Lib.hid hb
  have HNwb := Lib.hid hn
  have HN'wb := Lib.hid hn'
  clear hb hn hn'
  have HX0 := Lib.hid ((((Bx.new' w #[.bool false, .slice none 0 0, .slice none 0 0] 28 w.heap.size rfl).alloc (.cells #[.bool false, .slice none 0 0, .slice none 0 0] 28)).below HBwa.out).below HBwb.out)
  have HX1 := Lib.hid (((Bx.new' (w.alloc (.cells #[.bool false, .slice none 0 0, .slice none 0 0] 28)) #[.bool false, .slice none 0 0, .slice none 0 0] 28 (w.heap.size + 1) (by simp)).below HBwa.out).below HBwb.out)
  have HF := Lib.hid (fun v0 v1 v2 v3 v4 v5 => fin33 hN (Nat.le_refl _) (Nat.le_succ _) HX0.out HX1.out (HNwa.out.below HBwb.out) (HN'wa.out.below HBwb.out) HNwb.out HN'wb.out (((bel2 w _ _).trans (HBwa.out.mono (by first | omega | (simp; done) | (simp; omega)))).trans (HBwb.out.mono (by first | omega | (simp; done) | (simp; omega)))) v0 v1 v2 v3 v4 v5)
  have K0 := (((Bk.new' w #[.bool false, .slice none 0 0, .slice none 0 0] 28 w.heap.size rfl).below (bel1 _ (.cells #[.bool false, .slice none 0 0, .slice none 0 0] 28))).below HBwa.out).below HBwb.out
  have K1 := ((Bk.new' (w.alloc (.cells #[.bool false, .slice none 0 0, .slice none 0 0] 28)) #[.bool false, .slice none 0 0, .slice none 0 0] 28 (w.heap.size + 1) (by simp)).below HBwa.out).below HBwb.out
  obtain ⟨u00, hu00⟩ := K0.cell (o := 0) (by decide)
  obtain ⟨u01, hu01⟩ := K0.cell (o := 1) (by decide)
  obtain ⟨u02, hu02⟩ := K0.cell (o := 2) (by decide)
  obtain ⟨u10, hu10⟩ := K1.cell (o := 0) (by decide)
  obtain ⟨u11, hu11⟩ := K1.cell (o := 1) (by decide)
  obtain ⟨u12, hu12⟩ := K1.cell (o := 2) (by decide)
  have fz0 := K0.frozen
  have fz1 := K1.frozen
  clear hcwa hcwb hfwa hfwb K0 K1
  go_wp2_with fail
  exact bodyPost_ret (v := .tuple #[.agg #[.bool (decide ((p).num < 0)), .slice rx (nlen (p).num.natAbs) cx, .slice rx2 (nlen (p).den) cx2], .agg #[.bool (decide ((p).num < 0)), .slice ry (nlen (p).num.natAbs) cy, .slice ry2 (nlen (p).den) cy2], .int .i64 c]) (by simp [results, Tryd.results50, go_sem, hu00, hu01, hu02, hu10, hu11, hu12]) rfl ⟨_, _, _, _, _, _, _, _, rfl, (HF.out _ _ _ _ _ _).1, (HF.out _ _ _ _ _ _).2.1, (HF.out _ _ _ _ _ _).2.2.1, (HF.out _ _ _ _ _ _).2.2.2.1, (HF.out _ _ _ _ _ _).2.2.2.2⟩

theorem start_rel {N : Nat} {w wa : World} {n : Nat} {z : Nat → Nat → Int} {rx rx2 : Option Addr} {cx cx2 : Nat} {q0 : Rat} (hq : q0 = 0) (h1 : Nt N wa rx (nlen q0.num.natAbs) cx q0.num.natAbs) (h2 : Nt N wa rx2 (nlen q0.den) cx2 q0.den) (b0 : Bk wa w.heap.size 28 3) (b1 : Bk wa (w.heap.size + 1) 28 3) (hb : Below w.heap.size w wa) :
    RelO N w wa.heap.size n z 0 (fun _ => 0) (((wa.alloc (.cells #[.bool (decide ((q0).num < 0)), .slice rx (nlen (q0).num.natAbs) cx, .slice rx2 (nlen (q0).den) cx2] 28)).alloc (.cells (madeCells #[.int .i64 0] n) 3)).alloc (.cells (madeCells #[.int .i64 0] n) 3)) := by
  subst hq
  have e1 : Below wa.heap.size wa (((wa.alloc (.cells #[.bool (decide (((0 : Rat)).num < 0)), .slice rx (nlen ((0 : Rat)).num.natAbs) cx, .slice rx2 (nlen ((0 : Rat)).den) cx2] 28)).alloc (.cells (madeCells #[.int .i64 0] n) 3)).alloc (.cells (madeCells #[.int .i64 0] n) 3)) := bel3 _ _ _ _
  have l0 := b0.lt
  have l1 := b1.lt
  refine ⟨⟨rx, cx, rx2, cx2, ?_, h1.below e1, h2.below e1⟩, ?_, ?_, b0.below e1, b1.below e1, hb.trans (e1.mono hb.size)⟩
  · have a := heap_alloc_new wa (.cells #[.bool (decide (((0 : Rat)).num < 0)), .slice rx (nlen ((0 : Rat)).num.natAbs) cx, .slice rx2 (nlen ((0 : Rat)).den) cx2] 28)
    have c := ((Below.refl (wa.heap.size + 1) (wa.alloc (.cells #[.bool (decide (((0 : Rat)).num < 0)), .slice rx (nlen ((0 : Rat)).num.natAbs) cx, .slice rx2 (nlen ((0 : Rat)).den) cx2] 28))).alloc (by simp) (.cells (madeCells #[.int .i64 0] n) 3)).alloc (by first | omega | (simp; done) | (simp; omega)) (.cells (madeCells #[.int .i64 0] n) 3)
    exact (c.block wa.heap.size (Nat.lt_succ_self _)).trans a
  · have a := World.rowIs_made (wa.alloc (.cells #[.bool (decide (((0 : Rat)).num < 0)), .slice rx (nlen ((0 : Rat)).num.natAbs) cx, .slice rx2 (nlen ((0 : Rat)).den) cx2] 28)) (.int .i64 0) n 3
    have s : (wa.alloc (.cells #[.bool (decide (((0 : Rat)).num < 0)), .slice rx (nlen ((0 : Rat)).num.natAbs) cx, .slice rx2 (nlen ((0 : Rat)).den) cx2] 28)).heap.size = wa.heap.size + 1 := by simp
    rw [s] at a
    exact (rowIs_below' a (bel1 _ _)).congr (fun p hp => rfl)
  · have a := World.rowIs_made ((wa.alloc (.cells #[.bool (decide (((0 : Rat)).num < 0)), .slice rx (nlen ((0 : Rat)).num.natAbs) cx, .slice rx2 (nlen ((0 : Rat)).den) cx2] 28)).alloc (.cells (madeCells #[.int .i64 0] n) 3)) (.int .i64 0) n 3
    have s : ((wa.alloc (.cells #[.bool (decide (((0 : Rat)).num < 0)), .slice rx (nlen ((0 : Rat)).num.natAbs) cx, .slice rx2 (nlen ((0 : Rat)).den) cx2] 28)).alloc (.cells (madeCells #[.int .i64 0] n) 3)).heap.size = wa.heap.size + 2 := by simp
    rw [s] at a
    exact a.congr (fun p hp => rfl)

end Go.Proofs.YtbjgnpgachdlaaaDoor
