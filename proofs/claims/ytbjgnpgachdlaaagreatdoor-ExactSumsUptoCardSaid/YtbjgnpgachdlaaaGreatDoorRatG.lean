/- Contracts of ratio.Sub and Div: for rational numbers of at most 2^36 limbs in a part. -/
import Derived.Test.YtbjgnpgachdlaaaGreatDoorRsz
namespace Go.Proofs.YtbjgnpgachdlaaaGreatDoor
open Go.RowKit

theorem rsz_neg (q : Rat) : rsz (-q) = rsz q := by
  have h1 : (-q).num = -q.num := rfl
  have h2 : (-q).den = q.den := rfl
  unfold rsz; rw [h1, h2, Int.natAbs_neg]
theorem mk_div (x1 x2 : Int) : mkRat (zI (decide (x1 < 0) != decide (x2 < 0)) x1.natAbs) x2.natAbs = (x1 : Rat) / (x2 : Rat) := by
  have h1 : zI (decide (x1 < 0) != decide (x2 < 0)) x1.natAbs = if x2 < 0 then -x1 else x1 := by
    by_cases a : x1 < 0 <;> by_cases b : x2 < 0 <;> simp [zI, a, b] <;> omega
  rw [h1, Rat.mkRat_eq_div]
  by_cases b : x2 < 0
  · rw [if_pos b]
    have h2 : ((x2.natAbs : Nat) : Rat) = -(x2 : Rat) := by
      have : (x2.natAbs : Int) = -x2 := by omega
      have h3 : (((x2.natAbs : Nat) : Int) : Rat) = ((-x2 : Int) : Rat) := by rw [this]
      rw [Rat.intCast_neg] at h3
      exact h3
    rw [h2, Rat.intCast_neg]
    grind
  · rw [if_neg b]
    have h2 : ((x2.natAbs : Nat) : Rat) = (x2 : Rat) := by
      have : (x2.natAbs : Int) = x2 := by omega
      have h3 : (((x2.natAbs : Nat) : Int) : Rat) = ((x2 : Int) : Rat) := by rw [this]
      exact h3
    rw [h2]
theorem div_mk (z1 z2 x1 x2 : Int) (d1 d2 : Nat) (h1 : 0 < d1) (h2 : 0 < d2) (q q' p : Rat) (e1 : mkRat z1 d1 = q) (e2 : mkRat z2 d2 = q') (hp : q / q' = p) (a1 : z1 * zI false d2 = x1) (a2 : z2 * zI false d1 = x2) : mkRat (zI (decide (x1 < 0) != decide (x2 < 0)) x1.natAbs) x2.natAbs = p := by
  rw [mk_div, ← hp, ← e1, ← e2, ← a1, ← a2, Rat.mkRat_eq_div, Rat.mkRat_eq_div]
  have c1 : ((zI false d2 : Int) : Rat) = (d2 : Rat) := rfl
  have c2 : ((zI false d1 : Int) : Rat) = (d1 : Rat) := rfl
  rw [Rat.intCast_mul, Rat.intCast_mul, c1, c2]
  have n1 : (d1 : Rat) ≠ 0 := by intro e; have := Rat.natCast_inj.1 (e.trans (by rfl : (0 : Rat) = ((0 : Nat) : Rat))); omega
  have n2 : (d2 : Rat) ≠ 0 := by intro e; have := Rat.natCast_inj.1 (e.trans (by rfl : (0 : Rat) = ((0 : Nat) : Rat))); omega
  grind
theorem div_ok (z2 x2 : Int) (d1 d2 : Nat) (h1 : 0 < d1) (h2 : 0 < d2) (q' : Rat) (e2 : mkRat z2 d2 = q') (a2 : z2 * zI false d1 = x2) : decide (0 < x2.natAbs) = decide (q' ≠ 0) := by
  have hz : q' = 0 ↔ z2 = 0 := by rw [← e2]; exact Rat.mkRat_eq_zero (by omega)
  have hx : x2 = 0 ↔ z2 = 0 := by
    rw [← a2]
    have : zI false d1 ≠ 0 := by show (d1 : Int) ≠ 0; omega
    exact ⟨fun h => (Int.mul_eq_zero.1 h).resolve_right this, fun h => by rw [h]; exact Int.zero_mul _⟩
  apply decide_eq_decide.2
  rw [Ne, hz, ← hx]; omega

set_option maxHeartbeats 4000000 in
theorem rsub_any {N : Nat} (s s' : Bool) (a d a' d' : Option Addr) (na ca nd cd na' ca' nd' cd' L L' : Nat) (q q' : Rat) (w : World) (hN : N ≤ w.heap.size) (h : Rt N w s a na ca d nd cd q L) (h' : Rt N w s' a' na' ca' d' nd' cd' q' L') (hL : L ≤ 68719476736) (hL' : L' ≤ 68719476736) (p : Rat) (hp : q - q' = p) :
    Calls Tryz.prog 32 #[.agg #[.bool s, .slice a na ca, .slice d nd cd], .agg #[.bool s', .slice a' na' ca', .slice d' nd' cd']] w (RatPost N w p) := by
  obtain ⟨p1, hp1⟩ : ∃ p1, -q' = p1 := ⟨_, rfl⟩
  have HP := Lib.hid (show q + p1 = p by rw [← hp1, ← hp, Rat.sub_eq_add_neg])
  have HSZ := Lib.hid (show rsz p1 ≤ L' by rw [← hp1, rsz_neg]; exact h'.rsz_le)
  have HP1 := Lib.hid hp1
  have H := Lib.hid (((h.alloc (.cells #[.bool s, .slice a na ca, .slice d nd cd] 28)).alloc (.cells #[.bool s', .slice a' na' ca', .slice d' nd' cd'] 28)).alloc (.cells #[.bool false, .slice none 0 0, .slice none 0 0] 28))
  have H' := Lib.hid (((h'.alloc (.cells #[.bool s, .slice a na ca, .slice d nd cd] 28)).alloc (.cells #[.bool s', .slice a' na' ca', .slice d' nd' cd'] 28)).alloc (.cells #[.bool false, .slice none 0 0, .slice none 0 0] 28))
  clear h h' hp hp1
  go_enter Tryz.func32, Tryz.ntmps32
  go_wp2_with fail
  go_region_held3 (fun w' => w'.cell? ⟨w.heap.size, 0, none⟩ = some (.bool s) ∧ w'.cell? ⟨w.heap.size, 1, none⟩ = some (.slice a na ca) ∧ w'.cell? ⟨w.heap.size, 2, none⟩ = some (.slice d nd cd) ∧ w'.cell? ⟨w.heap.size + 1, 0, none⟩ = some (.bool s') ∧ w'.cell? ⟨w.heap.size + 1, 1, none⟩ = some (.slice a' na' ca') ∧ w'.cell? ⟨w.heap.size + 1, 2, none⟩ = some (.slice d' nd' cd'))
    (first | (go_keep; done) | ((try dsimp only); (repeat' apply And.intro) <;> (first | (go_keep; done) | (exact cell_keep_alloc_drew (by first | omega | (simp; omega)) (by first | assumption | go_simp)) | (exact cell_keep_alloc (by first | omega | (simp; omega)) (by first | assumption | go_simp)) | (rw [cell_set2 _ _ _ _ _ _ _ _ (by omega)]; assumption) | (rw [cell_set3 _ _ _ _ _ _ _ _ _ _ (by omega)]; assumption))))
    (first
      | (go_at_call 73; refine (rneg_any (N := N) _ _ _ _ _ _ _ L' q' _ (by simp; omega) (by exact H'.out) (by omega) p1 HP1.out).mono ?_; rintro e wa ⟨rn, cn, rn2, cn2, rfl, hn, hn', hb⟩; have kwa0 : wa.cell? ⟨w.heap.size, 0, none⟩ = some (.bool s) := (hb.cell (p := ⟨w.heap.size, 0, none⟩) (by first | (simp; done) | (simp; omega))).trans (by first | exact k0 | go_simp); have kwa1 : wa.cell? ⟨w.heap.size, 1, none⟩ = some (.slice a na ca) := (hb.cell (p := ⟨w.heap.size, 1, none⟩) (by first | (simp; done) | (simp; omega))).trans (by first | exact k1 | go_simp); have kwa2 : wa.cell? ⟨w.heap.size, 2, none⟩ = some (.slice d nd cd) := (hb.cell (p := ⟨w.heap.size, 2, none⟩) (by first | (simp; done) | (simp; omega))).trans (by first | exact k2 | go_simp); have kwa3 : wa.cell? ⟨w.heap.size + 1, 0, none⟩ = some (.bool s') := (hb.cell (p := ⟨w.heap.size + 1, 0, none⟩) (by first | (simp; done) | (simp; omega))).trans (by first | exact k3 | go_simp); have kwa4 : wa.cell? ⟨w.heap.size + 1, 1, none⟩ = some (.slice a' na' ca') := (hb.cell (p := ⟨w.heap.size + 1, 1, none⟩) (by first | (simp; done) | (simp; omega))).trans (by first | exact k4 | go_simp); have kwa5 : wa.cell? ⟨w.heap.size + 1, 2, none⟩ = some (.slice d' nd' cd') := (hb.cell (p := ⟨w.heap.size + 1, 2, none⟩) (by first | (simp; done) | (simp; omega))).trans (by first | exact k5 | go_simp); have hzwa0 : w.heap.size < wa.heap.size := (by have := hb.size; (try simp at this); omega); have hzwa1 : w.heap.size + 1 < wa.heap.size := (by have := hb.size; (try simp at this); omega); have hzwa2 : w.heap.size + 2 < wa.heap.size := (by have := hb.size; (try simp at this); omega); obtain ⟨hcwa, hfwa⟩ := bcell hb; have HBwa := Lib.hid hb; have HNwa := Lib.hid hn; have HN'wa := Lib.hid hn'; clear hb hn hn')
      | (go_at_call 72; refine (radd_any (N := N) _ _ _ _ _ _ _ _ _ _ _ _ _ _ L L' q p1 _ (by omega) (by exact H.out.below (bel_of_drew HBwa.out)) (by exact Rt.of_norm HNwa.out HN'wa.out L' HSZ.out) (by omega) (by omega) p HP.out).mono ?_; rintro e wb ⟨rx, cx, rx2, cx2, rfl, hn, hn', hb⟩; have kwb0 : wb.cell? ⟨w.heap.size, 0, none⟩ = some (.bool s) := (hb.cell (p := ⟨w.heap.size, 0, none⟩) (by omega)).trans kwa0; have kwb1 : wb.cell? ⟨w.heap.size, 1, none⟩ = some (.slice a na ca) := (hb.cell (p := ⟨w.heap.size, 1, none⟩) (by omega)).trans kwa1; have kwb2 : wb.cell? ⟨w.heap.size, 2, none⟩ = some (.slice d nd cd) := (hb.cell (p := ⟨w.heap.size, 2, none⟩) (by omega)).trans kwa2; have kwb3 : wb.cell? ⟨w.heap.size + 1, 0, none⟩ = some (.bool s') := (hb.cell (p := ⟨w.heap.size + 1, 0, none⟩) (by omega)).trans kwa3; have kwb4 : wb.cell? ⟨w.heap.size + 1, 1, none⟩ = some (.slice a' na' ca') := (hb.cell (p := ⟨w.heap.size + 1, 1, none⟩) (by omega)).trans kwa4; have kwb5 : wb.cell? ⟨w.heap.size + 1, 2, none⟩ = some (.slice d' nd' cd') := (hb.cell (p := ⟨w.heap.size + 1, 2, none⟩) (by omega)).trans kwa5; have hzwb0 : w.heap.size < wb.heap.size := (by have := hb.size; (try simp at this); omega); have hzwb1 : w.heap.size + 1 < wb.heap.size := (by have := hb.size; (try simp at this); omega); have hzwb2 : w.heap.size + 2 < wb.heap.size := (by have := hb.size; (try simp at this); omega); obtain ⟨hcwb, hfwb⟩ := bcell hb; have HBwb := Lib.hid hb; have HNwb := Lib.hid hn; have HN'wb := Lib.hid hn'; clear hb hn hn'))
  have HX := Lib.hid (((Bx.new' ((w.alloc (.cells #[.bool s, .slice a na ca, .slice d nd cd] 28)).alloc (.cells #[.bool s', .slice a' na' ca', .slice d' nd' cd'] 28)) #[.bool false, .slice none 0 0, .slice none 0 0] 28 (w.heap.size + 1 + 1) (by simp)).drewB HBwa.out).below HBwb.out)
  have HF := Lib.hid (fun v0 v1 v2 => fin3 hN (by omega) HX.out HNwb.out HN'wb.out (((bel3 w _ _ _).trans ((bel_of_drew HBwa.out).mono (by first | omega | (simp; done) | (simp; omega)))).trans (HBwb.out.mono (by first | omega | (simp; done) | (simp; omega)))) v0 v1 v2)
  go_wp2_with fail
  exact bodyPost_ret (v := .agg #[.bool (decide ((p).num < 0)), .slice rx (nlen (p).num.natAbs) cx, .slice rx2 (nlen (p).den) cx2]) (by simp [results, Tryz.results32, go_sem, hcwa, hcwb, hzwa2]) rfl ⟨_, _, _, _, rfl, (HF.out _ _ _).1, (HF.out _ _ _).2.1, (HF.out _ _ _).2.2⟩

end Go.Proofs.YtbjgnpgachdlaaaGreatDoor
