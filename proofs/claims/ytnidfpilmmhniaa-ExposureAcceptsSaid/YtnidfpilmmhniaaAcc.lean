/- Contracts of draws.New, Next, Chance, of the reference's, and of Accept in both. -/
import Derived.Test.YtnidfpilmmhniaaExpC
import Derived.Test.YtnidfpilmmhniaaExpB
namespace Go.Proofs.Ytnidfpilmmhniaa
open Go.RowKit

/-- the next state of the generator -/
def nx (d : Int) : Int := IntKind.u64.wrap (IntKind.u64.wrap (d * 6364136223846793005) + 1442695040888963407)
theorem nx_bd (d : Int) : 0 ≤ nx d ∧ nx d < 18446744073709551616 := by unfold nx; rw [wrap_u64 (_ + _)]; omega
/-- a draw of 32 bits, as a share of 2^32, is below q -/
def chq (d : Int) (q : Rat) : Bool := decide (((nx d / 4294967296 : Int) : Rat) < q * ((4294967296 : Int) : Rat))

set_option maxHeartbeats 1000000 in
theorem dnew_any (x : Int) (w : World) : Calls Try.prog 138 #[.int .u64 x] w fun e w' => e = .returned (.int .u64 (nx x)) ∧ w = w' := by
  go_enter Try.func138, Try.ntmps138
  go_wp2_with fail
  go_ret
  exact ⟨rfl, rfl⟩
set_option maxHeartbeats 1000000 in
theorem xstep_any (x : Int) (w : World) : Calls Try.prog 139 #[.int .u64 x] w fun e w' => e = .returned (.int .u64 (nx x)) ∧ w = w' := by
  go_enter Try.func139, Try.ntmps139
  go_wp2_with fail
  go_ret
  exact ⟨rfl, rfl⟩
set_option maxHeartbeats 1000000 in
theorem dnext_any (x y : Int) (w : World) (hy : nx x = y) : Calls Try.prog 105 #[.int .u64 x] w fun e w' => e = .returned (.tuple #[.int .u32 (y / 4294967296), .int .u64 y]) ∧ w = w' := by
  have hb := nx_bd x
  rw [hy] at hb
  obtain ⟨b0, b1⟩ := hb
  have HY := Lib.hid hy
  clear hy
  go_enter Try.func105, Try.ntmps105
  go_wp2_with fail
  refine (dnew_any x _).mono ?_
  rw [HY.out]
  rintro e w' ⟨rfl, rfl⟩
  go_wp2_with fail
  go_ret2
  first | exact ⟨rfl, rfl⟩ | exact ⟨by congr 4; omega, rfl⟩
set_option maxHeartbeats 1000000 in
theorem xnext_any (x y : Int) (w : World) (hy : nx x = y) : Calls Try.prog 106 #[.int .u64 x] w fun e w' => e = .returned (.tuple #[.int .u32 (y / 4294967296), .int .u64 y]) ∧ w = w' := by
  have hb := nx_bd x
  rw [hy] at hb
  obtain ⟨b0, b1⟩ := hb
  have HY := Lib.hid hy
  clear hy
  go_enter Try.func106, Try.ntmps106
  go_wp2_with fail
  refine (xstep_any x _).mono ?_
  rw [HY.out]
  rintro e w' ⟨rfl, rfl⟩
  go_wp2_with fail
  go_ret2
  first | exact ⟨rfl, rfl⟩ | exact ⟨by congr 4; omega, rfl⟩

theorem of_32 (n : Int) (_h0 : 0 ≤ n) (p : Rat) (hp : mkRat n 4294967296 = p) : mkRat (zI (decide (n < 0) != decide ((4294967296 : Int) < 0)) n.natAbs) (4294967296 : Int).natAbs = p := by
  have h : zI (decide (n < 0) != decide ((4294967296 : Int) < 0)) n.natAbs = n := by
    have : decide ((4294967296 : Int) < 0) = false := rfl
    rw [this, Bool.bne_false, zI_norm]
  rw [h]; exact hp
theorem mk32_lt (n : Int) (q : Rat) : mkRat n 4294967296 < q ↔ (n : Rat) < q * ((4294967296 : Int) : Rat) := by
  have h1 := mk_cross n 4294967296 (by decide)
  have h2 : ((4294967296 : Nat) : Rat) = ((4294967296 : Int) : Rat) := rfl
  have h3 : ((4294967296 : Int) : Rat) = 4294967296 := rfl
  rw [h2, h3] at h1
  rw [h3]
  generalize mkRat n 4294967296 = m at *
  constructor <;> intro h <;> grind
theorem cmpQ_lt (p q : Rat) : decide (cmpQ p q < 0) = decide (p < q) := by
  unfold cmpQ
  by_cases h1 : p < q
  · rw [if_pos h1]; simp [h1]
  · rw [if_neg h1]
    by_cases h2 : q < p
    · rw [if_pos h2]; simp [h1]
    · rw [if_neg h2]; simp [h1]
theorem rsz_32 (n : Int) (h : n.natAbs < 4294967296) (p : Rat) (hp : mkRat n 4294967296 = p) : rsz p ≤ 2 := by
  rw [← hp]
  exact rsz_mk _ _ _ (by omega) (Nat.le_trans (nlen_small h) (by omega)) (nlen_two (by decide))
theorem rsz_all (p : Rat) (hp : ((4294967296 : Int) : Rat) = p) : rsz p ≤ 2 := by
  obtain ⟨h1, h2⟩ := int_num _ p hp
  unfold rsz
  rw [h1, h2]
  have := nlen_two (m := (4294967296 : Int).natAbs) (by decide)
  have := nlen_small (m := 1) (by decide)
  omega
set_option maxHeartbeats 4000000 in
theorem chance_any {N : Nat} (g : Int) (s : Bool) (a d : Option Addr) (na ca nd cd : Nat) (q : Rat) (w : World) (hN : N ≤ w.heap.size) (h : Rt N w s a na ca d nd cd q 20) :
    Calls Try.prog 51 #[.int .u64 g, .agg #[.bool s, .slice a na ca, .slice d nd cd]] w fun e w' => e = .returned (.tuple #[.bool (chq g q), .int .u64 (nx g)]) ∧ Below w.heap.size w w' := by
  have H := Lib.hid (h.alloc (.cells #[.bool s, .slice a na ca, .slice d nd cd] 29))
  obtain ⟨b0, b1⟩ := nx_bd g
  obtain ⟨y, hy⟩ : ∃ y, nx g = y := ⟨_, rfl⟩
  obtain ⟨x, hx⟩ : ∃ x, y / 4294967296 = x := ⟨_, rfl⟩
  rw [hy] at b0 b1
  have x0 : 0 ≤ x := by omega
  have x1 : x < 4294967296 := by omega
  have HY := Lib.hid hy
  have HX := Lib.hid hx
  obtain ⟨p1, hp1⟩ : ∃ p, mkRat x 4294967296 = p := ⟨_, rfl⟩
  obtain ⟨cc, hcc⟩ : ∃ c, cmpQ p1 q = c := ⟨_, rfl⟩
  have HE := Lib.hid (show decide (cc < 0) = chq g q by rw [← hcc, cmpQ_lt, ← hp1]; unfold chq; rw [hy, hx]; exact decide_eq_decide.2 (mk32_lt x q))
  have HP := Lib.hid (of_32 x x0 p1 hp1)
  have HSZ := Lib.hid (rsz_32 x (by omega) p1 hp1)
  have HCC := Lib.hid hcc
  clear h hy hx hp1 hcc
  go_enter Try.func51, Try.ntmps51
  go_wp2_with fail
  refine (dnext_any g y _ HY.out).mono ?_
  rw [HX.out]
  rintro e w' ⟨rfl, rfl⟩
  go_wp2_with fail
  refine (rof_any (N := N) x 4294967296 _ (by simp; omega) (by omega) (by omega) (by omega) (by omega) p1 HP.out).mono ?_
  rintro e wa ⟨rx, cx, rx2, cx2, rfl, hn, hn', hb⟩
  obtain ⟨hcwa, hfwa⟩ := bcell hb
  have hzwa0 : w.heap.size < wa.heap.size := by have := hb.size; (try simp at this); omega
  have HBwa := Lib.hid hb
  have HNwa := Lib.hid hn
  have HN'wa := Lib.hid hn'
  clear hb hn hn'
  go_wp2_with fail
  refine (rcmp_any (N := N) _ _ _ _ _ _ _ _ _ _ _ _ _ _ 2 20 p1 q _ (by simp; omega) ((Rt.of_norm HNwa.out HN'wa.out 2 HSZ.out).alloc _) ((H.out.below HBwa.out).alloc _) (by omega) (by omega)).mono ?_
  rw [HCC.out]
  rintro e wb ⟨rfl, hb⟩
  obtain ⟨hcwb, hfwb⟩ := bcell hb
  have hzwb0 : w.heap.size < wb.heap.size := by have := hb.size; (try simp at this); omega
  have hzwb1 : wa.heap.size < wb.heap.size := by have := hb.size; (try simp at this); omega
  have HBwb := Lib.hid hb
  clear hb 
  go_wp2_with fail
  go_ret2
  rw [HE.out, HY.out]
  exact ⟨rfl, (((bel1 w _).trans (HBwa.out.mono (by first | omega | (simp; done) | (simp; omega)))).trans ((bel_of_alloc HBwb.out).mono (by first | omega | (simp; done) | (simp; omega))))⟩

set_option maxHeartbeats 4000000 in
theorem xchance_any {N : Nat} (g : Int) (s : Bool) (a d : Option Addr) (na ca nd cd : Nat) (q : Rat) (w : World) (hN : N ≤ w.heap.size) (h : Rt N w s a na ca d nd cd q 20) :
    Calls Try.prog 52 #[.int .u64 g, .agg #[.bool s, .slice a na ca, .slice d nd cd]] w fun e w' => e = .returned (.tuple #[.bool (chq g q), .int .u64 (nx g)]) ∧ Below w.heap.size w w' := by
  have H := Lib.hid (h.alloc (.cells #[.bool s, .slice a na ca, .slice d nd cd] 29))
  obtain ⟨b0, b1⟩ := nx_bd g
  obtain ⟨y, hy⟩ : ∃ y, nx g = y := ⟨_, rfl⟩
  obtain ⟨x, hx⟩ : ∃ x, y / 4294967296 = x := ⟨_, rfl⟩
  rw [hy] at b0 b1
  have x0 : 0 ≤ x := by omega
  have x1 : x < 4294967296 := by omega
  have HY := Lib.hid hy
  have HX := Lib.hid hx
  obtain ⟨p1, hp1⟩ : ∃ p : Rat, (x : Rat) = p := ⟨_, rfl⟩
  obtain ⟨p2, hp2⟩ : ∃ p : Rat, ((4294967296 : Int) : Rat) = p := ⟨_, rfl⟩
  obtain ⟨p3, hp3⟩ : ∃ p : Rat, q * p2 = p := ⟨_, rfl⟩
  obtain ⟨cc, hcc⟩ : ∃ c, cmpQ p1 p3 = c := ⟨_, rfl⟩
  have HE := Lib.hid (show decide (cc < 0) = chq g q by rw [← hcc, cmpQ_lt, ← hp3, ← hp2, ← hp1]; unfold chq; rw [hy, hx])
  have HP := Lib.hid (of_one x p1 hp1)
  have HP2 := Lib.hid (of_one 4294967296 p2 hp2)
  have HP3 := Lib.hid hp3
  have HSZ := Lib.hid (rsz_int x (by omega) p1 hp1)
  have HSZ2 := Lib.hid (rsz_all p2 hp2)
  have HSZ3 := Lib.hid (show rsz p3 ≤ 22 by have h1 := rsz_mul q p2; have h2 := h.rsz_le; have h3 := HSZ2.out; rw [← hp3]; omega)
  have HCC := Lib.hid hcc
  clear h hy hx hp1 hp2 hp3 hcc
  go_enter Try.func52, Try.ntmps52
  go_wp2_with fail
  refine (xnext_any g y _ HY.out).mono ?_
  rw [HX.out]
  rintro e w' ⟨rfl, rfl⟩
  go_wp2_with fail
  refine (xrof_any (N := N) x 1 _ (by simp; omega) (by omega) (by omega) (by omega) (by omega) p1 HP.out).mono ?_
  rintro e wa ⟨rx, cx, rx2, cx2, rfl, hn, hn', hb⟩
  obtain ⟨hcwa, hfwa⟩ := bcell hb
  have hzwa0 : w.heap.size < wa.heap.size := by have := hb.size; (try simp at this); omega
  have HBwa := Lib.hid hb
  have HNwa := Lib.hid hn
  have HN'wa := Lib.hid hn'
  clear hb hn hn'
  go_wp2_with fail
  refine (xrof_any (N := N) 4294967296 1 _ (by simp; omega) (by omega) (by omega) (by omega) (by omega) p2 HP2.out).mono ?_
  rintro e wb ⟨ry, cy, ry2, cy2, rfl, hn, hn', hb⟩
  obtain ⟨hcwb, hfwb⟩ := bcell hb
  have hzwb0 : w.heap.size < wb.heap.size := by have := hb.size; (try simp at this); omega
  have hzwb1 : wa.heap.size < wb.heap.size := by have := hb.size; (try simp at this); omega
  have HBwb := Lib.hid hb
  have HNwb := Lib.hid hn
  have HN'wb := Lib.hid hn'
  clear hb hn hn'
  have ka0 : wa.cell? ⟨w.heap.size, 0, none⟩ = some (.bool s) := (HBwa.out.cell (p := ⟨w.heap.size, 0, none⟩) (by simp)).trans (by go_simp)
  have ka1 : wa.cell? ⟨w.heap.size, 1, none⟩ = some (.slice a na ca) := (HBwa.out.cell (p := ⟨w.heap.size, 1, none⟩) (by simp)).trans (by go_simp)
  have ka2 : wa.cell? ⟨w.heap.size, 2, none⟩ = some (.slice d nd cd) := (HBwa.out.cell (p := ⟨w.heap.size, 2, none⟩) (by simp)).trans (by go_simp)
  have kb0 : wb.cell? ⟨w.heap.size, 0, none⟩ = some (.bool s) := (HBwb.out.cell (p := ⟨w.heap.size, 0, none⟩) (by simp; omega)).trans (cell_mono ka0 (bel1 _ _))
  have kb1 : wb.cell? ⟨w.heap.size, 1, none⟩ = some (.slice a na ca) := (HBwb.out.cell (p := ⟨w.heap.size, 1, none⟩) (by simp; omega)).trans (cell_mono ka1 (bel1 _ _))
  have kb2 : wb.cell? ⟨w.heap.size, 2, none⟩ = some (.slice d nd cd) := (HBwb.out.cell (p := ⟨w.heap.size, 2, none⟩) (by simp; omega)).trans (cell_mono ka2 (bel1 _ _))
  go_wp2_with fail
  go_region_held3 (fun w' => w'.cell? ⟨w.heap.size, 0, none⟩ = some (.bool s) ∧ w'.cell? ⟨w.heap.size, 1, none⟩ = some (.slice a na ca) ∧ w'.cell? ⟨w.heap.size, 2, none⟩ = some (.slice d nd cd) ∧ w'.cell? ⟨wa.heap.size, 0, none⟩ = some (.bool (decide (p1.num < 0))) ∧ w'.cell? ⟨wa.heap.size, 1, none⟩ = some (.slice rx (nlen p1.num.natAbs) cx) ∧ w'.cell? ⟨wa.heap.size, 2, none⟩ = some (.slice rx2 (nlen p1.den) cx2) ∧ w'.cell? ⟨wb.heap.size, 0, none⟩ = some (.bool (decide (p2.num < 0))) ∧ w'.cell? ⟨wb.heap.size, 1, none⟩ = some (.slice ry (nlen p2.num.natAbs) cy) ∧ w'.cell? ⟨wb.heap.size, 2, none⟩ = some (.slice ry2 (nlen p2.den) cy2))
    (first | (go_keep; done) | ((try dsimp only); (repeat' apply And.intro) <;> (first | (go_keep; done) | (exact cell_keep_alloc_drew (by first | omega | (simp; omega)) (by first | assumption | go_simp)) | (exact cell_keep_alloc (by first | omega | (simp; omega)) (by first | assumption | go_simp)) | (rw [cell_set2 _ _ _ _ _ _ _ _ (by omega)]; assumption) | (rw [cell_set3 _ _ _ _ _ _ _ _ _ _ (by omega)]; assumption))))
    (first
      | (go_at_call 55; refine (xrmul_any (N := N) _ _ _ _ _ _ _ _ _ _ _ _ _ _ 20 2 q p2 _ (by simp; omega) (by exact ((H.out.below HBwa.out).below (bel_of_alloc HBwb.out)).alloc (.cells #[.bool (decide (p2.num < 0)), .slice ry (nlen p2.num.natAbs) cy, .slice ry2 (nlen p2.den) cy2] 29)) (by exact (Rt.of_norm HNwb.out HN'wb.out 2 HSZ2.out).alloc (.cells #[.bool (decide (p2.num < 0)), .slice ry (nlen p2.num.natAbs) cy, .slice ry2 (nlen p2.den) cy2] 29)) (by omega) (by omega) p3 HP3.out).mono ?_; rintro e wc ⟨rz, cz, rz2, cz2, rfl, hn, hn', hb⟩; have kwc0 : wc.cell? ⟨w.heap.size, 0, none⟩ = some (.bool s) := (hb.cell (p := ⟨w.heap.size, 0, none⟩) (by first | (simp; done) | (simp; omega))).trans (by first | exact k0 | go_simp); have kwc1 : wc.cell? ⟨w.heap.size, 1, none⟩ = some (.slice a na ca) := (hb.cell (p := ⟨w.heap.size, 1, none⟩) (by first | (simp; done) | (simp; omega))).trans (by first | exact k1 | go_simp); have kwc2 : wc.cell? ⟨w.heap.size, 2, none⟩ = some (.slice d nd cd) := (hb.cell (p := ⟨w.heap.size, 2, none⟩) (by first | (simp; done) | (simp; omega))).trans (by first | exact k2 | go_simp); have kwc3 : wc.cell? ⟨wa.heap.size, 0, none⟩ = some (.bool (decide (p1.num < 0))) := (hb.cell (p := ⟨wa.heap.size, 0, none⟩) (by first | (simp; done) | (simp; omega))).trans (by first | exact k3 | go_simp); have kwc4 : wc.cell? ⟨wa.heap.size, 1, none⟩ = some (.slice rx (nlen p1.num.natAbs) cx) := (hb.cell (p := ⟨wa.heap.size, 1, none⟩) (by first | (simp; done) | (simp; omega))).trans (by first | exact k4 | go_simp); have kwc5 : wc.cell? ⟨wa.heap.size, 2, none⟩ = some (.slice rx2 (nlen p1.den) cx2) := (hb.cell (p := ⟨wa.heap.size, 2, none⟩) (by first | (simp; done) | (simp; omega))).trans (by first | exact k5 | go_simp); have kwc6 : wc.cell? ⟨wb.heap.size, 0, none⟩ = some (.bool (decide (p2.num < 0))) := (hb.cell (p := ⟨wb.heap.size, 0, none⟩) (by first | (simp; done) | (simp; omega))).trans (by first | exact k6 | go_simp); have kwc7 : wc.cell? ⟨wb.heap.size, 1, none⟩ = some (.slice ry (nlen p2.num.natAbs) cy) := (hb.cell (p := ⟨wb.heap.size, 1, none⟩) (by first | (simp; done) | (simp; omega))).trans (by first | exact k7 | go_simp); have kwc8 : wc.cell? ⟨wb.heap.size, 2, none⟩ = some (.slice ry2 (nlen p2.den) cy2) := (hb.cell (p := ⟨wb.heap.size, 2, none⟩) (by first | (simp; done) | (simp; omega))).trans (by first | exact k8 | go_simp); have hzwc0 : w.heap.size < wc.heap.size := (by have := hb.size; (try simp at this); omega); have hzwc1 : wa.heap.size < wc.heap.size := (by have := hb.size; (try simp at this); omega); have hzwc2 : wb.heap.size < wc.heap.size := (by have := hb.size; (try simp at this); omega); obtain ⟨hcwc, hfwc⟩ := bcell hb; have HBwc := Lib.hid hb; have HNwc := Lib.hid hn; have HN'wc := Lib.hid hn'; clear hb hn hn')
      | (go_at_call 58; refine (xrcmp_any (N := N) _ _ _ _ _ _ _ _ _ _ _ _ _ _ 1 22 p1 p3 _ (by omega) (by exact (((Rt.of_norm HNwa.out HN'wa.out 1 HSZ.out).below (bel_of_alloc HBwb.out)).alloc (.cells #[.bool (decide (p2.num < 0)), .slice ry (nlen p2.num.natAbs) cy, .slice ry2 (nlen p2.den) cy2] 29)).below (bel_of_drew HBwc.out)) (by exact Rt.of_norm HNwc.out HN'wc.out 22 HSZ3.out) (by omega) (by omega)).mono ?_; rw [HCC.out]; rintro e wd ⟨rfl, hb⟩; have kwd0 : wd.cell? ⟨w.heap.size, 0, none⟩ = some (.bool s) := (hb.cell (p := ⟨w.heap.size, 0, none⟩) (by omega)).trans kwc0; have kwd1 : wd.cell? ⟨w.heap.size, 1, none⟩ = some (.slice a na ca) := (hb.cell (p := ⟨w.heap.size, 1, none⟩) (by omega)).trans kwc1; have kwd2 : wd.cell? ⟨w.heap.size, 2, none⟩ = some (.slice d nd cd) := (hb.cell (p := ⟨w.heap.size, 2, none⟩) (by omega)).trans kwc2; have kwd3 : wd.cell? ⟨wa.heap.size, 0, none⟩ = some (.bool (decide (p1.num < 0))) := (hb.cell (p := ⟨wa.heap.size, 0, none⟩) (by omega)).trans kwc3; have kwd4 : wd.cell? ⟨wa.heap.size, 1, none⟩ = some (.slice rx (nlen p1.num.natAbs) cx) := (hb.cell (p := ⟨wa.heap.size, 1, none⟩) (by omega)).trans kwc4; have kwd5 : wd.cell? ⟨wa.heap.size, 2, none⟩ = some (.slice rx2 (nlen p1.den) cx2) := (hb.cell (p := ⟨wa.heap.size, 2, none⟩) (by omega)).trans kwc5; have kwd6 : wd.cell? ⟨wb.heap.size, 0, none⟩ = some (.bool (decide (p2.num < 0))) := (hb.cell (p := ⟨wb.heap.size, 0, none⟩) (by omega)).trans kwc6; have kwd7 : wd.cell? ⟨wb.heap.size, 1, none⟩ = some (.slice ry (nlen p2.num.natAbs) cy) := (hb.cell (p := ⟨wb.heap.size, 1, none⟩) (by omega)).trans kwc7; have kwd8 : wd.cell? ⟨wb.heap.size, 2, none⟩ = some (.slice ry2 (nlen p2.den) cy2) := (hb.cell (p := ⟨wb.heap.size, 2, none⟩) (by omega)).trans kwc8; have hzwd0 : w.heap.size < wd.heap.size := (by have := hb.size; (try simp at this); omega); have hzwd1 : wa.heap.size < wd.heap.size := (by have := hb.size; (try simp at this); omega); have hzwd2 : wb.heap.size < wd.heap.size := (by have := hb.size; (try simp at this); omega); obtain ⟨hcwd, hfwd⟩ := bcell hb; have HBwd := Lib.hid hb; clear hb ))
  go_wp2_with fail
  go_ret2
  rw [HE.out, HY.out]
  exact ⟨rfl, (((((bel1 w _).trans (HBwa.out.mono (by first | omega | (simp; done) | (simp; omega)))).trans ((bel_of_alloc HBwb.out).mono (by first | omega | (simp; done) | (simp; omega)))).trans ((bel_of_alloc (bel_of_drew HBwc.out)).mono (by first | omega | (simp; done) | (simp; omega)))).trans (HBwd.out.mono (by first | omega | (simp; done) | (simp; omega))))⟩

set_option maxHeartbeats 2000000 in
theorem accept_any {N : Nat} (g : Int) (s : Bool) (a d : Option Addr) (na ca nd cd : Nat) (q : Rat) (w : World) (hN : N ≤ w.heap.size) (h : Rt N w s a na ca d nd cd q 20) :
    Calls Try.prog 15 #[.int .u64 g, .agg #[.bool s, .slice a na ca, .slice d nd cd]] w fun e w' => e = .returned (.tuple #[.bool (chq g q), .int .u64 (nx g)]) ∧ Below w.heap.size w w' := by
  have H := Lib.hid (h.alloc (.cells #[.bool s, .slice a na ca, .slice d nd cd] 29))
  clear h
  obtain ⟨E, hE⟩ : ∃ E, chq g q = E := ⟨_, rfl⟩
  obtain ⟨y, hy⟩ : ∃ y, nx g = y := ⟨_, rfl⟩
  rw [hE, hy]
  have HE := Lib.hid hE
  have HY := Lib.hid hy
  clear hE hy
  go_enter Try.func15, Try.ntmps15
  go_wp2_with fail
  refine (chance_any (N := N) _ _ _ _ _ _ _ _ q _ (by simp; omega) H.out).mono ?_
  rw [HE.out, HY.out]
  rintro e wa ⟨rfl, hb⟩
  obtain ⟨hcwa, hfwa⟩ := bcell hb
  have hzwa0 : w.heap.size < wa.heap.size := by have := hb.size; (try simp at this); omega
  have HBwa := Lib.hid hb
  clear hb 
  go_wp2_with fail
  go_ret2
  exact ⟨rfl, ((bel1 w _).trans (HBwa.out.mono (by first | omega | (simp; done) | (simp; omega))))⟩
  
set_option maxHeartbeats 2000000 in
theorem xaccept_any {N : Nat} (g : Int) (s : Bool) (a d : Option Addr) (na ca nd cd : Nat) (q : Rat) (w : World) (hN : N ≤ w.heap.size) (h : Rt N w s a na ca d nd cd q 20) :
    Calls Try.prog 16 #[.int .u64 g, .agg #[.bool s, .slice a na ca, .slice d nd cd]] w fun e w' => e = .returned (.tuple #[.bool (chq g q), .int .u64 (nx g)]) ∧ Below w.heap.size w w' := by
  have H := Lib.hid (h.alloc (.cells #[.bool s, .slice a na ca, .slice d nd cd] 29))
  clear h
  obtain ⟨E, hE⟩ : ∃ E, chq g q = E := ⟨_, rfl⟩
  obtain ⟨y, hy⟩ : ∃ y, nx g = y := ⟨_, rfl⟩
  rw [hE, hy]
  have HE := Lib.hid hE
  have HY := Lib.hid hy
  clear hE hy
  go_enter Try.func16, Try.ntmps16
  go_wp2_with fail
  refine (xchance_any (N := N) _ _ _ _ _ _ _ _ q _ (by simp; omega) H.out).mono ?_
  rw [HE.out, HY.out]
  rintro e wa ⟨rfl, hb⟩
  obtain ⟨hcwa, hfwa⟩ := bcell hb
  have hzwa0 : w.heap.size < wa.heap.size := by have := hb.size; (try simp at this); omega
  have HBwa := Lib.hid hb
  clear hb 
  go_wp2_with fail
  go_ret2
  exact ⟨rfl, ((bel1 w _).trans (HBwa.out.mono (by first | omega | (simp; done) | (simp; omega))))⟩
  

end Go.Proofs.Ytnidfpilmmhniaa
