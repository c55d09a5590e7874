import Derived.Test.YtjobopafcgnljaaGreatAl
import Derived.Test.YtjobopafcgnljaaGreatFtA
import Derived.Test.YtjobopafcgnljaaGreatSrtD
namespace Go.Proofs.YtjobopafcgnljaaGreat
open Go.RowKit
theorem cmp_negF (p q : Rat) : cmpQ p q < 0 ↔ p < q := by
 unfold cmpQ
 by_cases h1 : p < q
 ·rw [if_pos h1]; simp [h1]
 ·rw [if_neg h1]
  by_cases h2 : q < p
  ·rw [if_pos h2]; simp [h1]
  ·rw [if_neg h2]; simp [h1]
set_option maxHeartbeats 2000000 in
theorem fless_any {N : Nat} (a : Option Addr) (n cap x y bx L : Nat) (q : Nat → Rat) (w : World) (hN : N ≤ w.heap.size) (h : Rs N w a n cap q L) (hL : L ≤ 2097152) (hx : x < n) (hy : y < n) (hc : w.cell? ⟨bx, 0, none⟩ = some (.slice a n cap)) :
  Calls Tryz.prog 24 #[.int .i64 x, .int .i64 y, .pointer (some ⟨bx, 0, none⟩)] w fun e w' => ∃ c : Int, e = .returned (.int .i64 c) ∧ Below w.heap.size w w' ∧ (c < 0 ↔ q y < q x) := by
 obtain ⟨b, off, rfl, ho⟩ := h.2.2 (by omega)
 obtain ⟨sx, rx, rnx, rcx, dx, dnx, dcx, gx0, gx1, gx2, hxt⟩ := ho x hx
 obtain ⟨sy, ry, rny, rcy, dy, dny, dcy, gy0, gy1, gy2, hyt⟩ := ho y hy
 have hlb : bx < w.heap.size := World.block_lt_of_cell? w _ hc
 have hle : b < w.heap.size := World.block_lt_of_cell? w _ gx0
 have HX := Lib.hid hxt
 have HY := Lib.hid hyt
 have bc := h.1
 have bm := h.2.1
 unfold maxLen at bm
 clear h ho hxt hyt
 have HB := Lib.hid (Below.refl w.heap.size w)
 have hs0 : w.heap.size ≤ w.heap.size := Nat.le_refl _
 obtain ⟨κ, hκ⟩ : ∃ κ, cmpQ (q y) (q x) = κ := ⟨_, rfl⟩
 have HK := Lib.hid hκ
 clear hκ
 have hxz : (x : Int) < (n : Int) := by omega
 have hyz : (y : Int) < (n : Int) := by omega
 go_enter Tryz.func24, Tryz.ntmps24
 go_wp2_with fail
 go_region_held3 (fun w' => w'.cell? ⟨bx, 0, none⟩ = some (.slice (some ⟨b, off, none⟩) n cap) ∧ w'.cell? ⟨b, off + x * 3, none⟩ = some (.bool sx) ∧ w'.cell? ⟨b, off + x * 3 + 1, none⟩ = some (.slice rx rnx rcx) ∧ w'.cell? ⟨b, off + x * 3 + 2, none⟩ = some (.slice dx dnx dcx) ∧ w'.cell? ⟨b, off + y * 3, none⟩ = some (.bool sy) ∧ w'.cell? ⟨b, off + y * 3 + 1, none⟩ = some (.slice ry rny rcy) ∧ w'.cell? ⟨b, off + y * 3 + 2, none⟩ = some (.slice dy dny dcy))
  (first | (go_keep; done) | ((try dsimp only); (repeat' apply And.intro) <;> (first | (go_keep; done) | (exact cell_keep_alloc_drew (by first | omega | (simp; omega)) (by first | assumption | go_simp)) | (exact cell_keep_alloc (by first | omega | (simp; omega)) (by first | assumption | go_simp)) | (rw [cell_set2 _ _ _ _ _ _ _ _ (by omega)]; assumption) | (rw [cell_set3 _ _ _ _ _ _ _ _ _ _ (by omega)]; assumption))))
  (first
   | (go_at_call 25; refine (rcmp_any (N := N) _ _ _ _ _ _ _ _ _ _ _ _ _ _ L L (q y) (q x) _ (by exact hN) (by exact HY.out) (by exact HX.out) (by omega) (by omega)).mono ?_; rw [HK.out]; rintro e wc ⟨rfl, hb⟩; replace hb : Below w.heap.size w wc := (by first | exact hb | exact bel_of_drew hb); have hc' : wc.cell? ⟨bx, 0, none⟩ = some (.slice (some ⟨b, off, none⟩) n cap) := (hb.cell (p := ⟨bx, 0, none⟩) hlb).trans hc; have gx0' : wc.cell? ⟨b, off + x * 3, none⟩ = some (.bool sx) := (hb.cell (p := ⟨b, off + x * 3, none⟩) hle).trans gx0; have gx1' : wc.cell? ⟨b, off + x * 3 + 1, none⟩ = some (.slice rx rnx rcx) := (hb.cell (p := ⟨b, off + x * 3 + 1, none⟩) hle).trans gx1; have gx2' : wc.cell? ⟨b, off + x * 3 + 2, none⟩ = some (.slice dx dnx dcx) := (hb.cell (p := ⟨b, off + x * 3 + 2, none⟩) hle).trans gx2; have gy0' : wc.cell? ⟨b, off + y * 3, none⟩ = some (.bool sy) := (hb.cell (p := ⟨b, off + y * 3, none⟩) hle).trans gy0; have gy1' : wc.cell? ⟨b, off + y * 3 + 1, none⟩ = some (.slice ry rny rcy) := (hb.cell (p := ⟨b, off + y * 3 + 1, none⟩) hle).trans gy1; have gy2' : wc.cell? ⟨b, off + y * 3 + 2, none⟩ = some (.slice dy dny dcy) := (hb.cell (p := ⟨b, off + y * 3 + 2, none⟩) hle).trans gy2; have hs_wc : w.heap.size ≤ wc.heap.size := hb.size; replace HX := Lib.hid (HX.out.below hb); replace HY := Lib.hid (HY.out.below hb); replace HB := Lib.hid (HB.out.trans (hb.mono hs0)); replace hN : N ≤ wc.heap.size := Nat.le_trans hN hb.size; have hs0 : w.heap.size ≤ wc.heap.size := Nat.le_trans hs0 hb.size; clear hb; skip))
 go_wp2_with fail
 go_ret
 exact ⟨_, rfl, HB.out, by rw [← HK.out]; exact cmp_negF _ _⟩
theorem Tryz.underIntsF : Tryz.prog.underlying 23 = some (.slice 3) := by kernel_rfl
theorem Tryz.infoIntF : (Tryz.prog.info? 3).map (fun i => (i.zero, i.size, i.bytes)) = some (some (.int .i64 0), 1, 8) := by kernel_rfl
theorem make_intsF (n : Nat) (h : n ≤ 100000) (w : World) :
  (Instr.makeSlice 23 (.int .i64 (n : Int)) (.int .i64 (n : Int))).run Tryz.prog w = .ok (.slice (some ⟨w.heap.size, 0, none⟩) n n) (w.alloc (.cells (madeCells #[.int .i64 0] n) 3)) :=
 run_make_row' (P := Tryz.prog) 23 3 (.int .i64 0) 8 Tryz.underIntsF Tryz.infoIntF rfl .i64 .i64 n (by omega) (by omega) w
theorem rowIs_riF {w : World} {g n : Nat} {f : Nat → Value} (h : w.rowIs g 3 n f) : Ri w g n := by
 obtain ⟨c, h1, h2⟩ := h
 exact ⟨c, h1, h2.1⟩
def OrdPost (w : World) (n : Nat) (q : Nat → Rat) (e : Ending) (w' : World) : Prop :=
 ∃ b d, e = .returned (.tuple #[.slice (some ⟨b, 0, none⟩) n n, .int .i64 0]) ∧ w.heap.size ≤ b ∧ b < w'.heap.size ∧ (∀ i, i < n → w'.cell? ⟨b, i, none⟩ = some (.int .i64 (d i : Nat))) ∧ Prm n d ∧ Srt (keyT (gtQ q)) 0 n d ∧ Below w.heap.size w w'
set_option maxHeartbeats 8000000 in
set_option maxRecDepth 100000 in
theorem order_ok {N : Nat} (a : Option Addr) (n cap : Nat) (q : Nat → Rat) (L : Nat) (w : World) (hN : N ≤ w.heap.size) (h : Rs N w a n cap q L) (hL : L ≤ 2097152) (hc : chkF q n = 0) :
  Calls Tryz.prog 10 #[.slice a n cap] w (OrdPost w n q) := by
 have HC := Lib.hid hc
 obtain ⟨h20, _⟩ := chkF_ok hc
 clear hc
 have HAw := Lib.hid h
 have HA := Lib.hid h
 have bc := h.1
 have bm := h.2.1
 unfold maxLen at bm
 clear h
 have hN0 := hN
 have HB := Lib.hid (Below.refl w.heap.size w)
 go_enter Tryz.func10, Tryz.ntmps10
 go_wp2_with fail
 refine calls_name fun W0 hW => ?_
 have hs_W0 : w.heap.size ≤ W0.heap.size := by rw [← hW]; exact OmT
 have HL_W0 := Lib.hid (show Below w.heap.size w W0 by rw [← hW]; exact BlA)
 have k_S_0 : W0.cell? ⟨w.heap.size, 0, none⟩ = some (.slice a n cap) := by rw [← hW]; exact CeA
 have f_S : ∀ o, W0.frozen? ⟨w.heap.size, o, none⟩ = false := by intro o; rw [← hW]; exact CeA
 have HX_S := Lib.hid (show Bn W0 (w.heap.size) by rw [← hW]; exact KpA)
 replace HB := Lib.hid (show Below w.heap.size w W0 by rw [← hW]; exact BlA)
 replace hN : N ≤ W0.heap.size := by rw [← hW]; exact OmT
 have hs0 : w.heap.size ≤ W0.heap.size := by rw [← hW]; exact OmT
 have hl_S : w.heap.size < W0.heap.size := by rw [← hW]; exact OmT
 replace HA := Lib.hid (HA.out.below HL_W0.out)
 clear HL_W0
 clear hW
 have mk1 := fun w => make_intsF n (by omega) w
 refine (fcheck_any (N := N) _ n _ q L _ hN HA.out hL 0 HC.out).mono ?_
 rintro e wa ⟨rfl, hb⟩
 have hs_wa : W0.heap.size ≤ wa.heap.size := hb.size
 replace k_S_0 : wa.cell? ⟨w.heap.size, 0, none⟩ = some (.slice a n cap) := (hb.cell (p := ⟨w.heap.size, 0, none⟩) hl_S).trans k_S_0
 replace f_S : ∀ o, wa.frozen? ⟨w.heap.size, o, none⟩ = false := fun o => (hb.frozen (p := ⟨w.heap.size, o, none⟩) hl_S).trans (f_S o)
 replace HX_S := Lib.hid (HX_S.out.below hb)
 replace HB := Lib.hid (HB.out.trans (hb.mono hs0))
 replace hN : N ≤ wa.heap.size := Nat.le_trans hN hb.size
 replace hs0 : w.heap.size ≤ wa.heap.size := Nat.le_trans hs0 hb.size
 replace hl_S : w.heap.size < wa.heap.size := Nat.lt_of_lt_of_le hl_S hb.size
 replace HA := Lib.hid (HA.out.below hb)
 clear hb
 go_wp2_with fail
 have hwa : w.heap.size < wa.heap.size := hl_S
 go_loopw [6, 17] (fun _ i wr => ∃ k : Nat, k ≤ n ∧ i = .int .i64 k ∧ wr.rowIs wa.heap.size 3 n (fun j => .int .i64 ((if j < k then j else 0 : Nat) : Int)) ∧ Below wa.heap.size wa wr) (fun _ i _ => n - (intOf i).toNat)
 case atStart => exact ⟨0, Nat.zero_le _, rfl, (World.rowIs_made wa (.int .i64 0) n 3).congr (fun j hj => by simp), (Below.refl _ _).alloc (Nat.le_refl _) _⟩
 case round =>
  obtain ⟨k, hk, rfl, hrow, hbel⟩ := hrel
  have HRW := Lib.hid hrow
  have HBW := Lib.hid hbel
  clear hrow
  have hsz := hbel.size
  have hlr := World.rowIs.lt HRW.out
  by_cases hkn : k < n
  ·have c1 := World.rowIs.cell HRW.out hkn
   have f1 := World.rowIs.frozen HRW.out k
   clear hbel
   go_wp2_with fail
   go_roundw
   case rel =>
    refine ⟨k + 1, by omega, by go_num, (World.rowIs.set HRW.out k _).congr (fun j hj => ?_), HBW.out.setCell (Nat.le_refl _) _⟩
    by_cases e : j = k
    ·rw [if_pos e, if_pos (by omega), e]
    ·rw [if_neg e]
     by_cases e2 : j < k
     ·rw [if_pos e2, if_pos (by omega)]
     ·rw [if_neg e2, if_neg (by omega)]
   case measure => simp [intOf]; omega
  ·obtain rfl : n = k := by omega
   have HBX := Lib.hid ((hbel.cell (p := ⟨w.heap.size, 0, none⟩) hl_S).trans k_S_0)
   have HBR := Lib.hid (HB.out.trans (hbel.mono hs0))
   have SW0 : Hid (Sw wa.heap.size n n (fun i => i) wr wr) := Lib.hid ⟨Skp.refl _ _, rowIs_riF HRW.out, fun i hi => by rw [World.rowIs.cell HRW.out hi, if_pos hi], fun i hi => hi⟩
   have CMP : Hid (Cmp wa.heap.size n (keyT (gtQ q)) 24 #[.pointer (some ⟨w.heap.size, 0, none⟩)] wr) := Lib.hid (by
    intro W x y hsk hyx hxk
    have hb0 : Below w.heap.size wr W := ⟨hsk.1.os, hsk.1.tape, hsk.1.output, hsk.1.size, fun b hb => hsk.2 b (by omega) (by omega)⟩
    have hbx : W.cell? ⟨w.heap.size, 0, none⟩ = some (.slice a n cap) := (World.cell?_of_block (w := wr) (a := ⟨w.heap.size, 0, none⟩) (hsk.2 w.heap.size (by omega) (by omega))).trans HBX.out
    refine (fless_any (N := N) a n cap x y w.heap.size L q W (by have := hb0.size; omega) (HAw.out.below (HBR.out.trans hb0)) hL hxk (by omega) hbx).mono ?_
    rintro e w' ⟨c, he, hb, hcc⟩
    exact ⟨c, he, hb, by rw [keyT_gt _ hyx]; unfold gtQ; simpa using hcc⟩)
   have SRT := Lib.hid (sortStable_any wa.heap.size n n n (keyT (gtQ q)) (gtQ_weak q).ord 24 #[.pointer (some ⟨w.heap.size, 0, none⟩)] (fun i => i) wr wr (by intro args w; rfl) CMP.out SW0.out (fun i j _ h _ => h) (by omega))
   clear CMP SW0 HRW HBX HBR hbel hlr
   go_wp2_with fail
   refine SRT.out.mono ?_
   rintro e w2 ⟨rfl, d, hsw, hrg, hst⟩
   have bw2 : Below wa.heap.size wr w2 := ⟨hsw.sk.1.os, hsw.sk.1.tape, hsw.sk.1.output, hsw.sk.1.size, fun b hb => hsw.sk.2 b (by omega) (by omega)⟩
   have BW2 := Lib.hid (HB.out.trans ((HBW.out.trans bw2).mono hs0))
   have HDK := Lib.hid hsw.cell
   have hg2 := hsw.bk.lt
   have HPM := Lib.hid (Prm.of_srt (gtQ_weak q).ord hrg hst)
   have HST := Lib.hid hst
   clear hsw hrg hst SRT HBW bw2
   go_wp2_with fail
   go_ret2
   exact ⟨_, d, rfl, by omega, hg2, HDK.out, HPM.out, HST.out, BW2.out⟩
end Go.Proofs.YtjobopafcgnljaaGreat
