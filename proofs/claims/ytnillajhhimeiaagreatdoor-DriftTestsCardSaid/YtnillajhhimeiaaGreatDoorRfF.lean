import Derived.Test.YtnillajhhimeiaaGreatDoorRfC
namespace Go.Proofs.YtnillajhhimeiaaGreatDoor
open Go.RowKit
set_option maxHeartbeats 4000000 in
theorem xrnorm_any {N : Nat} (s : Bool) (a d : Option Addr) (na ca nd cd L : Nat) (q : Rat) (w : World) (hN : N ≤ w.heap.size) (h : Rt N w s a na ca d nd cd q L) (hL : L ≤ 68719476736) :
    Calls Tryz.prog 62 #[.agg #[.bool s,.slice a na ca,.slice d nd cd]] w (RatPost N w q) := by
  obtain ⟨l0,l1,l2,mn,md,ha,hd,hq⟩ := h
  obtain ⟨z,hz⟩ : ∃ z,tz s mn md = z := ⟨_,rfl⟩
  have e1 : mkRat z (dl md) = q := by rw [← hz,tz_dl,hq]
  have lz1 : nlen z.natAbs ≤ L := by rw [← hz];exact tz_len (nlen_bound ha _ l1)
  have ld1 : nlen (dl md) ≤ L := dl_len (nlen_bound hd _ l2) l0
  have p1 := dl_pos md
  have HZ := Lib.hid hz
  have HE := Lib.hid (mk_norm z (dl md) q e1)
  have HA := Lib.hid ha
  have HD := Lib.hid hd
  clear ha hd hq hz e1
  have hN0 := hN
  have HB := Lib.hid (Below.refl w.heap.size w)
  go_enter Tryz.func62,Tryz.ntmps62
  go_wp2_with fail
  refine region_name fun W0 hW => ?_
  have hs_W0 : w.heap.size ≤ W0.heap.size := by rw [← hW];(first | omega | (simp;done) | (simp;omega))
  have HK_W0 := Lib.hid (show Kp N w W0 by rw [← hW];exact KpA)
  have k_P_0 : W0.cell? ⟨w.heap.size,0,none⟩ = some (.bool s) := by rw [← hW];(first | (go_simp;done) | (simp;done) | (simp [go_sem];done) | (simp [go_sem];done))
  have k_P_1 : W0.cell? ⟨w.heap.size,1,none⟩ = some (.slice a na ca) := by rw [← hW];(first | (go_simp;done) | (simp;done) | (simp [go_sem];done) | (simp [go_sem];done))
  have k_P_2 : W0.cell? ⟨w.heap.size,2,none⟩ = some (.slice d nd cd) := by rw [← hW];(first | (go_simp;done) | (simp;done) | (simp [go_sem];done) | (simp [go_sem];done))
  have f_P : ∀ o,W0.frozen? ⟨w.heap.size,o,none⟩ = false := by intro o;rw [← hW];(first | (go_simp;done) | (simp;done) | (simp [go_sem];done) | (simp [go_sem];done))
  have HX_P := Lib.hid (show Bn W0 (w.heap.size) by rw [← hW];exact KpA)
  have k_R_0 : W0.cell? ⟨w.heap.size + 1,0,none⟩ = some (.bool false) := by rw [← hW];(first | (go_simp;done) | (simp;done) | (simp [go_sem];done) | (simp [go_sem];done))
  have k_R_1 : W0.cell? ⟨w.heap.size + 1,1,none⟩ = some (.slice none 0 0) := by rw [← hW];(first | (go_simp;done) | (simp;done) | (simp [go_sem];done) | (simp [go_sem];done))
  have k_R_2 : W0.cell? ⟨w.heap.size + 1,2,none⟩ = some (.slice none 0 0) := by rw [← hW];(first | (go_simp;done) | (simp;done) | (simp [go_sem];done) | (simp [go_sem];done))
  have f_R : ∀ o,W0.frozen? ⟨w.heap.size + 1,o,none⟩ = false := by intro o;rw [← hW];(first | (go_simp;done) | (simp;done) | (simp [go_sem];done) | (simp [go_sem];done))
  have HX_R := Lib.hid (show Bn W0 (w.heap.size + 1) by rw [← hW];exact KpA)
  replace HA := Lib.hid (HA.out.keep HK_W0.out)
  replace HD := Lib.hid (HD.out.keep HK_W0.out)
  replace HB := Lib.hid (show Below w.heap.size w W0 by rw [← hW];exact BlA)
  replace hN : N ≤ W0.heap.size := by rw [← hW];(first | omega | (simp;done) | (simp;omega))
  have hs0 : w.heap.size ≤ W0.heap.size := by rw [← hW];(first | omega | (simp;done) | (simp;omega))
  have hl_P : w.heap.size < W0.heap.size := by rw [← hW];(first | omega | (simp;done) | (simp;omega))
  have hl_R : w.heap.size + 1 < W0.heap.size := by rw [← hW];(first | omega | (simp;done) | (simp;omega))
  clear hW HK_W0
  have hd_P_R : w.heap.size < w.heap.size + 1 := by omega
  go_region_held3 (fun w' => w'.cell? ⟨w.heap.size,0,none⟩ = some (.bool s) ∧ w'.cell? ⟨w.heap.size,1,none⟩ = some (.slice a na ca) ∧ w'.cell? ⟨w.heap.size,2,none⟩ = some (.slice d nd cd))
    (first | (go_keep;done) | ((try dsimp only);(repeat' apply And.intro) <;> (first | (go_keep;done) | (exact cell_keep_alloc_drew (by first | omega | (simp;omega)) (by first | assumption | go_simp)) | (exact cell_keep_alloc (by first | omega | (simp;omega)) (by first | assumption | go_simp)) | (rw [cell_set2 _ _ _ _ _ _ _ _ (by omega)];assumption) | (rw [cell_set3 _ _ _ _ _ _ _ _ _ _ (by omega)];assumption))))
    (first
      | (go_at_call 92;refine (xtop_any (N := N) s _ _ _ _ mn _ _ md _ (by exact hN) (by exact HA.out) (by exact HD.out) (by omega) (by omega) z HZ.out).mono ?_;rintro e wa ⟨rx,cx,rfl,hn,hb⟩;replace hb : Below W0.heap.size W0 wa := (by first | exact hb | exact bel_of_drew hb);have hs_wa : W0.heap.size ≤ wa.heap.size := hb.size;replace k_P_0 : wa.cell? ⟨w.heap.size,0,none⟩ = some (.bool s) := (hb.cell (p := ⟨w.heap.size,0,none⟩) hl_P).trans k_P_0;replace k_P_1 : wa.cell? ⟨w.heap.size,1,none⟩ = some (.slice a na ca) := (hb.cell (p := ⟨w.heap.size,1,none⟩) hl_P).trans k_P_1;replace k_P_2 : wa.cell? ⟨w.heap.size,2,none⟩ = some (.slice d nd cd) := (hb.cell (p := ⟨w.heap.size,2,none⟩) hl_P).trans k_P_2;replace f_P : ∀ o,wa.frozen? ⟨w.heap.size,o,none⟩ = false := fun o => (hb.frozen (p := ⟨w.heap.size,o,none⟩) hl_P).trans (f_P o);replace HX_P := Lib.hid (HX_P.out.below hb);replace k_R_0 : wa.cell? ⟨w.heap.size + 1,0,none⟩ = some (.bool false) := (hb.cell (p := ⟨w.heap.size + 1,0,none⟩) hl_R).trans k_R_0;replace k_R_1 : wa.cell? ⟨w.heap.size + 1,1,none⟩ = some (.slice none 0 0) := (hb.cell (p := ⟨w.heap.size + 1,1,none⟩) hl_R).trans k_R_1;replace k_R_2 : wa.cell? ⟨w.heap.size + 1,2,none⟩ = some (.slice none 0 0) := (hb.cell (p := ⟨w.heap.size + 1,2,none⟩) hl_R).trans k_R_2;replace f_R : ∀ o,wa.frozen? ⟨w.heap.size + 1,o,none⟩ = false := fun o => (hb.frozen (p := ⟨w.heap.size + 1,o,none⟩) hl_R).trans (f_R o);replace HX_R := Lib.hid (HX_R.out.below hb);replace HA := Lib.hid (HA.out.below hb);replace HD := Lib.hid (HD.out.below hb);replace HB := Lib.hid (HB.out.trans (hb.mono hs0));replace hN : N ≤ wa.heap.size := Nat.le_trans hN hb.size;replace hs0 : w.heap.size ≤ wa.heap.size := Nat.le_trans hs0 hb.size;replace hl_P : w.heap.size < wa.heap.size := Nat.lt_of_lt_of_le hl_P hb.size;replace hl_R : w.heap.size + 1 < wa.heap.size := Nat.lt_of_lt_of_le hl_R hb.size;clear hb;have HT := Lib.hid hn;clear hn;skip)
      | (go_at_call 94;refine (xlow_any (N := N) s _ _ _ _ mn _ _ md _ (by exact hN) (by exact HA.out) (by exact HD.out) (by omega) (by omega)).mono ?_;rintro e wb ⟨ry,cy,rfl,hn,hb⟩;replace hb : Below wa.heap.size wa wb := (by first | exact hb | exact bel_of_drew hb);have hs_wb : wa.heap.size ≤ wb.heap.size := hb.size;replace k_P_0 : wb.cell? ⟨w.heap.size,0,none⟩ = some (.bool s) := (hb.cell (p := ⟨w.heap.size,0,none⟩) hl_P).trans k_P_0;replace k_P_1 : wb.cell? ⟨w.heap.size,1,none⟩ = some (.slice a na ca) := (hb.cell (p := ⟨w.heap.size,1,none⟩) hl_P).trans k_P_1;replace k_P_2 : wb.cell? ⟨w.heap.size,2,none⟩ = some (.slice d nd cd) := (hb.cell (p := ⟨w.heap.size,2,none⟩) hl_P).trans k_P_2;replace f_P : ∀ o,wb.frozen? ⟨w.heap.size,o,none⟩ = false := fun o => (hb.frozen (p := ⟨w.heap.size,o,none⟩) hl_P).trans (f_P o);replace HX_P := Lib.hid (HX_P.out.below hb);replace k_R_0 : wb.cell? ⟨w.heap.size + 1,0,none⟩ = some (.bool false) := (hb.cell (p := ⟨w.heap.size + 1,0,none⟩) hl_R).trans k_R_0;replace k_R_1 : wb.cell? ⟨w.heap.size + 1,1,none⟩ = some (.slice none 0 0) := (hb.cell (p := ⟨w.heap.size + 1,1,none⟩) hl_R).trans k_R_1;replace k_R_2 : wb.cell? ⟨w.heap.size + 1,2,none⟩ = some (.slice none 0 0) := (hb.cell (p := ⟨w.heap.size + 1,2,none⟩) hl_R).trans k_R_2;replace f_R : ∀ o,wb.frozen? ⟨w.heap.size + 1,o,none⟩ = false := fun o => (hb.frozen (p := ⟨w.heap.size + 1,o,none⟩) hl_R).trans (f_R o);replace HX_R := Lib.hid (HX_R.out.below hb);replace HA := Lib.hid (HA.out.below hb);replace HD := Lib.hid (HD.out.below hb);replace HT := Lib.hid (HT.out.below hb);replace HB := Lib.hid (HB.out.trans (hb.mono hs0));replace hN : N ≤ wb.heap.size := Nat.le_trans hN hb.size;replace hs0 : w.heap.size ≤ wb.heap.size := Nat.le_trans hs0 hb.size;replace hl_P : w.heap.size < wb.heap.size := Nat.lt_of_lt_of_le hl_P hb.size;replace hl_R : w.heap.size + 1 < wb.heap.size := Nat.lt_of_lt_of_le hl_R hb.size;clear hb;have HL := Lib.hid hn;clear hn;skip)
      | (go_at_call 96;refine (xreduce_any (N := N) (decide (z < 0)) _ _ _ _ z.natAbs _ _ (dl md) _ (by exact hN) (by exact HT.out) (by exact HL.out) (by omega) (by omega) p1 q HE.out).mono ?_;rintro e wc ⟨rp,cp,rp2,cp2,rfl,hn,hn',hb⟩;replace hb : Below wb.heap.size wb wc := (by first | exact hb | exact bel_of_drew hb);have hs_wc : wb.heap.size ≤ wc.heap.size := hb.size;replace k_P_0 : wc.cell? ⟨w.heap.size,0,none⟩ = some (.bool s) := (hb.cell (p := ⟨w.heap.size,0,none⟩) hl_P).trans k_P_0;replace k_P_1 : wc.cell? ⟨w.heap.size,1,none⟩ = some (.slice a na ca) := (hb.cell (p := ⟨w.heap.size,1,none⟩) hl_P).trans k_P_1;replace k_P_2 : wc.cell? ⟨w.heap.size,2,none⟩ = some (.slice d nd cd) := (hb.cell (p := ⟨w.heap.size,2,none⟩) hl_P).trans k_P_2;replace f_P : ∀ o,wc.frozen? ⟨w.heap.size,o,none⟩ = false := fun o => (hb.frozen (p := ⟨w.heap.size,o,none⟩) hl_P).trans (f_P o);replace HX_P := Lib.hid (HX_P.out.below hb);replace k_R_0 : wc.cell? ⟨w.heap.size + 1,0,none⟩ = some (.bool false) := (hb.cell (p := ⟨w.heap.size + 1,0,none⟩) hl_R).trans k_R_0;replace k_R_1 : wc.cell? ⟨w.heap.size + 1,1,none⟩ = some (.slice none 0 0) := (hb.cell (p := ⟨w.heap.size + 1,1,none⟩) hl_R).trans k_R_1;replace k_R_2 : wc.cell? ⟨w.heap.size + 1,2,none⟩ = some (.slice none 0 0) := (hb.cell (p := ⟨w.heap.size + 1,2,none⟩) hl_R).trans k_R_2;replace f_R : ∀ o,wc.frozen? ⟨w.heap.size + 1,o,none⟩ = false := fun o => (hb.frozen (p := ⟨w.heap.size + 1,o,none⟩) hl_R).trans (f_R o);replace HX_R := Lib.hid (HX_R.out.below hb);replace HA := Lib.hid (HA.out.below hb);replace HD := Lib.hid (HD.out.below hb);replace HT := Lib.hid (HT.out.below hb);replace HL := Lib.hid (HL.out.below hb);replace HB := Lib.hid (HB.out.trans (hb.mono hs0));replace hN : N ≤ wc.heap.size := Nat.le_trans hN hb.size;replace hs0 : w.heap.size ≤ wc.heap.size := Nat.le_trans hs0 hb.size;replace hl_P : w.heap.size < wc.heap.size := Nat.lt_of_lt_of_le hl_P hb.size;replace hl_R : w.heap.size + 1 < wc.heap.size := Nat.lt_of_lt_of_le hl_R hb.size;clear hb;have HP1 := Lib.hid hn;clear hn;have HP2 := Lib.hid hn';clear hn';skip))
  go_wp2_with fail
  refine bodyPost_ret (v := .agg #[.bool (decide ((q).num < 0)),.slice rp (nlen (q).num.natAbs) cp,.slice rp2 (nlen (q).den) cp2]) (by simp [results,Tryz.results62,go_sem,k_R_0,k_R_1,k_R_2]) rfl ⟨_,_,_,_,rfl,HP1.out.keep ?_,HP2.out.keep ?_,?_⟩
  all_goals exact KBA
set_option maxHeartbeats 2000000 in
theorem xpow_any {N : Nat} (a : Option Addr) (na ca m : Nat) (ni : Int) (n L : Nat) (e : ni = n) (w : World) (hN : N ≤ w.heap.size) (h : Nt N w a na ca m) (hl : na ≤ L) (hL : L ≤ 16777216) (hn : n ≤ 512) :
    Calls Tryz.prog 64 #[.slice a na ca,.int .i64 ni] w fun e w' => ∃ r cr,e = .returned (.tuple #[.slice r (nlen (m ^ n)) cr,.bool true]) ∧ Nt N w' r (nlen (m ^ n)) cr (m ^ n) ∧ Below w.heap.size w w' := by
  have d1 : decide (ni < 0) = false := by simp;omega
  have d2 : decide (512 < ni) = false := by simp;omega
  subst e
  have HAw := Lib.hid h
  have HA := Lib.hid h
  have hml := nlen_bound h _ hl
  clear h
  have hN0 := hN
  have HB := Lib.hid (Below.refl w.heap.size w)
  go_enter Tryz.func64,Tryz.ntmps64
  go_wp2_with fail
  refine calls_name fun W0 hW => ?_
  have hs_W0 : w.heap.size ≤ W0.heap.size := by rw [← hW];(first | omega | (simp;done) | (simp;omega))
  have HK_W0 := Lib.hid (show Kp N w W0 by rw [← hW];exact KpA)
  replace HA := Lib.hid (HA.out.keep HK_W0.out)
  replace HB := Lib.hid (show Below w.heap.size w W0 by rw [← hW];exact BlA)
  replace hN : N ≤ W0.heap.size := by rw [← hW];(first | omega | (simp;done) | (simp;omega))
  have hs0 : w.heap.size ≤ W0.heap.size := by rw [← hW];(first | omega | (simp;done) | (simp;omega))
  clear hW HK_W0
  refine (xof_any (N := N) 1 _ (by decide)).mono ?_
  rintro e wa ⟨rx,cx,rfl,hn,hb⟩
  have hs_wa : W0.heap.size ≤ wa.heap.size := hb.size
  replace HA := Lib.hid (HA.out.below hb)
  replace HB := Lib.hid (HB.out.trans (hb.mono hs0))
  replace hN : N ≤ wa.heap.size := Nat.le_trans hN hb.size
  replace hs0 : w.heap.size ≤ wa.heap.size := Nat.le_trans hs0 hb.size
  clear hb
  have HX := Lib.hid hn
  clear hn
  go_wp2_with fail
  go_loopw [6,7] (fun p i wr => ∃ j r c,j ≤ n ∧ i = .int .i64 ((j : Nat) : Int) ∧ p = .slice r (nlen (m ^ j)) c ∧ Nt N wr r (nlen (m ^ j)) c (m ^ j) ∧ Below w.heap.size w wr ∧ w.heap.size ≤ wr.heap.size) (fun _ i _ => n - (intOf i).toNat)
  case atStart => exact ⟨0,rx,cx,Nat.zero_le _,rfl,rfl,HX.out,HB.out,hs0⟩
  case round =>
    obtain ⟨j,r,c,hj,rfl,rfl,hp,hbel,hsz⟩ := hrel
    have HAr := Lib.hid (HAw.out.below hbel)
    clear HX HB hs0 hN
    have HP := Lib.hid hp
    have HB := Lib.hid hbel
    have hs0 := hsz
    have hN : N ≤ wr.heap.size := by omega
    have lp := nlen_pow m L hml j
    have hm4 : L * j ≤ L * 512 := Nat.mul_le_mul_left _ (by omega)
    clear hp hbel
    by_cases hjm : j < n
    · go_wp2_with fail
      refine calls_name fun W1 hW => ?_
      have hs_W1 : wr.heap.size ≤ W1.heap.size := by rw [← hW];(first | omega | (simp;done) | (simp;omega))
      have HK_W1 := Lib.hid (show Kp N wr W1 by rw [← hW];exact KpA)
      replace HP := Lib.hid (HP.out.keep HK_W1.out)
      replace HAr := Lib.hid (HAr.out.keep HK_W1.out)
      replace HB := Lib.hid (show Below w.heap.size w W1 by rw [← hW];exact BlA)
      replace hN : N ≤ W1.heap.size := by rw [← hW];(first | omega | (simp;done) | (simp;omega))
      replace hs0 : w.heap.size ≤ W1.heap.size := by rw [← hW];(first | omega | (simp;done) | (simp;omega))
      clear hW HK_W1
      refine (xmul_any (N := N) _ _ _ _ (m ^ j) _ _ m _ hN HP.out HAr.out (by omega) (by omega)).mono ?_
      rintro e wc ⟨rm,cm,rfl,hn,hb⟩
      have hs_wc : W1.heap.size ≤ wc.heap.size := hb.size
      replace HP := Lib.hid (HP.out.below hb)
      replace HAr := Lib.hid (HAr.out.below hb)
      replace HB := Lib.hid (HB.out.trans (hb.mono hs0))
      replace hN : N ≤ wc.heap.size := Nat.le_trans hN hb.size
      replace hs0 : w.heap.size ≤ wc.heap.size := Nat.le_trans hs0 hb.size
      clear hb
      have HM := Lib.hid hn
      clear hn
      go_wp2_with fail
      have HEP := Lib.hid (Nat.pow_succ (n := m) (m := j)).symm
      go_roundw
      case rel => exact ⟨j + 1,rm,cm,by omega,by go_num,by rw [← HEP.out],by rw [← HEP.out];exact HM.out,HB.out,hs0⟩
      case measure => simp [intOf];omega
    · obtain rfl : j = n := by omega
      go_wp2_with fail
      go_ret2
      exact ⟨_,_,rfl,HP.out,HB.out⟩
set_option maxHeartbeats 8000000 in
theorem xbinomial_ok {N : Nat} (n : Nat) (s : Bool) (a d : Option Addr) (na ca nd cd L : Nat) (q : Rat) (w : World) (hN : N ≤ w.heap.size) (h : Rt N w s a na ca d nd cd q L) (hL : L ≤ 2097152) (hx : prb q = true) (hn : n ≤ 120) (p : Nat → Rat) (hq : ∀ i, i < n + 1 → frq (binN (nuQ1 q) (faQ1 q) n i) (q.den ^ n) = p i) :
    Calls Tryz.prog 31 #[.int .i64 n,.agg #[.bool s,.slice a na ca,.slice d nd cd]] w (RnPost N w (n + 1) p) := by
  have d1 : decide ((n : Int) < 0) = false := by simp
  have d2 : decide (121 ≤ (n : Int)) = false := by simp;omega
  have HPX := Lib.hid hx
  have hle := prb_le q hx
  have hrz := h.rsz_le
  have hl1 : nlen q.num.natAbs ≤ L := by unfold rsz at hrz;omega
  have hl2 : nlen q.den ≤ L := by unfold rsz at hrz;omega
  have hl3 : nlen (faQ1 q) ≤ L := Nat.le_trans (nlen_mono (Nat.sub_le _ _)) hl2
  have HR := Lib.hid h
  have HQ := Lib.hid hq
  clear h hx hq
  have hN0 := hN
  have HB := Lib.hid (Below.refl w.heap.size w)
  obtain ⟨i0,hi,hz0,hz1,hz2⟩ := info_parts Tryz.infoRat
  go_enter Tryz.func31,Tryz.ntmps31
  go_wp2_with fail
  refine calls_name fun W0 hW => ?_
  have hs_W0 : w.heap.size ≤ W0.heap.size := by rw [← hW];(first | omega | (simp;done) | (simp;omega))
  have HK_W0 := Lib.hid (show Kp N w W0 by rw [← hW];exact KpA)
  have k_P_0 : W0.cell? ⟨w.heap.size,0,none⟩ = some (.bool s) := by rw [← hW];(first | (go_simp;done) | (simp;done) | (simp [go_sem];done) | (simp [go_sem];done))
  have k_P_1 : W0.cell? ⟨w.heap.size,1,none⟩ = some (.slice a na ca) := by rw [← hW];(first | (go_simp;done) | (simp;done) | (simp [go_sem];done) | (simp [go_sem];done))
  have k_P_2 : W0.cell? ⟨w.heap.size,2,none⟩ = some (.slice d nd cd) := by rw [← hW];(first | (go_simp;done) | (simp;done) | (simp [go_sem];done) | (simp [go_sem];done))
  have f_P : ∀ o,W0.frozen? ⟨w.heap.size,o,none⟩ = false := by intro o;rw [← hW];(first | (go_simp;done) | (simp;done) | (simp [go_sem];done) | (simp [go_sem];done))
  have HX_P := Lib.hid (show Bn W0 (w.heap.size) by rw [← hW];exact KpA)
  replace HR := Lib.hid (HR.out.keep HK_W0.out)
  replace HB := Lib.hid (show Below w.heap.size w W0 by rw [← hW];exact BlA)
  replace hN : N ≤ W0.heap.size := by rw [← hW];(first | omega | (simp;done) | (simp;omega))
  have hs0 : w.heap.size ≤ W0.heap.size := by rw [← hW];(first | omega | (simp;done) | (simp;omega))
  have hl_P : w.heap.size < W0.heap.size := by rw [← hW];(first | omega | (simp;done) | (simp;omega))
  clear hW HK_W0
  refine (Share_any (N := N) _ _ _ _ _ _ _ L q _ hN HR.out (by omega) true HPX.out).mono ?_
  rintro e wa ⟨rfl,hb⟩
  have hs_wa : W0.heap.size ≤ wa.heap.size := hb.size
  replace k_P_0 : wa.cell? ⟨w.heap.size,0,none⟩ = some (.bool s) := (hb.cell (p := ⟨w.heap.size,0,none⟩) hl_P).trans k_P_0
  replace k_P_1 : wa.cell? ⟨w.heap.size,1,none⟩ = some (.slice a na ca) := (hb.cell (p := ⟨w.heap.size,1,none⟩) hl_P).trans k_P_1
  replace k_P_2 : wa.cell? ⟨w.heap.size,2,none⟩ = some (.slice d nd cd) := (hb.cell (p := ⟨w.heap.size,2,none⟩) hl_P).trans k_P_2
  replace f_P : ∀ o,wa.frozen? ⟨w.heap.size,o,none⟩ = false := fun o => (hb.frozen (p := ⟨w.heap.size,o,none⟩) hl_P).trans (f_P o)
  replace HX_P := Lib.hid (HX_P.out.below hb)
  replace HR := Lib.hid (HR.out.below hb)
  replace HB := Lib.hid (HB.out.trans (hb.mono hs0))
  replace hN : N ≤ wa.heap.size := Nat.le_trans hN hb.size
  replace hs0 : w.heap.size ≤ wa.heap.size := Nat.le_trans hs0 hb.size
  replace hl_P : w.heap.size < wa.heap.size := Nat.lt_of_lt_of_le hl_P hb.size
  clear hb
  go_wp2_with fail
  refine calls_name fun W1 hW => ?_
  have HL_W1 := Lib.hid (show Below wa.heap.size wa W1 by rw [← hW];exact BlA)
  have hs_W1 : wa.heap.size ≤ W1.heap.size := by rw [← hW];(first | omega | (simp;done) | (simp;omega))
  have HK_W1 := Lib.hid (show Kp N wa W1 by rw [← hW];exact KpA)
  replace k_P_0 : W1.cell? ⟨w.heap.size,0,none⟩ = some (.bool s) := (HL_W1.out.cell (p := ⟨w.heap.size,0,none⟩) hl_P).trans k_P_0
  replace k_P_1 : W1.cell? ⟨w.heap.size,1,none⟩ = some (.slice a na ca) := (HL_W1.out.cell (p := ⟨w.heap.size,1,none⟩) hl_P).trans k_P_1
  replace k_P_2 : W1.cell? ⟨w.heap.size,2,none⟩ = some (.slice d nd cd) := (HL_W1.out.cell (p := ⟨w.heap.size,2,none⟩) hl_P).trans k_P_2
  replace f_P : ∀ o,W1.frozen? ⟨w.heap.size,o,none⟩ = false := fun o => (HL_W1.out.frozen (p := ⟨w.heap.size,o,none⟩) hl_P).trans (f_P o)
  replace HX_P := Lib.hid (show Bn W1 (w.heap.size) by rw [← hW];exact KpA)
  replace HR := Lib.hid (HR.out.keep HK_W1.out)
  replace HB := Lib.hid (show Below w.heap.size w W1 by rw [← hW];exact BlA)
  replace hN : N ≤ W1.heap.size := by rw [← hW];(first | omega | (simp;done) | (simp;omega))
  replace hs0 : w.heap.size ≤ W1.heap.size := by rw [← hW];(first | omega | (simp;done) | (simp;omega))
  replace hl_P : w.heap.size < W1.heap.size := by rw [← hW];(first | omega | (simp;done) | (simp;omega))
  clear HL_W1
  clear hW HK_W1
  refine (xrnorm_any (N := N) _ _ _ _ _ _ _ L q _ hN HR.out (by omega)).mono ?_
  rintro e wb ⟨rn,cn,rn2,cn2,rfl,hn,hn',hb⟩
  have hs_wb : W1.heap.size ≤ wb.heap.size := hb.size
  replace k_P_0 : wb.cell? ⟨w.heap.size,0,none⟩ = some (.bool s) := (hb.cell (p := ⟨w.heap.size,0,none⟩) hl_P).trans k_P_0
  replace k_P_1 : wb.cell? ⟨w.heap.size,1,none⟩ = some (.slice a na ca) := (hb.cell (p := ⟨w.heap.size,1,none⟩) hl_P).trans k_P_1
  replace k_P_2 : wb.cell? ⟨w.heap.size,2,none⟩ = some (.slice d nd cd) := (hb.cell (p := ⟨w.heap.size,2,none⟩) hl_P).trans k_P_2
  replace f_P : ∀ o,wb.frozen? ⟨w.heap.size,o,none⟩ = false := fun o => (hb.frozen (p := ⟨w.heap.size,o,none⟩) hl_P).trans (f_P o)
  replace HX_P := Lib.hid (HX_P.out.below hb)
  replace HR := Lib.hid (HR.out.below hb)
  replace HB := Lib.hid (HB.out.trans (hb.mono hs0))
  replace hN : N ≤ wb.heap.size := Nat.le_trans hN hb.size
  replace hs0 : w.heap.size ≤ wb.heap.size := Nat.le_trans hs0 hb.size
  replace hl_P : w.heap.size < wb.heap.size := Nat.lt_of_lt_of_le hl_P hb.size
  clear hb
  have HP1 := Lib.hid hn
  clear hn
  have HP2 := Lib.hid hn'
  clear hn'
  clear HR
  go_wp2_with fail
  refine calls_name fun W2 hW => ?_
  have hs_W2 : wb.heap.size ≤ W2.heap.size := by rw [← hW];(first | omega | (simp;done) | (simp;omega))
  have HK_W2 := Lib.hid (show Kp N wb W2 by rw [← hW];exact KpA)
  replace k_P_0 : W2.cell? ⟨w.heap.size,0,none⟩ = some (.bool (decide ((q).num < 0))) := by rw [← hW];(first | (go_simp;done) | (simp [go_sem,k_P_0];done) | (simp [go_sem,k_P_0,k_P_1,k_P_2];done) | (simp [go_sem,k_P_0,k_P_1,k_P_2,f_P,hl_P];done))
  replace k_P_1 : W2.cell? ⟨w.heap.size,1,none⟩ = some (.slice rn (nlen (q).num.natAbs) cn) := by rw [← hW];(first | (go_simp;done) | (simp [go_sem,k_P_1];done) | (simp [go_sem,k_P_0,k_P_1,k_P_2];done) | (simp [go_sem,k_P_0,k_P_1,k_P_2,f_P,hl_P];done))
  replace k_P_2 : W2.cell? ⟨w.heap.size,2,none⟩ = some (.slice rn2 (nlen (q).den) cn2) := by rw [← hW];(first | (go_simp;done) | (simp [go_sem,k_P_2];done) | (simp [go_sem,k_P_0,k_P_1,k_P_2];done) | (simp [go_sem,k_P_0,k_P_1,k_P_2,f_P,hl_P];done))
  replace f_P : ∀ o,W2.frozen? ⟨w.heap.size,o,none⟩ = false := by intro o;rw [← hW];(first | with_reducible exact f_P o | (simp [go_sem,f_P];done) | (simp [go_sem,f_P,hl_P];done) | (go_simp;done) | (simp [go_sem,k_P_0,k_P_1,k_P_2,f_P,hl_P];done))
  replace HX_P := Lib.hid (show Bn W2 (w.heap.size) by rw [← hW];exact KpA)
  replace HP1 := Lib.hid (HP1.out.keep HK_W2.out)
  replace HP2 := Lib.hid (HP2.out.keep HK_W2.out)
  replace HB := Lib.hid (show Below w.heap.size w W2 by rw [← hW];exact BlA)
  replace hN : N ≤ W2.heap.size := by rw [← hW];(first | omega | (simp;done) | (simp;omega))
  replace hs0 : w.heap.size ≤ W2.heap.size := by rw [← hW];(first | omega | (simp;done) | (simp;omega))
  replace hl_P : w.heap.size < W2.heap.size := by rw [← hW];(first | omega | (simp;done) | (simp;omega))
  clear hW HK_W2
  refine (xsub_any (N := N) _ _ _ _ q.den _ _ q.num.natAbs _ hN HP2.out HP1.out (by omega) hle).mono ?_
  rintro e wc ⟨rf,cf,rfl,hn,hb⟩
  have hs_wc : W2.heap.size ≤ wc.heap.size := hb.size
  replace k_P_0 : wc.cell? ⟨w.heap.size,0,none⟩ = some (.bool (decide ((q).num < 0))) := (hb.cell (p := ⟨w.heap.size,0,none⟩) hl_P).trans k_P_0
  replace k_P_1 : wc.cell? ⟨w.heap.size,1,none⟩ = some (.slice rn (nlen (q).num.natAbs) cn) := (hb.cell (p := ⟨w.heap.size,1,none⟩) hl_P).trans k_P_1
  replace k_P_2 : wc.cell? ⟨w.heap.size,2,none⟩ = some (.slice rn2 (nlen (q).den) cn2) := (hb.cell (p := ⟨w.heap.size,2,none⟩) hl_P).trans k_P_2
  replace f_P : ∀ o,wc.frozen? ⟨w.heap.size,o,none⟩ = false := fun o => (hb.frozen (p := ⟨w.heap.size,o,none⟩) hl_P).trans (f_P o)
  replace HX_P := Lib.hid (HX_P.out.below hb)
  replace HP1 := Lib.hid (HP1.out.below hb)
  replace HP2 := Lib.hid (HP2.out.below hb)
  replace HB := Lib.hid (HB.out.trans (hb.mono hs0))
  replace hN : N ≤ wc.heap.size := Nat.le_trans hN hb.size
  replace hs0 : w.heap.size ≤ wc.heap.size := Nat.le_trans hs0 hb.size
  replace hl_P : w.heap.size < wc.heap.size := Nat.lt_of_lt_of_le hl_P hb.size
  clear hb
  have HF := Lib.hid hn
  clear hn
  go_wp2_with fail
  refine calls_name fun W3 hW => ?_
  have HL_W3 := Lib.hid (show Below wc.heap.size wc W3 by rw [← hW];exact BlA)
  have hs_W3 : wc.heap.size ≤ W3.heap.size := by rw [← hW];(first | omega | (simp;done) | (simp;omega))
  have HK_W3 := Lib.hid (show Kp N wc W3 by rw [← hW];exact KpA)
  replace k_P_0 : W3.cell? ⟨w.heap.size,0,none⟩ = some (.bool (decide ((q).num < 0))) := (HL_W3.out.cell (p := ⟨w.heap.size,0,none⟩) hl_P).trans k_P_0
  replace k_P_1 : W3.cell? ⟨w.heap.size,1,none⟩ = some (.slice rn (nlen (q).num.natAbs) cn) := (HL_W3.out.cell (p := ⟨w.heap.size,1,none⟩) hl_P).trans k_P_1
  replace k_P_2 : W3.cell? ⟨w.heap.size,2,none⟩ = some (.slice rn2 (nlen (q).den) cn2) := (HL_W3.out.cell (p := ⟨w.heap.size,2,none⟩) hl_P).trans k_P_2
  replace f_P : ∀ o,W3.frozen? ⟨w.heap.size,o,none⟩ = false := fun o => (HL_W3.out.frozen (p := ⟨w.heap.size,o,none⟩) hl_P).trans (f_P o)
  replace HX_P := Lib.hid (show Bn W3 (w.heap.size) by rw [← hW];exact KpA)
  replace HP1 := Lib.hid (HP1.out.keep HK_W3.out)
  replace HP2 := Lib.hid (HP2.out.keep HK_W3.out)
  replace HF := Lib.hid (HF.out.keep HK_W3.out)
  replace HB := Lib.hid (show Below w.heap.size w W3 by rw [← hW];exact BlA)
  replace hN : N ≤ W3.heap.size := by rw [← hW];(first | omega | (simp;done) | (simp;omega))
  replace hs0 : w.heap.size ≤ W3.heap.size := by rw [← hW];(first | omega | (simp;done) | (simp;omega))
  replace hl_P : w.heap.size < W3.heap.size := by rw [← hW];(first | omega | (simp;done) | (simp;omega))
  clear HL_W3
  clear hW HK_W3
  refine (xpow_any (N := N) _ _ _ q.den _ n L rfl _ hN HP2.out (by omega) (by omega) (by omega)).mono ?_
  rintro e wd ⟨rt,ct,rfl,hn,hb⟩
  have hs_wd : W3.heap.size ≤ wd.heap.size := hb.size
  replace k_P_0 : wd.cell? ⟨w.heap.size,0,none⟩ = some (.bool (decide ((q).num < 0))) := (hb.cell (p := ⟨w.heap.size,0,none⟩) hl_P).trans k_P_0
  replace k_P_1 : wd.cell? ⟨w.heap.size,1,none⟩ = some (.slice rn (nlen (q).num.natAbs) cn) := (hb.cell (p := ⟨w.heap.size,1,none⟩) hl_P).trans k_P_1
  replace k_P_2 : wd.cell? ⟨w.heap.size,2,none⟩ = some (.slice rn2 (nlen (q).den) cn2) := (hb.cell (p := ⟨w.heap.size,2,none⟩) hl_P).trans k_P_2
  replace f_P : ∀ o,wd.frozen? ⟨w.heap.size,o,none⟩ = false := fun o => (hb.frozen (p := ⟨w.heap.size,o,none⟩) hl_P).trans (f_P o)
  replace HX_P := Lib.hid (HX_P.out.below hb)
  replace HP1 := Lib.hid (HP1.out.below hb)
  replace HP2 := Lib.hid (HP2.out.below hb)
  replace HF := Lib.hid (HF.out.below hb)
  replace HB := Lib.hid (HB.out.trans (hb.mono hs0))
  replace hN : N ≤ wd.heap.size := Nat.le_trans hN hb.size
  replace hs0 : w.heap.size ≤ wd.heap.size := Nat.le_trans hs0 hb.size
  replace hl_P : w.heap.size < wd.heap.size := Nat.lt_of_lt_of_le hl_P hb.size
  clear hb
  have HT := Lib.hid hn
  clear hn
  have hlt := nlen_pow q.den L hl2 n
  have hm4 : L * n ≤ L * 120 := Nat.mul_le_mul_left _ hn
  go_wp2_with fail
  have hNd := hN
  go_loopw [10,11] (fun out i wr => ∃ j,j ≤ n + 1 ∧ i = .int .i64 ((j : Nat) : Int) ∧ Ol N wd.heap.size wr out j p ∧ Below wd.heap.size wd wr) (fun _ i _ => n + 1 - (intOf i).toNat)
  case atStart => exact ⟨0,Nat.zero_le _,rfl,Ol.start _ _ _ _ (Nat.le_refl _),bel1 _ _⟩
  case round =>
    obtain ⟨j,hj,rfl,hol,hbel⟩ := hrel
    have HOL := Lib.hid hol
    have HBJ := Lib.hid hbel
    have hsj := hbel.size
    clear hol
    have hl_P' : w.heap.size < wr.heap.size := Nat.lt_of_lt_of_le hl_P hbel.size
    have k_P_0' : wr.cell? ⟨w.heap.size,0,none⟩ = some (.bool (decide ((q).num < 0))) := (hbel.cell (p := ⟨w.heap.size,0,none⟩) hl_P).trans k_P_0
    have k_P_1' : wr.cell? ⟨w.heap.size,1,none⟩ = some (.slice rn (nlen (q).num.natAbs) cn) := (hbel.cell (p := ⟨w.heap.size,1,none⟩) hl_P).trans k_P_1
    have k_P_2' : wr.cell? ⟨w.heap.size,2,none⟩ = some (.slice rn2 (nlen (q).den) cn2) := (hbel.cell (p := ⟨w.heap.size,2,none⟩) hl_P).trans k_P_2
    have f_P' : ∀ o,wr.frozen? ⟨w.heap.size,o,none⟩ = false := fun o => (hbel.frozen (p := ⟨w.heap.size,o,none⟩) hl_P).trans (f_P o)
    have HX_P' := Lib.hid (HX_P.out.below hbel)
    clear hl_P f_P HX_P k_P_0 k_P_1 k_P_2
    have hl_P := hl_P'
    have f_P := f_P'
    have HX_P := HX_P'
    have k_P_0 := k_P_0'
    have k_P_1 := k_P_1'
    have k_P_2 := k_P_2'
    clear hl_P' f_P' HX_P' k_P_0' k_P_1' k_P_2'
    have HP1' := Lib.hid (HP1.out.below hbel)
    have HP2' := Lib.hid (HP2.out.below hbel)
    have HF' := Lib.hid (HF.out.below hbel)
    have HT' := Lib.hid (HT.out.below hbel)
    clear HP1 HP2 HF HT
    have HP1 := HP1'
    have HP2 := HP2'
    have HF := HF'
    have HT := HT'
    clear HP1' HP2' HF' HT'
    have HB' := Lib.hid (HB.out.trans (hbel.mono hs0))
    have hN' : N ≤ wr.heap.size := by omega
    have hs0' : w.heap.size ≤ wr.heap.size := by omega
    clear HB hN hs0 hbel
    have HB := HB'
    have hN := hN'
    have hs0 := hs0'
    clear HB' hN' hs0'
    by_cases hjn : j ≤ n
    · have d3 : decide ((j : Int) ≤ (n : Int)) = true := by simp;omega
      have d3' : decide (j ≤ n) = true := by simp;omega
      have hw2 : IntKind.i64.wrap ((n : Int) - (j : Int)) = ((n - j : Nat) : Int) := by rw [IntKind.wrap_i64];omega
      have la := chs_len n j (by omega)
      have lpj := nlen_pow q.num.natAbs L hl1 j
      have lfj := nlen_pow (faQ1 q) L hl3 (n - j)
      have hm5 : L * j ≤ L * 120 := Nat.mul_le_mul_left _ (by omega)
      have hm6 : L * (n - j) ≤ L * 120 := Nat.mul_le_mul_left _ (by omega)
      have HQJ := Lib.hid (HQ.out j (by omega))
      go_wp2_with fail
      refine calls_name fun X1 hW => ?_
      have HL_X1 := Lib.hid (show Below wr.heap.size wr X1 by rw [← hW];exact BlA)
      have hs_X1 : wr.heap.size ≤ X1.heap.size := by rw [← hW];(first | omega | (simp;done) | (simp;omega))
      have HK_X1 := Lib.hid (show Kp N wr X1 by rw [← hW];exact KpA)
      have HBJX1 := Lib.hid (show Below wd.heap.size wd X1 by rw [← hW];exact HBJ.out)
      replace k_P_0 : X1.cell? ⟨w.heap.size,0,none⟩ = some (.bool (decide ((q).num < 0))) := (HL_X1.out.cell (p := ⟨w.heap.size,0,none⟩) hl_P).trans k_P_0
      replace k_P_1 : X1.cell? ⟨w.heap.size,1,none⟩ = some (.slice rn (nlen (q).num.natAbs) cn) := (HL_X1.out.cell (p := ⟨w.heap.size,1,none⟩) hl_P).trans k_P_1
      replace k_P_2 : X1.cell? ⟨w.heap.size,2,none⟩ = some (.slice rn2 (nlen (q).den) cn2) := (HL_X1.out.cell (p := ⟨w.heap.size,2,none⟩) hl_P).trans k_P_2
      replace f_P : ∀ o,X1.frozen? ⟨w.heap.size,o,none⟩ = false := fun o => (HL_X1.out.frozen (p := ⟨w.heap.size,o,none⟩) hl_P).trans (f_P o)
      replace HX_P := Lib.hid (show Bn X1 (w.heap.size) by rw [← hW];exact KpA)
      replace HP1 := Lib.hid (HP1.out.keep HK_X1.out)
      replace HP2 := Lib.hid (HP2.out.keep HK_X1.out)
      replace HF := Lib.hid (HF.out.keep HK_X1.out)
      replace HT := Lib.hid (HT.out.keep HK_X1.out)
      replace HB := Lib.hid (show Below w.heap.size w X1 by rw [← hW];exact BlA)
      replace hN : N ≤ X1.heap.size := by rw [← hW];(first | omega | (simp;done) | (simp;omega))
      replace hs0 : w.heap.size ≤ X1.heap.size := by rw [← hW];(first | omega | (simp;done) | (simp;omega))
      replace hl_P : w.heap.size < X1.heap.size := by rw [← hW];(first | omega | (simp;done) | (simp;omega))
      replace HOL := Lib.hid (HOL.out.below HL_X1.out)
      clear HL_X1
      clear hW HK_X1
      refine (xChoose_any (N := N) _ _ n j rfl rfl _ hN (by omega)).mono ?_
      rintro e we ⟨rx,cx,rfl,hn,hb⟩
      have HBJwe := Lib.hid (HBJX1.out.trans (hb.mono (by omega)))
      have hs_we : X1.heap.size ≤ we.heap.size := hb.size
      replace k_P_0 : we.cell? ⟨w.heap.size,0,none⟩ = some (.bool (decide ((q).num < 0))) := (hb.cell (p := ⟨w.heap.size,0,none⟩) hl_P).trans k_P_0
      replace k_P_1 : we.cell? ⟨w.heap.size,1,none⟩ = some (.slice rn (nlen (q).num.natAbs) cn) := (hb.cell (p := ⟨w.heap.size,1,none⟩) hl_P).trans k_P_1
      replace k_P_2 : we.cell? ⟨w.heap.size,2,none⟩ = some (.slice rn2 (nlen (q).den) cn2) := (hb.cell (p := ⟨w.heap.size,2,none⟩) hl_P).trans k_P_2
      replace f_P : ∀ o,we.frozen? ⟨w.heap.size,o,none⟩ = false := fun o => (hb.frozen (p := ⟨w.heap.size,o,none⟩) hl_P).trans (f_P o)
      replace HX_P := Lib.hid (HX_P.out.below hb)
      replace HP1 := Lib.hid (HP1.out.below hb)
      replace HP2 := Lib.hid (HP2.out.below hb)
      replace HF := Lib.hid (HF.out.below hb)
      replace HT := Lib.hid (HT.out.below hb)
      replace HB := Lib.hid (HB.out.trans (hb.mono hs0))
      replace hN : N ≤ we.heap.size := Nat.le_trans hN hb.size
      replace hs0 : w.heap.size ≤ we.heap.size := Nat.le_trans hs0 hb.size
      replace hl_P : w.heap.size < we.heap.size := Nat.lt_of_lt_of_le hl_P hb.size
      replace HOL := Lib.hid (HOL.out.below hb)
      clear hb
      have HX := Lib.hid hn
      clear hn
      go_wp2_with fail
      refine (xpow_any (N := N) _ _ _ q.num.natAbs _ j L rfl _ hN HP1.out (by omega) (by omega) (by omega)).mono ?_
      rintro e wf ⟨ru,cu,rfl,hn,hb⟩
      have HBJwf := Lib.hid (HBJwe.out.trans (hb.mono (by omega)))
      have hs_wf : we.heap.size ≤ wf.heap.size := hb.size
      replace k_P_0 : wf.cell? ⟨w.heap.size,0,none⟩ = some (.bool (decide ((q).num < 0))) := (hb.cell (p := ⟨w.heap.size,0,none⟩) hl_P).trans k_P_0
      replace k_P_1 : wf.cell? ⟨w.heap.size,1,none⟩ = some (.slice rn (nlen (q).num.natAbs) cn) := (hb.cell (p := ⟨w.heap.size,1,none⟩) hl_P).trans k_P_1
      replace k_P_2 : wf.cell? ⟨w.heap.size,2,none⟩ = some (.slice rn2 (nlen (q).den) cn2) := (hb.cell (p := ⟨w.heap.size,2,none⟩) hl_P).trans k_P_2
      replace f_P : ∀ o,wf.frozen? ⟨w.heap.size,o,none⟩ = false := fun o => (hb.frozen (p := ⟨w.heap.size,o,none⟩) hl_P).trans (f_P o)
      replace HX_P := Lib.hid (HX_P.out.below hb)
      replace HP1 := Lib.hid (HP1.out.below hb)
      replace HP2 := Lib.hid (HP2.out.below hb)
      replace HF := Lib.hid (HF.out.below hb)
      replace HT := Lib.hid (HT.out.below hb)
      replace HX := Lib.hid (HX.out.below hb)
      replace HB := Lib.hid (HB.out.trans (hb.mono hs0))
      replace hN : N ≤ wf.heap.size := Nat.le_trans hN hb.size
      replace hs0 : w.heap.size ≤ wf.heap.size := Nat.le_trans hs0 hb.size
      replace hl_P : w.heap.size < wf.heap.size := Nat.lt_of_lt_of_le hl_P hb.size
      replace HOL := Lib.hid (HOL.out.below hb)
      clear hb
      have HU := Lib.hid hn
      clear hn
      go_wp2_with fail
      refine (xpow_any (N := N) _ _ _ (q.den - q.num.natAbs) _ (n - j) L (by omega) _ hN HF.out (by exact hl3) (by omega) (by omega)).mono ?_
      rintro e wg ⟨rv,cv,rfl,hn,hb⟩
      have HBJwg := Lib.hid (HBJwf.out.trans (hb.mono (by omega)))
      have hs_wg : wf.heap.size ≤ wg.heap.size := hb.size
      replace k_P_0 : wg.cell? ⟨w.heap.size,0,none⟩ = some (.bool (decide ((q).num < 0))) := (hb.cell (p := ⟨w.heap.size,0,none⟩) hl_P).trans k_P_0
      replace k_P_1 : wg.cell? ⟨w.heap.size,1,none⟩ = some (.slice rn (nlen (q).num.natAbs) cn) := (hb.cell (p := ⟨w.heap.size,1,none⟩) hl_P).trans k_P_1
      replace k_P_2 : wg.cell? ⟨w.heap.size,2,none⟩ = some (.slice rn2 (nlen (q).den) cn2) := (hb.cell (p := ⟨w.heap.size,2,none⟩) hl_P).trans k_P_2
      replace f_P : ∀ o,wg.frozen? ⟨w.heap.size,o,none⟩ = false := fun o => (hb.frozen (p := ⟨w.heap.size,o,none⟩) hl_P).trans (f_P o)
      replace HX_P := Lib.hid (HX_P.out.below hb)
      replace HP1 := Lib.hid (HP1.out.below hb)
      replace HP2 := Lib.hid (HP2.out.below hb)
      replace HF := Lib.hid (HF.out.below hb)
      replace HT := Lib.hid (HT.out.below hb)
      replace HX := Lib.hid (HX.out.below hb)
      replace HU := Lib.hid (HU.out.below hb)
      replace HB := Lib.hid (HB.out.trans (hb.mono hs0))
      replace hN : N ≤ wg.heap.size := Nat.le_trans hN hb.size
      replace hs0 : w.heap.size ≤ wg.heap.size := Nat.le_trans hs0 hb.size
      replace hl_P : w.heap.size < wg.heap.size := Nat.lt_of_lt_of_le hl_P hb.size
      replace HOL := Lib.hid (HOL.out.below hb)
      clear hb
      have HV := Lib.hid hn
      clear hn
      have lmv := nlen_mul (q.num.natAbs ^ j) ((q.den - q.num.natAbs) ^ (n - j))
      have lfj' : nlen ((q.den - q.num.natAbs) ^ (n - j)) ≤ L * (n - j) + 1 := lfj
      go_wp2_with fail
      refine (xmul_any (N := N) _ _ _ _ (q.num.natAbs ^ j) _ _ ((q.den - q.num.natAbs) ^ (n - j)) _ hN HU.out HV.out (by omega) (by omega)).mono ?_
      rintro e wh ⟨rz,cz,rfl,hn,hb⟩
      have HBJwh := Lib.hid (HBJwg.out.trans (hb.mono (by omega)))
      have hs_wh : wg.heap.size ≤ wh.heap.size := hb.size
      replace k_P_0 : wh.cell? ⟨w.heap.size,0,none⟩ = some (.bool (decide ((q).num < 0))) := (hb.cell (p := ⟨w.heap.size,0,none⟩) hl_P).trans k_P_0
      replace k_P_1 : wh.cell? ⟨w.heap.size,1,none⟩ = some (.slice rn (nlen (q).num.natAbs) cn) := (hb.cell (p := ⟨w.heap.size,1,none⟩) hl_P).trans k_P_1
      replace k_P_2 : wh.cell? ⟨w.heap.size,2,none⟩ = some (.slice rn2 (nlen (q).den) cn2) := (hb.cell (p := ⟨w.heap.size,2,none⟩) hl_P).trans k_P_2
      replace f_P : ∀ o,wh.frozen? ⟨w.heap.size,o,none⟩ = false := fun o => (hb.frozen (p := ⟨w.heap.size,o,none⟩) hl_P).trans (f_P o)
      replace HX_P := Lib.hid (HX_P.out.below hb)
      replace HP1 := Lib.hid (HP1.out.below hb)
      replace HP2 := Lib.hid (HP2.out.below hb)
      replace HF := Lib.hid (HF.out.below hb)
      replace HT := Lib.hid (HT.out.below hb)
      replace HX := Lib.hid (HX.out.below hb)
      replace HU := Lib.hid (HU.out.below hb)
      replace HV := Lib.hid (HV.out.below hb)
      replace HB := Lib.hid (HB.out.trans (hb.mono hs0))
      replace hN : N ≤ wh.heap.size := Nat.le_trans hN hb.size
      replace hs0 : w.heap.size ≤ wh.heap.size := Nat.le_trans hs0 hb.size
      replace hl_P : w.heap.size < wh.heap.size := Nat.lt_of_lt_of_le hl_P hb.size
      replace HOL := Lib.hid (HOL.out.below hb)
      clear hb
      have HZ := Lib.hid hn
      clear hn
      have lmz := nlen_mul (chs n j) (q.num.natAbs ^ j * (q.den - q.num.natAbs) ^ (n - j))
      go_wp2_with fail
      refine (xmul_any (N := N) _ _ _ _ (chs n j) _ _ (q.num.natAbs ^ j * (q.den - q.num.natAbs) ^ (n - j)) _ hN HX.out HZ.out (by omega) (by omega)).mono ?_
      rintro e wi ⟨ry,cy,rfl,hn,hb⟩
      have HBJwi := Lib.hid (HBJwh.out.trans (hb.mono (by omega)))
      have hs_wi : wh.heap.size ≤ wi.heap.size := hb.size
      replace k_P_0 : wi.cell? ⟨w.heap.size,0,none⟩ = some (.bool (decide ((q).num < 0))) := (hb.cell (p := ⟨w.heap.size,0,none⟩) hl_P).trans k_P_0
      replace k_P_1 : wi.cell? ⟨w.heap.size,1,none⟩ = some (.slice rn (nlen (q).num.natAbs) cn) := (hb.cell (p := ⟨w.heap.size,1,none⟩) hl_P).trans k_P_1
      replace k_P_2 : wi.cell? ⟨w.heap.size,2,none⟩ = some (.slice rn2 (nlen (q).den) cn2) := (hb.cell (p := ⟨w.heap.size,2,none⟩) hl_P).trans k_P_2
      replace f_P : ∀ o,wi.frozen? ⟨w.heap.size,o,none⟩ = false := fun o => (hb.frozen (p := ⟨w.heap.size,o,none⟩) hl_P).trans (f_P o)
      replace HX_P := Lib.hid (HX_P.out.below hb)
      replace HP1 := Lib.hid (HP1.out.below hb)
      replace HP2 := Lib.hid (HP2.out.below hb)
      replace HF := Lib.hid (HF.out.below hb)
      replace HT := Lib.hid (HT.out.below hb)
      replace HX := Lib.hid (HX.out.below hb)
      replace HU := Lib.hid (HU.out.below hb)
      replace HV := Lib.hid (HV.out.below hb)
      replace HZ := Lib.hid (HZ.out.below hb)
      replace HB := Lib.hid (HB.out.trans (hb.mono hs0))
      replace hN : N ≤ wi.heap.size := Nat.le_trans hN hb.size
      replace hs0 : w.heap.size ≤ wi.heap.size := Nat.le_trans hs0 hb.size
      replace hl_P : w.heap.size < wi.heap.size := Nat.lt_of_lt_of_le hl_P hb.size
      replace HOL := Lib.hid (HOL.out.below hb)
      clear hb
      have HY := Lib.hid hn
      clear hn
      go_wp2_with fail
      refine (xfraction_any (N := N) _ _ _ _ (chs n j * (q.num.natAbs ^ j * (q.den - q.num.natAbs) ^ (n - j))) _ _ (q.den ^ n) _ hN HY.out HT.out (by omega) (by omega) (p j) HQJ.out).mono ?_
      rintro e wj ⟨rp,cp,rp2,cp2,rfl,hn,hn',hb⟩
      have HBJwj := Lib.hid (HBJwi.out.trans (hb.mono (by omega)))
      have hs_wj : wi.heap.size ≤ wj.heap.size := hb.size
      replace k_P_0 : wj.cell? ⟨w.heap.size,0,none⟩ = some (.bool (decide ((q).num < 0))) := (hb.cell (p := ⟨w.heap.size,0,none⟩) hl_P).trans k_P_0
      replace k_P_1 : wj.cell? ⟨w.heap.size,1,none⟩ = some (.slice rn (nlen (q).num.natAbs) cn) := (hb.cell (p := ⟨w.heap.size,1,none⟩) hl_P).trans k_P_1
      replace k_P_2 : wj.cell? ⟨w.heap.size,2,none⟩ = some (.slice rn2 (nlen (q).den) cn2) := (hb.cell (p := ⟨w.heap.size,2,none⟩) hl_P).trans k_P_2
      replace f_P : ∀ o,wj.frozen? ⟨w.heap.size,o,none⟩ = false := fun o => (hb.frozen (p := ⟨w.heap.size,o,none⟩) hl_P).trans (f_P o)
      replace HX_P := Lib.hid (HX_P.out.below hb)
      replace HP1 := Lib.hid (HP1.out.below hb)
      replace HP2 := Lib.hid (HP2.out.below hb)
      replace HF := Lib.hid (HF.out.below hb)
      replace HT := Lib.hid (HT.out.below hb)
      replace HX := Lib.hid (HX.out.below hb)
      replace HU := Lib.hid (HU.out.below hb)
      replace HV := Lib.hid (HV.out.below hb)
      replace HZ := Lib.hid (HZ.out.below hb)
      replace HY := Lib.hid (HY.out.below hb)
      replace HB := Lib.hid (HB.out.trans (hb.mono hs0))
      replace hN : N ≤ wj.heap.size := Nat.le_trans hN hb.size
      replace hs0 : w.heap.size ≤ wj.heap.size := Nat.le_trans hs0 hb.size
      replace hl_P : w.heap.size < wj.heap.size := Nat.lt_of_lt_of_le hl_P hb.size
      replace HOL := Lib.hid (HOL.out.below hb)
      clear hb
      have HO1 := Lib.hid hn
      clear hn
      have HO2 := Lib.hid hn'
      clear hn'
      have hsj2 := HBJwj.out.size
      obtain ⟨xs,hown,hcl⟩ := HOL.out
      have HO := Lib.hid hown
      have HC := Lib.hid hcl
      clear hown hcl
      go_wp2_with (at_builtin;refine wpList_append_own_at _ rfl (.tmp 73) (.tmp 81) 38 rfl wd.heap.size 29 i0 (.agg #[.bool false,.slice none 0 0,.slice none 0 0]) 3 56 Tryz.underRats hi hz0 hz1 hz2 rfl (by decide) _ j xs rfl (HO.out.alloc _) ⟨wj.heap.size,0,none⟩ 1 1 [.bool (decide ((p j).num < 0)),.slice rp (nlen (p j).num.natAbs) cp,.slice rp2 (nlen (p j).den) cp2] rfl rfl (cell_three wj _ _ _ _) (by intro u hu;simp at hu;rcases hu with rfl | rfl | rfl <;> rfl) (by unfold maxLen;omega) (by omega) (by simp;omega) ?_;intro v1 w1 ho1 hg1 _ _;have KP1 := Lib.hid ((Kp.refl N wj).alloc (.cells #[.bool (decide ((p j).num < 0)),.slice rp (nlen (p j).num.natAbs) cp,.slice rp2 (nlen (p j).den) cp2] 29) |>.trans (own_kp (HO.out.alloc _) hNd hg1));have HB1 := Lib.hid (own_bel (HO.out.alloc _) (HBJwj.out.alloc hsj2 _) (by simp;omega) hg1);have HO1' := Lib.hid ho1;have HC1 := Lib.hid (Cl.push (HC.out.imp fun i v0 v1 v2 _ e => e.keep KP1.out) (show En N w1 p j _ _ _ from ⟨_,_,_,_,rfl,rfl,rfl,HO1.out.keep KP1.out,HO2.out.keep KP1.out⟩));clear ho1 hg1)
      go_roundw
      case rel => exact ⟨j + 1,by omega,by go_num,⟨_,HO1'.out,HC1.out⟩,HB1.out⟩
      case measure => simp [intOf];omega
    · obtain rfl : j = n + 1 := by omega
      have d6 : decide (((n + 1 : Nat) : Int) ≤ (n : Int)) = false := by simp;omega
      have d6' : decide (n + 1 ≤ n) = false := by simp
      have d6'' : decide ((n : Int) + 1 ≤ (n : Int)) = false := by simp;omega
      obtain ⟨xs,hown,hcl⟩ := HOL.out
      obtain ⟨ao,co,rfl,hrn⟩ := Cl.rn hown hcl
      clear hown hcl HOL
      have HRN := Lib.hid hrn
      clear hrn
      go_wp2_with fail
      go_ret2
      exact ⟨_,_,rfl,HRN.out,HB.out⟩
end Go.Proofs.YtnillajhhimeiaaGreatDoor
