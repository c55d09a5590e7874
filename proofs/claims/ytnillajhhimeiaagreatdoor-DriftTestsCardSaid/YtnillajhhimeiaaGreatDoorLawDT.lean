import Derived.Test.YtnillajhhimeiaaGreatDoorDrX
namespace Go.Proofs.YtnillajhhimeiaaGreatDoor
open Go.RowKit
set_option maxHeartbeats 8000000 in
set_option maxRecDepth 100000 in
theorem dtst_yy {N : Nat} (a b c d : Nat) (ha : a ≤ 30) (hb : b ≤ 30) (hc : c ≤ 30) (hd : d ≤ 30) (x y : Nat) (hx : x ≤ 60) (hy : y ≤ 60) (w : World) (hN : N ≤ w.heap.size) (htab : TabW w) :
    Calls Tryz.prog 3 #[.agg #[.int .i64 ((a : Nat) : Int),.int .i64 ((b : Nat) : Int),.int .i64 ((c : Nat) : Int),.int .i64 ((d : Nat) : Int)],.int .i64 ((x : Nat) : Int),.int .i64 ((y : Nat) : Int)] w fun e w' => e = .returned (.bool true) ∧ Below w.heap.size w w' := by
  have HV := Lib.hid (show vldT a b c d = true from vldT_iff.2 ⟨by omega,by omega,by omega,by omega⟩)
  obtain ⟨p,hp⟩ : ∃ p,fishQ a b c d = p := ⟨_,rfl⟩
  have HP := Lib.hid hp
  clear hp
  obtain ⟨p9,hp9⟩ : ∃ p,signQ (x + y) x = p := ⟨_,rfl⟩
  have HP9 := Lib.hid hp9
  clear hp9
  have HTw := Lib.hid htab
  clear htab
  have hN0 := hN
  have HB := Lib.hid (Below.refl w.heap.size w)
  go_enter Tryz.func3,Tryz.ntmps3
  go_wp2_with fail
  refine calls_name fun W0 hW => ?_
  have hs_W0 : w.heap.size ≤ W0.heap.size := by rw [← hW];(first | omega | (simp;done) | (simp;omega))
  have k_T_0 : W0.cell? ⟨w.heap.size,0,none⟩ = some (.int .i64 ((a : Nat) : Int)) := by rw [← hW];(first | (go_simp;done) | (simp;done) | (simp [go_sem];done) | (simp [go_sem];done))
  have k_T_1 : W0.cell? ⟨w.heap.size,1,none⟩ = some (.int .i64 ((b : Nat) : Int)) := by rw [← hW];(first | (go_simp;done) | (simp;done) | (simp [go_sem];done) | (simp [go_sem];done))
  have k_T_2 : W0.cell? ⟨w.heap.size,2,none⟩ = some (.int .i64 ((c : Nat) : Int)) := by rw [← hW];(first | (go_simp;done) | (simp;done) | (simp [go_sem];done) | (simp [go_sem];done))
  have k_T_3 : W0.cell? ⟨w.heap.size,3,none⟩ = some (.int .i64 ((d : Nat) : Int)) := by rw [← hW];(first | (go_simp;done) | (simp;done) | (simp [go_sem];done) | (simp [go_sem];done))
  have f_T : ∀ o,W0.frozen? ⟨w.heap.size,o,none⟩ = false := by intro o;rw [← hW];(first | (go_simp;done) | (simp;done) | (simp [go_sem];done) | (simp [go_sem];done))
  have HX_T := Lib.hid (show Bn W0 (w.heap.size) by rw [← hW];exact KpA)
  replace HB := Lib.hid (show Below w.heap.size w W0 by rw [← hW];exact BlA)
  replace hN : N ≤ W0.heap.size := by rw [← hW];(first | omega | (simp;done) | (simp;omega))
  have hs0 : w.heap.size ≤ W0.heap.size := by rw [← hW];(first | omega | (simp;done) | (simp;omega))
  have hl_T : w.heap.size < W0.heap.size := by rw [← hW];(first | omega | (simp;done) | (simp;omega))
  clear hW
  refine (fisher_ok (N := N) a b c d _ hN ha hb hc hd p HP.out).mono ?_
  rintro e wa ⟨rp,cp,rp2,cp2,rfl,hn,hn',hb⟩
  have hs_wa : W0.heap.size ≤ wa.heap.size := hb.size
  replace k_T_0 : wa.cell? ⟨w.heap.size,0,none⟩ = some (.int .i64 ((a : Nat) : Int)) := (hb.cell (p := ⟨w.heap.size,0,none⟩) hl_T).trans k_T_0
  replace k_T_1 : wa.cell? ⟨w.heap.size,1,none⟩ = some (.int .i64 ((b : Nat) : Int)) := (hb.cell (p := ⟨w.heap.size,1,none⟩) hl_T).trans k_T_1
  replace k_T_2 : wa.cell? ⟨w.heap.size,2,none⟩ = some (.int .i64 ((c : Nat) : Int)) := (hb.cell (p := ⟨w.heap.size,2,none⟩) hl_T).trans k_T_2
  replace k_T_3 : wa.cell? ⟨w.heap.size,3,none⟩ = some (.int .i64 ((d : Nat) : Int)) := (hb.cell (p := ⟨w.heap.size,3,none⟩) hl_T).trans k_T_3
  replace f_T : ∀ o,wa.frozen? ⟨w.heap.size,o,none⟩ = false := fun o => (hb.frozen (p := ⟨w.heap.size,o,none⟩) hl_T).trans (f_T o)
  replace HX_T := Lib.hid (HX_T.out.below hb)
  replace HB := Lib.hid (HB.out.trans (hb.mono hs0))
  replace hN : N ≤ wa.heap.size := Nat.le_trans hN hb.size
  replace hs0 : w.heap.size ≤ wa.heap.size := Nat.le_trans hs0 hb.size
  replace hl_T : w.heap.size < wa.heap.size := Nat.lt_of_lt_of_le hl_T hb.size
  clear hb
  have HP1 := Lib.hid hn
  clear hn
  have HP2 := Lib.hid hn'
  clear hn'
  go_wp2_with fail
  refine calls_name fun W1 hW => ?_
  have HL_W1 := Lib.hid (show Below wa.heap.size wa W1 by rw [← hW];exact BlA)
  have hs_W1 : wa.heap.size ≤ W1.heap.size := by rw [← hW];(first | omega | (simp;done) | (simp;omega))
  have hd_T_P : w.heap.size < wa.heap.size := by omega
  have HK_W1 := Lib.hid (show Kp N wa W1 by rw [← hW];exact KpA)
  replace k_T_0 : W1.cell? ⟨w.heap.size,0,none⟩ = some (.int .i64 ((a : Nat) : Int)) := (HL_W1.out.cell (p := ⟨w.heap.size,0,none⟩) hl_T).trans k_T_0
  replace k_T_1 : W1.cell? ⟨w.heap.size,1,none⟩ = some (.int .i64 ((b : Nat) : Int)) := (HL_W1.out.cell (p := ⟨w.heap.size,1,none⟩) hl_T).trans k_T_1
  replace k_T_2 : W1.cell? ⟨w.heap.size,2,none⟩ = some (.int .i64 ((c : Nat) : Int)) := (HL_W1.out.cell (p := ⟨w.heap.size,2,none⟩) hl_T).trans k_T_2
  replace k_T_3 : W1.cell? ⟨w.heap.size,3,none⟩ = some (.int .i64 ((d : Nat) : Int)) := (HL_W1.out.cell (p := ⟨w.heap.size,3,none⟩) hl_T).trans k_T_3
  replace f_T : ∀ o,W1.frozen? ⟨w.heap.size,o,none⟩ = false := fun o => (HL_W1.out.frozen (p := ⟨w.heap.size,o,none⟩) hl_T).trans (f_T o)
  replace HX_T := Lib.hid (show Bn W1 (w.heap.size) by rw [← hW];exact KpA)
  have k_P_0 : W1.cell? ⟨wa.heap.size,0,none⟩ = some (.bool (decide ((p).num < 0))) := by rw [← hW];(first | (go_simp;done) | (simp;done) | (simp [go_sem];done) | (simp [go_sem,k_T_0,k_T_1,k_T_2,k_T_3,f_T,hl_T];done))
  have k_P_1 : W1.cell? ⟨wa.heap.size,1,none⟩ = some (.slice rp (nlen (p).num.natAbs) cp) := by rw [← hW];(first | (go_simp;done) | (simp;done) | (simp [go_sem];done) | (simp [go_sem,k_T_0,k_T_1,k_T_2,k_T_3,f_T,hl_T];done))
  have k_P_2 : W1.cell? ⟨wa.heap.size,2,none⟩ = some (.slice rp2 (nlen (p).den) cp2) := by rw [← hW];(first | (go_simp;done) | (simp;done) | (simp [go_sem];done) | (simp [go_sem,k_T_0,k_T_1,k_T_2,k_T_3,f_T,hl_T];done))
  have f_P : ∀ o,W1.frozen? ⟨wa.heap.size,o,none⟩ = false := by intro o;rw [← hW];(first | (go_simp;done) | (simp;done) | (simp [go_sem];done) | (simp [go_sem,k_T_0,k_T_1,k_T_2,k_T_3,f_T,hl_T];done))
  have HX_P := Lib.hid (show Bn W1 (wa.heap.size) by rw [← hW];exact KpA)
  replace HP1 := Lib.hid (HP1.out.keep HK_W1.out)
  replace HP2 := Lib.hid (HP2.out.keep HK_W1.out)
  replace HB := Lib.hid (show Below w.heap.size w W1 by rw [← hW];exact BlA)
  replace hN : N ≤ W1.heap.size := by rw [← hW];(first | omega | (simp;done) | (simp;omega))
  replace hs0 : w.heap.size ≤ W1.heap.size := by rw [← hW];(first | omega | (simp;done) | (simp;omega))
  replace hl_T : w.heap.size < W1.heap.size := by rw [← hW];(first | omega | (simp;done) | (simp;omega))
  have hl_P : wa.heap.size < W1.heap.size := by rw [← hW];(first | omega | (simp;done) | (simp;omega))
  clear HL_W1
  clear hW HK_W1
  refine (xfisher_ok (N := N) a b c d _ hN ha hb hc hd p HP.out).mono ?_
  rintro e wb ⟨rq,cq,rq2,cq2,rfl,hn,hn',hb⟩
  have hs_wb : W1.heap.size ≤ wb.heap.size := hb.size
  replace k_T_0 : wb.cell? ⟨w.heap.size,0,none⟩ = some (.int .i64 ((a : Nat) : Int)) := (hb.cell (p := ⟨w.heap.size,0,none⟩) hl_T).trans k_T_0
  replace k_T_1 : wb.cell? ⟨w.heap.size,1,none⟩ = some (.int .i64 ((b : Nat) : Int)) := (hb.cell (p := ⟨w.heap.size,1,none⟩) hl_T).trans k_T_1
  replace k_T_2 : wb.cell? ⟨w.heap.size,2,none⟩ = some (.int .i64 ((c : Nat) : Int)) := (hb.cell (p := ⟨w.heap.size,2,none⟩) hl_T).trans k_T_2
  replace k_T_3 : wb.cell? ⟨w.heap.size,3,none⟩ = some (.int .i64 ((d : Nat) : Int)) := (hb.cell (p := ⟨w.heap.size,3,none⟩) hl_T).trans k_T_3
  replace f_T : ∀ o,wb.frozen? ⟨w.heap.size,o,none⟩ = false := fun o => (hb.frozen (p := ⟨w.heap.size,o,none⟩) hl_T).trans (f_T o)
  replace HX_T := Lib.hid (HX_T.out.below hb)
  replace k_P_0 : wb.cell? ⟨wa.heap.size,0,none⟩ = some (.bool (decide ((p).num < 0))) := (hb.cell (p := ⟨wa.heap.size,0,none⟩) hl_P).trans k_P_0
  replace k_P_1 : wb.cell? ⟨wa.heap.size,1,none⟩ = some (.slice rp (nlen (p).num.natAbs) cp) := (hb.cell (p := ⟨wa.heap.size,1,none⟩) hl_P).trans k_P_1
  replace k_P_2 : wb.cell? ⟨wa.heap.size,2,none⟩ = some (.slice rp2 (nlen (p).den) cp2) := (hb.cell (p := ⟨wa.heap.size,2,none⟩) hl_P).trans k_P_2
  replace f_P : ∀ o,wb.frozen? ⟨wa.heap.size,o,none⟩ = false := fun o => (hb.frozen (p := ⟨wa.heap.size,o,none⟩) hl_P).trans (f_P o)
  replace HX_P := Lib.hid (HX_P.out.below hb)
  replace HP1 := Lib.hid (HP1.out.below hb)
  replace HP2 := Lib.hid (HP2.out.below hb)
  replace HB := Lib.hid (HB.out.trans (hb.mono hs0))
  replace hN : N ≤ wb.heap.size := Nat.le_trans hN hb.size
  replace hs0 : w.heap.size ≤ wb.heap.size := Nat.le_trans hs0 hb.size
  replace hl_T : w.heap.size < wb.heap.size := Nat.lt_of_lt_of_le hl_T hb.size
  replace hl_P : wa.heap.size < wb.heap.size := Nat.lt_of_lt_of_le hl_P hb.size
  clear hb
  have HQ1 := Lib.hid hn
  clear hn
  have HQ2 := Lib.hid hn'
  clear hn'
  go_wp2_with fail
  refine region_name fun W2 hW => ?_
  have HL_W2 := Lib.hid (show Below wb.heap.size wb W2 by rw [← hW];exact BlA)
  have hs_W2 : wb.heap.size ≤ W2.heap.size := by rw [← hW];(first | omega | (simp;done) | (simp;omega))
  have hd_T_Q : w.heap.size < wb.heap.size := by omega
  have hd_P_Q : wa.heap.size < wb.heap.size := by omega
  have HK_W2 := Lib.hid (show Kp N wb W2 by rw [← hW];exact KpA)
  replace k_T_0 : W2.cell? ⟨w.heap.size,0,none⟩ = some (.int .i64 ((a : Nat) : Int)) := (HL_W2.out.cell (p := ⟨w.heap.size,0,none⟩) hl_T).trans k_T_0
  replace k_T_1 : W2.cell? ⟨w.heap.size,1,none⟩ = some (.int .i64 ((b : Nat) : Int)) := (HL_W2.out.cell (p := ⟨w.heap.size,1,none⟩) hl_T).trans k_T_1
  replace k_T_2 : W2.cell? ⟨w.heap.size,2,none⟩ = some (.int .i64 ((c : Nat) : Int)) := (HL_W2.out.cell (p := ⟨w.heap.size,2,none⟩) hl_T).trans k_T_2
  replace k_T_3 : W2.cell? ⟨w.heap.size,3,none⟩ = some (.int .i64 ((d : Nat) : Int)) := (HL_W2.out.cell (p := ⟨w.heap.size,3,none⟩) hl_T).trans k_T_3
  replace f_T : ∀ o,W2.frozen? ⟨w.heap.size,o,none⟩ = false := fun o => (HL_W2.out.frozen (p := ⟨w.heap.size,o,none⟩) hl_T).trans (f_T o)
  replace HX_T := Lib.hid (show Bn W2 (w.heap.size) by rw [← hW];exact KpA)
  replace k_P_0 : W2.cell? ⟨wa.heap.size,0,none⟩ = some (.bool (decide ((p).num < 0))) := (HL_W2.out.cell (p := ⟨wa.heap.size,0,none⟩) hl_P).trans k_P_0
  replace k_P_1 : W2.cell? ⟨wa.heap.size,1,none⟩ = some (.slice rp (nlen (p).num.natAbs) cp) := (HL_W2.out.cell (p := ⟨wa.heap.size,1,none⟩) hl_P).trans k_P_1
  replace k_P_2 : W2.cell? ⟨wa.heap.size,2,none⟩ = some (.slice rp2 (nlen (p).den) cp2) := (HL_W2.out.cell (p := ⟨wa.heap.size,2,none⟩) hl_P).trans k_P_2
  replace f_P : ∀ o,W2.frozen? ⟨wa.heap.size,o,none⟩ = false := fun o => (HL_W2.out.frozen (p := ⟨wa.heap.size,o,none⟩) hl_P).trans (f_P o)
  replace HX_P := Lib.hid (show Bn W2 (wa.heap.size) by rw [← hW];exact KpA)
  have k_Q_0 : W2.cell? ⟨wb.heap.size,0,none⟩ = some (.bool (decide ((p).num < 0))) := by rw [← hW];(first | (go_simp;done) | (simp;done) | (simp [go_sem];done) | (simp [go_sem,k_T_0,k_T_1,k_T_2,k_T_3,k_P_0,k_P_1,k_P_2,f_T,f_P,hl_T,hl_P];done))
  have k_Q_1 : W2.cell? ⟨wb.heap.size,1,none⟩ = some (.slice rq (nlen (p).num.natAbs) cq) := by rw [← hW];(first | (go_simp;done) | (simp;done) | (simp [go_sem];done) | (simp [go_sem,k_T_0,k_T_1,k_T_2,k_T_3,k_P_0,k_P_1,k_P_2,f_T,f_P,hl_T,hl_P];done))
  have k_Q_2 : W2.cell? ⟨wb.heap.size,2,none⟩ = some (.slice rq2 (nlen (p).den) cq2) := by rw [← hW];(first | (go_simp;done) | (simp;done) | (simp [go_sem];done) | (simp [go_sem,k_T_0,k_T_1,k_T_2,k_T_3,k_P_0,k_P_1,k_P_2,f_T,f_P,hl_T,hl_P];done))
  have f_Q : ∀ o,W2.frozen? ⟨wb.heap.size,o,none⟩ = false := by intro o;rw [← hW];(first | (go_simp;done) | (simp;done) | (simp [go_sem];done) | (simp [go_sem,k_T_0,k_T_1,k_T_2,k_T_3,k_P_0,k_P_1,k_P_2,f_T,f_P,hl_T,hl_P];done))
  have HX_Q := Lib.hid (show Bn W2 (wb.heap.size) by rw [← hW];exact KpA)
  replace HP1 := Lib.hid (HP1.out.keep HK_W2.out)
  replace HP2 := Lib.hid (HP2.out.keep HK_W2.out)
  replace HQ1 := Lib.hid (HQ1.out.keep HK_W2.out)
  replace HQ2 := Lib.hid (HQ2.out.keep HK_W2.out)
  replace HB := Lib.hid (show Below w.heap.size w W2 by rw [← hW];exact BlA)
  replace hN : N ≤ W2.heap.size := by rw [← hW];(first | omega | (simp;done) | (simp;omega))
  replace hs0 : w.heap.size ≤ W2.heap.size := by rw [← hW];(first | omega | (simp;done) | (simp;omega))
  replace hl_T : w.heap.size < W2.heap.size := by rw [← hW];(first | omega | (simp;done) | (simp;omega))
  replace hl_P : wa.heap.size < W2.heap.size := by rw [← hW];(first | omega | (simp;done) | (simp;omega))
  have hl_Q : wb.heap.size < W2.heap.size := by rw [← hW];(first | omega | (simp;done) | (simp;omega))
  clear HL_W2
  clear hW HK_W2
  go_region_held3 (fun w' => w'.cell? ⟨w.heap.size,0,none⟩ = some (.int .i64 ((a : Nat) : Int)) ∧ w'.cell? ⟨w.heap.size,1,none⟩ = some (.int .i64 ((b : Nat) : Int)) ∧ w'.cell? ⟨w.heap.size,2,none⟩ = some (.int .i64 ((c : Nat) : Int)) ∧ w'.cell? ⟨w.heap.size,3,none⟩ = some (.int .i64 ((d : Nat) : Int)) ∧ w'.cell? ⟨wa.heap.size,0,none⟩ = some (.bool (decide ((p).num < 0))) ∧ w'.cell? ⟨wa.heap.size,1,none⟩ = some (.slice rp (nlen (p).num.natAbs) cp) ∧ w'.cell? ⟨wa.heap.size,2,none⟩ = some (.slice rp2 (nlen (p).den) cp2) ∧ w'.cell? ⟨wb.heap.size,0,none⟩ = some (.bool (decide ((p).num < 0))) ∧ w'.cell? ⟨wb.heap.size,1,none⟩ = some (.slice rq (nlen (p).num.natAbs) cq) ∧ w'.cell? ⟨wb.heap.size,2,none⟩ = some (.slice rq2 (nlen (p).den) cq2))
    (first | (go_keep;done) | ((try dsimp only);(repeat' apply And.intro) <;> (first | (go_keep;done) | (exact cell_keep_alloc_drew (by first | omega | (simp;omega)) (by first | assumption | go_simp)) | (exact cell_keep_alloc (by first | omega | (simp;omega)) (by first | assumption | go_simp)) | (rw [cell_set2 _ _ _ _ _ _ _ _ (by omega)];assumption) | (rw [cell_set3 _ _ _ _ _ _ _ _ _ _ (by omega)];assumption))))
    (first
      | (go_at_call 8;refine (dvalid_any _ _ _ _ _ true HV.out).mono ?_;rintro e wc ⟨rfl,hb⟩;replace hb : Below W2.heap.size W2 wc := (by first | exact hb | exact bel_of_drew hb);have hs_wc : W2.heap.size ≤ wc.heap.size := hb.size;replace k_T_0 : wc.cell? ⟨w.heap.size,0,none⟩ = some (.int .i64 ((a : Nat) : Int)) := (hb.cell (p := ⟨w.heap.size,0,none⟩) hl_T).trans k_T_0;replace k_T_1 : wc.cell? ⟨w.heap.size,1,none⟩ = some (.int .i64 ((b : Nat) : Int)) := (hb.cell (p := ⟨w.heap.size,1,none⟩) hl_T).trans k_T_1;replace k_T_2 : wc.cell? ⟨w.heap.size,2,none⟩ = some (.int .i64 ((c : Nat) : Int)) := (hb.cell (p := ⟨w.heap.size,2,none⟩) hl_T).trans k_T_2;replace k_T_3 : wc.cell? ⟨w.heap.size,3,none⟩ = some (.int .i64 ((d : Nat) : Int)) := (hb.cell (p := ⟨w.heap.size,3,none⟩) hl_T).trans k_T_3;replace f_T : ∀ o,wc.frozen? ⟨w.heap.size,o,none⟩ = false := fun o => (hb.frozen (p := ⟨w.heap.size,o,none⟩) hl_T).trans (f_T o);replace HX_T := Lib.hid (HX_T.out.below hb);replace k_P_0 : wc.cell? ⟨wa.heap.size,0,none⟩ = some (.bool (decide ((p).num < 0))) := (hb.cell (p := ⟨wa.heap.size,0,none⟩) hl_P).trans k_P_0;replace k_P_1 : wc.cell? ⟨wa.heap.size,1,none⟩ = some (.slice rp (nlen (p).num.natAbs) cp) := (hb.cell (p := ⟨wa.heap.size,1,none⟩) hl_P).trans k_P_1;replace k_P_2 : wc.cell? ⟨wa.heap.size,2,none⟩ = some (.slice rp2 (nlen (p).den) cp2) := (hb.cell (p := ⟨wa.heap.size,2,none⟩) hl_P).trans k_P_2;replace f_P : ∀ o,wc.frozen? ⟨wa.heap.size,o,none⟩ = false := fun o => (hb.frozen (p := ⟨wa.heap.size,o,none⟩) hl_P).trans (f_P o);replace HX_P := Lib.hid (HX_P.out.below hb);replace k_Q_0 : wc.cell? ⟨wb.heap.size,0,none⟩ = some (.bool (decide ((p).num < 0))) := (hb.cell (p := ⟨wb.heap.size,0,none⟩) hl_Q).trans k_Q_0;replace k_Q_1 : wc.cell? ⟨wb.heap.size,1,none⟩ = some (.slice rq (nlen (p).num.natAbs) cq) := (hb.cell (p := ⟨wb.heap.size,1,none⟩) hl_Q).trans k_Q_1;replace k_Q_2 : wc.cell? ⟨wb.heap.size,2,none⟩ = some (.slice rq2 (nlen (p).den) cq2) := (hb.cell (p := ⟨wb.heap.size,2,none⟩) hl_Q).trans k_Q_2;replace f_Q : ∀ o,wc.frozen? ⟨wb.heap.size,o,none⟩ = false := fun o => (hb.frozen (p := ⟨wb.heap.size,o,none⟩) hl_Q).trans (f_Q o);replace HX_Q := Lib.hid (HX_Q.out.below hb);replace HP1 := Lib.hid (HP1.out.below hb);replace HP2 := Lib.hid (HP2.out.below hb);replace HQ1 := Lib.hid (HQ1.out.below hb);replace HQ2 := Lib.hid (HQ2.out.below hb);replace HB := Lib.hid (HB.out.trans (hb.mono hs0));replace hN : N ≤ wc.heap.size := Nat.le_trans hN hb.size;replace hs0 : w.heap.size ≤ wc.heap.size := Nat.le_trans hs0 hb.size;replace hl_T : w.heap.size < wc.heap.size := Nat.lt_of_lt_of_le hl_T hb.size;replace hl_P : wa.heap.size < wc.heap.size := Nat.lt_of_lt_of_le hl_P hb.size;replace hl_Q : wb.heap.size < wc.heap.size := Nat.lt_of_lt_of_le hl_Q hb.size;clear hb;skip)
      | (go_at_call 9;refine (xtvalid_any _ _ _ _ _ true HV.out).mono ?_;rintro e wd ⟨rfl,hb⟩;replace hb : Below wc.heap.size wc wd := (by first | exact hb | exact bel_of_drew hb);have hs_wd : wc.heap.size ≤ wd.heap.size := hb.size;replace k_T_0 : wd.cell? ⟨w.heap.size,0,none⟩ = some (.int .i64 ((a : Nat) : Int)) := (hb.cell (p := ⟨w.heap.size,0,none⟩) hl_T).trans k_T_0;replace k_T_1 : wd.cell? ⟨w.heap.size,1,none⟩ = some (.int .i64 ((b : Nat) : Int)) := (hb.cell (p := ⟨w.heap.size,1,none⟩) hl_T).trans k_T_1;replace k_T_2 : wd.cell? ⟨w.heap.size,2,none⟩ = some (.int .i64 ((c : Nat) : Int)) := (hb.cell (p := ⟨w.heap.size,2,none⟩) hl_T).trans k_T_2;replace k_T_3 : wd.cell? ⟨w.heap.size,3,none⟩ = some (.int .i64 ((d : Nat) : Int)) := (hb.cell (p := ⟨w.heap.size,3,none⟩) hl_T).trans k_T_3;replace f_T : ∀ o,wd.frozen? ⟨w.heap.size,o,none⟩ = false := fun o => (hb.frozen (p := ⟨w.heap.size,o,none⟩) hl_T).trans (f_T o);replace HX_T := Lib.hid (HX_T.out.below hb);replace k_P_0 : wd.cell? ⟨wa.heap.size,0,none⟩ = some (.bool (decide ((p).num < 0))) := (hb.cell (p := ⟨wa.heap.size,0,none⟩) hl_P).trans k_P_0;replace k_P_1 : wd.cell? ⟨wa.heap.size,1,none⟩ = some (.slice rp (nlen (p).num.natAbs) cp) := (hb.cell (p := ⟨wa.heap.size,1,none⟩) hl_P).trans k_P_1;replace k_P_2 : wd.cell? ⟨wa.heap.size,2,none⟩ = some (.slice rp2 (nlen (p).den) cp2) := (hb.cell (p := ⟨wa.heap.size,2,none⟩) hl_P).trans k_P_2;replace f_P : ∀ o,wd.frozen? ⟨wa.heap.size,o,none⟩ = false := fun o => (hb.frozen (p := ⟨wa.heap.size,o,none⟩) hl_P).trans (f_P o);replace HX_P := Lib.hid (HX_P.out.below hb);replace k_Q_0 : wd.cell? ⟨wb.heap.size,0,none⟩ = some (.bool (decide ((p).num < 0))) := (hb.cell (p := ⟨wb.heap.size,0,none⟩) hl_Q).trans k_Q_0;replace k_Q_1 : wd.cell? ⟨wb.heap.size,1,none⟩ = some (.slice rq (nlen (p).num.natAbs) cq) := (hb.cell (p := ⟨wb.heap.size,1,none⟩) hl_Q).trans k_Q_1;replace k_Q_2 : wd.cell? ⟨wb.heap.size,2,none⟩ = some (.slice rq2 (nlen (p).den) cq2) := (hb.cell (p := ⟨wb.heap.size,2,none⟩) hl_Q).trans k_Q_2;replace f_Q : ∀ o,wd.frozen? ⟨wb.heap.size,o,none⟩ = false := fun o => (hb.frozen (p := ⟨wb.heap.size,o,none⟩) hl_Q).trans (f_Q o);replace HX_Q := Lib.hid (HX_Q.out.below hb);replace HP1 := Lib.hid (HP1.out.below hb);replace HP2 := Lib.hid (HP2.out.below hb);replace HQ1 := Lib.hid (HQ1.out.below hb);replace HQ2 := Lib.hid (HQ2.out.below hb);replace HB := Lib.hid (HB.out.trans (hb.mono hs0));replace hN : N ≤ wd.heap.size := Nat.le_trans hN hb.size;replace hs0 : w.heap.size ≤ wd.heap.size := Nat.le_trans hs0 hb.size;replace hl_T : w.heap.size < wd.heap.size := Nat.lt_of_lt_of_le hl_T hb.size;replace hl_P : wa.heap.size < wd.heap.size := Nat.lt_of_lt_of_le hl_P hb.size;replace hl_Q : wb.heap.size < wd.heap.size := Nat.lt_of_lt_of_le hl_Q hb.size;clear hb;skip)
      | (go_at_call 10;refine (SameRatio_any (N := N) _ _ _ _ _ _ _ _ _ _ _ _ _ _ (by exact hN) (by exact HP1.out) (by exact HQ1.out) (by exact HP2.out) (by exact HQ2.out)).mono ?_;rintro e we ⟨rfl,hb⟩;replace hb : Below wd.heap.size wd we := (by first | exact hb | exact bel_of_drew hb);have hs_we : wd.heap.size ≤ we.heap.size := hb.size;replace k_T_0 : we.cell? ⟨w.heap.size,0,none⟩ = some (.int .i64 ((a : Nat) : Int)) := (hb.cell (p := ⟨w.heap.size,0,none⟩) hl_T).trans k_T_0;replace k_T_1 : we.cell? ⟨w.heap.size,1,none⟩ = some (.int .i64 ((b : Nat) : Int)) := (hb.cell (p := ⟨w.heap.size,1,none⟩) hl_T).trans k_T_1;replace k_T_2 : we.cell? ⟨w.heap.size,2,none⟩ = some (.int .i64 ((c : Nat) : Int)) := (hb.cell (p := ⟨w.heap.size,2,none⟩) hl_T).trans k_T_2;replace k_T_3 : we.cell? ⟨w.heap.size,3,none⟩ = some (.int .i64 ((d : Nat) : Int)) := (hb.cell (p := ⟨w.heap.size,3,none⟩) hl_T).trans k_T_3;replace f_T : ∀ o,we.frozen? ⟨w.heap.size,o,none⟩ = false := fun o => (hb.frozen (p := ⟨w.heap.size,o,none⟩) hl_T).trans (f_T o);replace HX_T := Lib.hid (HX_T.out.below hb);replace k_P_0 : we.cell? ⟨wa.heap.size,0,none⟩ = some (.bool (decide ((p).num < 0))) := (hb.cell (p := ⟨wa.heap.size,0,none⟩) hl_P).trans k_P_0;replace k_P_1 : we.cell? ⟨wa.heap.size,1,none⟩ = some (.slice rp (nlen (p).num.natAbs) cp) := (hb.cell (p := ⟨wa.heap.size,1,none⟩) hl_P).trans k_P_1;replace k_P_2 : we.cell? ⟨wa.heap.size,2,none⟩ = some (.slice rp2 (nlen (p).den) cp2) := (hb.cell (p := ⟨wa.heap.size,2,none⟩) hl_P).trans k_P_2;replace f_P : ∀ o,we.frozen? ⟨wa.heap.size,o,none⟩ = false := fun o => (hb.frozen (p := ⟨wa.heap.size,o,none⟩) hl_P).trans (f_P o);replace HX_P := Lib.hid (HX_P.out.below hb);replace k_Q_0 : we.cell? ⟨wb.heap.size,0,none⟩ = some (.bool (decide ((p).num < 0))) := (hb.cell (p := ⟨wb.heap.size,0,none⟩) hl_Q).trans k_Q_0;replace k_Q_1 : we.cell? ⟨wb.heap.size,1,none⟩ = some (.slice rq (nlen (p).num.natAbs) cq) := (hb.cell (p := ⟨wb.heap.size,1,none⟩) hl_Q).trans k_Q_1;replace k_Q_2 : we.cell? ⟨wb.heap.size,2,none⟩ = some (.slice rq2 (nlen (p).den) cq2) := (hb.cell (p := ⟨wb.heap.size,2,none⟩) hl_Q).trans k_Q_2;replace f_Q : ∀ o,we.frozen? ⟨wb.heap.size,o,none⟩ = false := fun o => (hb.frozen (p := ⟨wb.heap.size,o,none⟩) hl_Q).trans (f_Q o);replace HX_Q := Lib.hid (HX_Q.out.below hb);replace HP1 := Lib.hid (HP1.out.below hb);replace HP2 := Lib.hid (HP2.out.below hb);replace HQ1 := Lib.hid (HQ1.out.below hb);replace HQ2 := Lib.hid (HQ2.out.below hb);replace HB := Lib.hid (HB.out.trans (hb.mono hs0));replace hN : N ≤ we.heap.size := Nat.le_trans hN hb.size;replace hs0 : w.heap.size ≤ we.heap.size := Nat.le_trans hs0 hb.size;replace hl_T : w.heap.size < we.heap.size := Nat.lt_of_lt_of_le hl_T hb.size;replace hl_P : wa.heap.size < we.heap.size := Nat.lt_of_lt_of_le hl_P hb.size;replace hl_Q : wb.heap.size < we.heap.size := Nat.lt_of_lt_of_le hl_Q hb.size;clear hb;skip))
  go_wp2_with fail
  clear hl_T f_T HX_T k_T_0 k_T_1 k_T_2 k_T_3
  clear HP1
  clear HP2
  clear HQ1
  clear HQ2
  refine calls_name fun W3 hW => ?_
  have HL_W3 := Lib.hid (show Below we.heap.size we W3 by rw [← hW];exact BlA)
  have hs_W3 : we.heap.size ≤ W3.heap.size := by rw [← hW];(first | omega | (simp;done) | (simp;omega))
  replace k_P_0 : W3.cell? ⟨wa.heap.size,0,none⟩ = some (.bool (decide ((p).num < 0))) := (HL_W3.out.cell (p := ⟨wa.heap.size,0,none⟩) hl_P).trans k_P_0
  replace k_P_1 : W3.cell? ⟨wa.heap.size,1,none⟩ = some (.slice rp (nlen (p).num.natAbs) cp) := (HL_W3.out.cell (p := ⟨wa.heap.size,1,none⟩) hl_P).trans k_P_1
  replace k_P_2 : W3.cell? ⟨wa.heap.size,2,none⟩ = some (.slice rp2 (nlen (p).den) cp2) := (HL_W3.out.cell (p := ⟨wa.heap.size,2,none⟩) hl_P).trans k_P_2
  replace f_P : ∀ o,W3.frozen? ⟨wa.heap.size,o,none⟩ = false := fun o => (HL_W3.out.frozen (p := ⟨wa.heap.size,o,none⟩) hl_P).trans (f_P o)
  replace HX_P := Lib.hid (show Bn W3 (wa.heap.size) by rw [← hW];exact KpA)
  replace k_Q_0 : W3.cell? ⟨wb.heap.size,0,none⟩ = some (.bool (decide ((p).num < 0))) := (HL_W3.out.cell (p := ⟨wb.heap.size,0,none⟩) hl_Q).trans k_Q_0
  replace k_Q_1 : W3.cell? ⟨wb.heap.size,1,none⟩ = some (.slice rq (nlen (p).num.natAbs) cq) := (HL_W3.out.cell (p := ⟨wb.heap.size,1,none⟩) hl_Q).trans k_Q_1
  replace k_Q_2 : W3.cell? ⟨wb.heap.size,2,none⟩ = some (.slice rq2 (nlen (p).den) cq2) := (HL_W3.out.cell (p := ⟨wb.heap.size,2,none⟩) hl_Q).trans k_Q_2
  replace f_Q : ∀ o,W3.frozen? ⟨wb.heap.size,o,none⟩ = false := fun o => (HL_W3.out.frozen (p := ⟨wb.heap.size,o,none⟩) hl_Q).trans (f_Q o)
  replace HX_Q := Lib.hid (show Bn W3 (wb.heap.size) by rw [← hW];exact KpA)
  replace HB := Lib.hid (show Below w.heap.size w W3 by rw [← hW];exact BlA)
  replace hN : N ≤ W3.heap.size := by rw [← hW];(first | omega | (simp;done) | (simp;omega))
  replace hs0 : w.heap.size ≤ W3.heap.size := by rw [← hW];(first | omega | (simp;done) | (simp;omega))
  replace hl_P : wa.heap.size < W3.heap.size := by rw [← hW];(first | omega | (simp;done) | (simp;omega))
  replace hl_Q : wb.heap.size < W3.heap.size := by rw [← hW];(first | omega | (simp;done) | (simp;omega))
  clear HL_W3
  clear hW
  refine (sign_ok (N := N) x y _ hN hx hy p9 HP9.out).mono ?_
  rintro e wf ⟨ru,cu,ru2,cu2,rfl,hn,hn',hb⟩
  have hs_wf : W3.heap.size ≤ wf.heap.size := hb.size
  replace k_P_0 : wf.cell? ⟨wa.heap.size,0,none⟩ = some (.bool (decide ((p).num < 0))) := (hb.cell (p := ⟨wa.heap.size,0,none⟩) hl_P).trans k_P_0
  replace k_P_1 : wf.cell? ⟨wa.heap.size,1,none⟩ = some (.slice rp (nlen (p).num.natAbs) cp) := (hb.cell (p := ⟨wa.heap.size,1,none⟩) hl_P).trans k_P_1
  replace k_P_2 : wf.cell? ⟨wa.heap.size,2,none⟩ = some (.slice rp2 (nlen (p).den) cp2) := (hb.cell (p := ⟨wa.heap.size,2,none⟩) hl_P).trans k_P_2
  replace f_P : ∀ o,wf.frozen? ⟨wa.heap.size,o,none⟩ = false := fun o => (hb.frozen (p := ⟨wa.heap.size,o,none⟩) hl_P).trans (f_P o)
  replace HX_P := Lib.hid (HX_P.out.below hb)
  replace k_Q_0 : wf.cell? ⟨wb.heap.size,0,none⟩ = some (.bool (decide ((p).num < 0))) := (hb.cell (p := ⟨wb.heap.size,0,none⟩) hl_Q).trans k_Q_0
  replace k_Q_1 : wf.cell? ⟨wb.heap.size,1,none⟩ = some (.slice rq (nlen (p).num.natAbs) cq) := (hb.cell (p := ⟨wb.heap.size,1,none⟩) hl_Q).trans k_Q_1
  replace k_Q_2 : wf.cell? ⟨wb.heap.size,2,none⟩ = some (.slice rq2 (nlen (p).den) cq2) := (hb.cell (p := ⟨wb.heap.size,2,none⟩) hl_Q).trans k_Q_2
  replace f_Q : ∀ o,wf.frozen? ⟨wb.heap.size,o,none⟩ = false := fun o => (hb.frozen (p := ⟨wb.heap.size,o,none⟩) hl_Q).trans (f_Q o)
  replace HX_Q := Lib.hid (HX_Q.out.below hb)
  replace HB := Lib.hid (HB.out.trans (hb.mono hs0))
  replace hN : N ≤ wf.heap.size := Nat.le_trans hN hb.size
  replace hs0 : w.heap.size ≤ wf.heap.size := Nat.le_trans hs0 hb.size
  replace hl_P : wa.heap.size < wf.heap.size := Nat.lt_of_lt_of_le hl_P hb.size
  replace hl_Q : wb.heap.size < wf.heap.size := Nat.lt_of_lt_of_le hl_Q hb.size
  clear hb
  have HU1 := Lib.hid hn
  clear hn
  have HU2 := Lib.hid hn'
  clear hn'
  go_wp2_with fail
  refine calls_name fun W4 hW => ?_
  have hs_W4 : wf.heap.size ≤ W4.heap.size := by rw [← hW];(first | omega | (simp;done) | (simp;omega))
  have HK_W4 := Lib.hid (show Kp N wf W4 by rw [← hW];exact KpA)
  replace k_P_0 : W4.cell? ⟨wa.heap.size,0,none⟩ = some (.bool (decide ((p9).num < 0))) := by rw [← hW];(first | (go_simp;done) | (simp [go_sem,k_P_0];done) | (simp [go_sem,k_P_0,k_P_1,k_P_2];done) | (simp [go_sem,k_P_0,k_P_1,k_P_2,k_Q_0,k_Q_1,k_Q_2,f_P,f_Q,hl_P,hl_Q];done))
  replace k_P_1 : W4.cell? ⟨wa.heap.size,1,none⟩ = some (.slice ru (nlen (p9).num.natAbs) cu) := by rw [← hW];(first | (go_simp;done) | (simp [go_sem,k_P_1];done) | (simp [go_sem,k_P_0,k_P_1,k_P_2];done) | (simp [go_sem,k_P_0,k_P_1,k_P_2,k_Q_0,k_Q_1,k_Q_2,f_P,f_Q,hl_P,hl_Q];done))
  replace k_P_2 : W4.cell? ⟨wa.heap.size,2,none⟩ = some (.slice ru2 (nlen (p9).den) cu2) := by rw [← hW];(first | (go_simp;done) | (simp [go_sem,k_P_2];done) | (simp [go_sem,k_P_0,k_P_1,k_P_2];done) | (simp [go_sem,k_P_0,k_P_1,k_P_2,k_Q_0,k_Q_1,k_Q_2,f_P,f_Q,hl_P,hl_Q];done))
  replace f_P : ∀ o,W4.frozen? ⟨wa.heap.size,o,none⟩ = false := by intro o;rw [← hW];(first | with_reducible exact f_P o | (simp [go_sem,f_P];done) | (simp [go_sem,f_P,hl_P];done) | (go_simp;done) | (simp [go_sem,k_P_0,k_P_1,k_P_2,k_Q_0,k_Q_1,k_Q_2,f_P,f_Q,hl_P,hl_Q];done))
  replace HX_P := Lib.hid (show Bn W4 (wa.heap.size) by rw [← hW];exact KpA)
  replace k_Q_0 : W4.cell? ⟨wb.heap.size,0,none⟩ = some (.bool (decide ((p).num < 0))) := by rw [← hW];(first | with_reducible exact k_Q_0 | (simp [go_sem,k_Q_0];done) | (simp [go_sem,k_Q_0,hl_Q];done) | (go_simp;done) | (simp [go_sem,k_P_0,k_P_1,k_P_2,k_Q_0,k_Q_1,k_Q_2,f_P,f_Q,hl_P,hl_Q];done))
  replace k_Q_1 : W4.cell? ⟨wb.heap.size,1,none⟩ = some (.slice rq (nlen (p).num.natAbs) cq) := by rw [← hW];(first | with_reducible exact k_Q_1 | (simp [go_sem,k_Q_1];done) | (simp [go_sem,k_Q_1,hl_Q];done) | (go_simp;done) | (simp [go_sem,k_P_0,k_P_1,k_P_2,k_Q_0,k_Q_1,k_Q_2,f_P,f_Q,hl_P,hl_Q];done))
  replace k_Q_2 : W4.cell? ⟨wb.heap.size,2,none⟩ = some (.slice rq2 (nlen (p).den) cq2) := by rw [← hW];(first | with_reducible exact k_Q_2 | (simp [go_sem,k_Q_2];done) | (simp [go_sem,k_Q_2,hl_Q];done) | (go_simp;done) | (simp [go_sem,k_P_0,k_P_1,k_P_2,k_Q_0,k_Q_1,k_Q_2,f_P,f_Q,hl_P,hl_Q];done))
  replace f_Q : ∀ o,W4.frozen? ⟨wb.heap.size,o,none⟩ = false := by intro o;rw [← hW];(first | with_reducible exact f_Q o | (simp [go_sem,f_Q];done) | (simp [go_sem,f_Q,hl_Q];done) | (go_simp;done) | (simp [go_sem,k_P_0,k_P_1,k_P_2,k_Q_0,k_Q_1,k_Q_2,f_P,f_Q,hl_P,hl_Q];done))
  replace HX_Q := Lib.hid (show Bn W4 (wb.heap.size) by rw [← hW];exact KpA)
  replace HU1 := Lib.hid (HU1.out.keep HK_W4.out)
  replace HU2 := Lib.hid (HU2.out.keep HK_W4.out)
  replace HB := Lib.hid (show Below w.heap.size w W4 by rw [← hW];exact BlA)
  replace hN : N ≤ W4.heap.size := by rw [← hW];(first | omega | (simp;done) | (simp;omega))
  replace hs0 : w.heap.size ≤ W4.heap.size := by rw [← hW];(first | omega | (simp;done) | (simp;omega))
  replace hl_P : wa.heap.size < W4.heap.size := by rw [← hW];(first | omega | (simp;done) | (simp;omega))
  replace hl_Q : wb.heap.size < W4.heap.size := by rw [← hW];(first | omega | (simp;done) | (simp;omega))
  clear hW HK_W4
  refine (xsign_ok (N := N) x y _ hN hx hy p9 HP9.out).mono ?_
  rintro e wg ⟨rv,cv,rv2,cv2,rfl,hn,hn',hb⟩
  have hs_wg : W4.heap.size ≤ wg.heap.size := hb.size
  replace k_P_0 : wg.cell? ⟨wa.heap.size,0,none⟩ = some (.bool (decide ((p9).num < 0))) := (hb.cell (p := ⟨wa.heap.size,0,none⟩) hl_P).trans k_P_0
  replace k_P_1 : wg.cell? ⟨wa.heap.size,1,none⟩ = some (.slice ru (nlen (p9).num.natAbs) cu) := (hb.cell (p := ⟨wa.heap.size,1,none⟩) hl_P).trans k_P_1
  replace k_P_2 : wg.cell? ⟨wa.heap.size,2,none⟩ = some (.slice ru2 (nlen (p9).den) cu2) := (hb.cell (p := ⟨wa.heap.size,2,none⟩) hl_P).trans k_P_2
  replace f_P : ∀ o,wg.frozen? ⟨wa.heap.size,o,none⟩ = false := fun o => (hb.frozen (p := ⟨wa.heap.size,o,none⟩) hl_P).trans (f_P o)
  replace HX_P := Lib.hid (HX_P.out.below hb)
  replace k_Q_0 : wg.cell? ⟨wb.heap.size,0,none⟩ = some (.bool (decide ((p).num < 0))) := (hb.cell (p := ⟨wb.heap.size,0,none⟩) hl_Q).trans k_Q_0
  replace k_Q_1 : wg.cell? ⟨wb.heap.size,1,none⟩ = some (.slice rq (nlen (p).num.natAbs) cq) := (hb.cell (p := ⟨wb.heap.size,1,none⟩) hl_Q).trans k_Q_1
  replace k_Q_2 : wg.cell? ⟨wb.heap.size,2,none⟩ = some (.slice rq2 (nlen (p).den) cq2) := (hb.cell (p := ⟨wb.heap.size,2,none⟩) hl_Q).trans k_Q_2
  replace f_Q : ∀ o,wg.frozen? ⟨wb.heap.size,o,none⟩ = false := fun o => (hb.frozen (p := ⟨wb.heap.size,o,none⟩) hl_Q).trans (f_Q o)
  replace HX_Q := Lib.hid (HX_Q.out.below hb)
  replace HU1 := Lib.hid (HU1.out.below hb)
  replace HU2 := Lib.hid (HU2.out.below hb)
  replace HB := Lib.hid (HB.out.trans (hb.mono hs0))
  replace hN : N ≤ wg.heap.size := Nat.le_trans hN hb.size
  replace hs0 : w.heap.size ≤ wg.heap.size := Nat.le_trans hs0 hb.size
  replace hl_P : wa.heap.size < wg.heap.size := Nat.lt_of_lt_of_le hl_P hb.size
  replace hl_Q : wb.heap.size < wg.heap.size := Nat.lt_of_lt_of_le hl_Q hb.size
  clear hb
  have HV1 := Lib.hid hn
  clear hn
  have HV2 := Lib.hid hn'
  clear hn'
  go_wp2_with fail
  refine calls_name fun W5 hW => ?_
  have hs_W5 : wg.heap.size ≤ W5.heap.size := by rw [← hW];(first | omega | (simp;done) | (simp;omega))
  have HK_W5 := Lib.hid (show Kp N wg W5 by rw [← hW];exact KpA)
  replace k_P_0 : W5.cell? ⟨wa.heap.size,0,none⟩ = some (.bool (decide ((p9).num < 0))) := by rw [← hW];(first | with_reducible exact k_P_0 | (simp [go_sem,k_P_0];done) | (simp [go_sem,k_P_0,hl_P];done) | (go_simp;done) | (simp [go_sem,k_P_0,k_P_1,k_P_2,k_Q_0,k_Q_1,k_Q_2,f_P,f_Q,hl_P,hl_Q];done))
  replace k_P_1 : W5.cell? ⟨wa.heap.size,1,none⟩ = some (.slice ru (nlen (p9).num.natAbs) cu) := by rw [← hW];(first | with_reducible exact k_P_1 | (simp [go_sem,k_P_1];done) | (simp [go_sem,k_P_1,hl_P];done) | (go_simp;done) | (simp [go_sem,k_P_0,k_P_1,k_P_2,k_Q_0,k_Q_1,k_Q_2,f_P,f_Q,hl_P,hl_Q];done))
  replace k_P_2 : W5.cell? ⟨wa.heap.size,2,none⟩ = some (.slice ru2 (nlen (p9).den) cu2) := by rw [← hW];(first | with_reducible exact k_P_2 | (simp [go_sem,k_P_2];done) | (simp [go_sem,k_P_2,hl_P];done) | (go_simp;done) | (simp [go_sem,k_P_0,k_P_1,k_P_2,k_Q_0,k_Q_1,k_Q_2,f_P,f_Q,hl_P,hl_Q];done))
  replace f_P : ∀ o,W5.frozen? ⟨wa.heap.size,o,none⟩ = false := by intro o;rw [← hW];(first | with_reducible exact f_P o | (simp [go_sem,f_P];done) | (simp [go_sem,f_P,hl_P];done) | (go_simp;done) | (simp [go_sem,k_P_0,k_P_1,k_P_2,k_Q_0,k_Q_1,k_Q_2,f_P,f_Q,hl_P,hl_Q];done))
  replace HX_P := Lib.hid (show Bn W5 (wa.heap.size) by rw [← hW];exact KpA)
  replace k_Q_0 : W5.cell? ⟨wb.heap.size,0,none⟩ = some (.bool (decide ((p9).num < 0))) := by rw [← hW];(first | (go_simp;done) | (simp [go_sem,k_Q_0];done) | (simp [go_sem,k_Q_0,k_Q_1,k_Q_2];done) | (simp [go_sem,k_P_0,k_P_1,k_P_2,k_Q_0,k_Q_1,k_Q_2,f_P,f_Q,hl_P,hl_Q];done))
  replace k_Q_1 : W5.cell? ⟨wb.heap.size,1,none⟩ = some (.slice rv (nlen (p9).num.natAbs) cv) := by rw [← hW];(first | (go_simp;done) | (simp [go_sem,k_Q_1];done) | (simp [go_sem,k_Q_0,k_Q_1,k_Q_2];done) | (simp [go_sem,k_P_0,k_P_1,k_P_2,k_Q_0,k_Q_1,k_Q_2,f_P,f_Q,hl_P,hl_Q];done))
  replace k_Q_2 : W5.cell? ⟨wb.heap.size,2,none⟩ = some (.slice rv2 (nlen (p9).den) cv2) := by rw [← hW];(first | (go_simp;done) | (simp [go_sem,k_Q_2];done) | (simp [go_sem,k_Q_0,k_Q_1,k_Q_2];done) | (simp [go_sem,k_P_0,k_P_1,k_P_2,k_Q_0,k_Q_1,k_Q_2,f_P,f_Q,hl_P,hl_Q];done))
  replace f_Q : ∀ o,W5.frozen? ⟨wb.heap.size,o,none⟩ = false := by intro o;rw [← hW];(first | with_reducible exact f_Q o | (simp [go_sem,f_Q];done) | (simp [go_sem,f_Q,hl_Q];done) | (go_simp;done) | (simp [go_sem,k_P_0,k_P_1,k_P_2,k_Q_0,k_Q_1,k_Q_2,f_P,f_Q,hl_P,hl_Q];done))
  replace HX_Q := Lib.hid (show Bn W5 (wb.heap.size) by rw [← hW];exact KpA)
  replace HU1 := Lib.hid (HU1.out.keep HK_W5.out)
  replace HU2 := Lib.hid (HU2.out.keep HK_W5.out)
  replace HV1 := Lib.hid (HV1.out.keep HK_W5.out)
  replace HV2 := Lib.hid (HV2.out.keep HK_W5.out)
  replace HB := Lib.hid (show Below w.heap.size w W5 by rw [← hW];exact BlA)
  replace hN : N ≤ W5.heap.size := by rw [← hW];(first | omega | (simp;done) | (simp;omega))
  replace hs0 : w.heap.size ≤ W5.heap.size := by rw [← hW];(first | omega | (simp;done) | (simp;omega))
  replace hl_P : wa.heap.size < W5.heap.size := by rw [← hW];(first | omega | (simp;done) | (simp;omega))
  replace hl_Q : wb.heap.size < W5.heap.size := by rw [← hW];(first | omega | (simp;done) | (simp;omega))
  clear hW HK_W5
  refine (SameRatio_any (N := N) _ _ _ _ _ _ _ _ _ _ _ _ _ _ (hN) (HU1.out) (HV1.out) (HU2.out) (HV2.out)).mono ?_
  rintro e wh ⟨rfl,hb⟩
  have hs_wh : W5.heap.size ≤ wh.heap.size := hb.size
  replace k_P_0 : wh.cell? ⟨wa.heap.size,0,none⟩ = some (.bool (decide ((p9).num < 0))) := (hb.cell (p := ⟨wa.heap.size,0,none⟩) hl_P).trans k_P_0
  replace k_P_1 : wh.cell? ⟨wa.heap.size,1,none⟩ = some (.slice ru (nlen (p9).num.natAbs) cu) := (hb.cell (p := ⟨wa.heap.size,1,none⟩) hl_P).trans k_P_1
  replace k_P_2 : wh.cell? ⟨wa.heap.size,2,none⟩ = some (.slice ru2 (nlen (p9).den) cu2) := (hb.cell (p := ⟨wa.heap.size,2,none⟩) hl_P).trans k_P_2
  replace f_P : ∀ o,wh.frozen? ⟨wa.heap.size,o,none⟩ = false := fun o => (hb.frozen (p := ⟨wa.heap.size,o,none⟩) hl_P).trans (f_P o)
  replace HX_P := Lib.hid (HX_P.out.below hb)
  replace k_Q_0 : wh.cell? ⟨wb.heap.size,0,none⟩ = some (.bool (decide ((p9).num < 0))) := (hb.cell (p := ⟨wb.heap.size,0,none⟩) hl_Q).trans k_Q_0
  replace k_Q_1 : wh.cell? ⟨wb.heap.size,1,none⟩ = some (.slice rv (nlen (p9).num.natAbs) cv) := (hb.cell (p := ⟨wb.heap.size,1,none⟩) hl_Q).trans k_Q_1
  replace k_Q_2 : wh.cell? ⟨wb.heap.size,2,none⟩ = some (.slice rv2 (nlen (p9).den) cv2) := (hb.cell (p := ⟨wb.heap.size,2,none⟩) hl_Q).trans k_Q_2
  replace f_Q : ∀ o,wh.frozen? ⟨wb.heap.size,o,none⟩ = false := fun o => (hb.frozen (p := ⟨wb.heap.size,o,none⟩) hl_Q).trans (f_Q o)
  replace HX_Q := Lib.hid (HX_Q.out.below hb)
  replace HU1 := Lib.hid (HU1.out.below hb)
  replace HU2 := Lib.hid (HU2.out.below hb)
  replace HV1 := Lib.hid (HV1.out.below hb)
  replace HV2 := Lib.hid (HV2.out.below hb)
  replace HB := Lib.hid (HB.out.trans (hb.mono hs0))
  replace hN : N ≤ wh.heap.size := Nat.le_trans hN hb.size
  replace hs0 : w.heap.size ≤ wh.heap.size := Nat.le_trans hs0 hb.size
  replace hl_P : wa.heap.size < wh.heap.size := Nat.lt_of_lt_of_le hl_P hb.size
  replace hl_Q : wb.heap.size < wh.heap.size := Nat.lt_of_lt_of_le hl_Q hb.size
  clear hb
  go_wp2_with fail
  refine calls_name fun W6 hW => ?_
  have HL_W6 := Lib.hid (show Below wh.heap.size wh W6 by rw [← hW];exact BlA)
  have hs_W6 : wh.heap.size ≤ W6.heap.size := by rw [← hW];(first | omega | (simp;done) | (simp;omega))
  have HK_W6 := Lib.hid (show Kp N wh W6 by rw [← hW];exact KpA)
  replace k_P_0 : W6.cell? ⟨wa.heap.size,0,none⟩ = some (.bool (decide ((p9).num < 0))) := (HL_W6.out.cell (p := ⟨wa.heap.size,0,none⟩) hl_P).trans k_P_0
  replace k_P_1 : W6.cell? ⟨wa.heap.size,1,none⟩ = some (.slice ru (nlen (p9).num.natAbs) cu) := (HL_W6.out.cell (p := ⟨wa.heap.size,1,none⟩) hl_P).trans k_P_1
  replace k_P_2 : W6.cell? ⟨wa.heap.size,2,none⟩ = some (.slice ru2 (nlen (p9).den) cu2) := (HL_W6.out.cell (p := ⟨wa.heap.size,2,none⟩) hl_P).trans k_P_2
  replace f_P : ∀ o,W6.frozen? ⟨wa.heap.size,o,none⟩ = false := fun o => (HL_W6.out.frozen (p := ⟨wa.heap.size,o,none⟩) hl_P).trans (f_P o)
  replace HX_P := Lib.hid (show Bn W6 (wa.heap.size) by rw [← hW];exact KpA)
  replace k_Q_0 : W6.cell? ⟨wb.heap.size,0,none⟩ = some (.bool (decide ((p9).num < 0))) := (HL_W6.out.cell (p := ⟨wb.heap.size,0,none⟩) hl_Q).trans k_Q_0
  replace k_Q_1 : W6.cell? ⟨wb.heap.size,1,none⟩ = some (.slice rv (nlen (p9).num.natAbs) cv) := (HL_W6.out.cell (p := ⟨wb.heap.size,1,none⟩) hl_Q).trans k_Q_1
  replace k_Q_2 : W6.cell? ⟨wb.heap.size,2,none⟩ = some (.slice rv2 (nlen (p9).den) cv2) := (HL_W6.out.cell (p := ⟨wb.heap.size,2,none⟩) hl_Q).trans k_Q_2
  replace f_Q : ∀ o,W6.frozen? ⟨wb.heap.size,o,none⟩ = false := fun o => (HL_W6.out.frozen (p := ⟨wb.heap.size,o,none⟩) hl_Q).trans (f_Q o)
  replace HX_Q := Lib.hid (show Bn W6 (wb.heap.size) by rw [← hW];exact KpA)
  replace HU1 := Lib.hid (HU1.out.keep HK_W6.out)
  replace HU2 := Lib.hid (HU2.out.keep HK_W6.out)
  replace HV1 := Lib.hid (HV1.out.keep HK_W6.out)
  replace HV2 := Lib.hid (HV2.out.keep HK_W6.out)
  replace HB := Lib.hid (show Below w.heap.size w W6 by rw [← hW];exact BlA)
  replace hN : N ≤ W6.heap.size := by rw [← hW];(first | omega | (simp;done) | (simp;omega))
  replace hs0 : w.heap.size ≤ W6.heap.size := by rw [← hW];(first | omega | (simp;done) | (simp;omega))
  replace hl_P : wa.heap.size < W6.heap.size := by rw [← hW];(first | omega | (simp;done) | (simp;omega))
  replace hl_Q : wb.heap.size < W6.heap.size := by rw [← hW];(first | omega | (simp;done) | (simp;omega))
  clear HL_W6
  clear hW HK_W6
  refine (dawake_any (N := N) _ hN (HTw.out.below HB.out)).mono ?_
  rintro e wi ⟨rfl,hb⟩
  have hs_wi : W6.heap.size ≤ wi.heap.size := hb.size
  replace k_P_0 : wi.cell? ⟨wa.heap.size,0,none⟩ = some (.bool (decide ((p9).num < 0))) := (hb.cell (p := ⟨wa.heap.size,0,none⟩) hl_P).trans k_P_0
  replace k_P_1 : wi.cell? ⟨wa.heap.size,1,none⟩ = some (.slice ru (nlen (p9).num.natAbs) cu) := (hb.cell (p := ⟨wa.heap.size,1,none⟩) hl_P).trans k_P_1
  replace k_P_2 : wi.cell? ⟨wa.heap.size,2,none⟩ = some (.slice ru2 (nlen (p9).den) cu2) := (hb.cell (p := ⟨wa.heap.size,2,none⟩) hl_P).trans k_P_2
  replace f_P : ∀ o,wi.frozen? ⟨wa.heap.size,o,none⟩ = false := fun o => (hb.frozen (p := ⟨wa.heap.size,o,none⟩) hl_P).trans (f_P o)
  replace HX_P := Lib.hid (HX_P.out.below hb)
  replace k_Q_0 : wi.cell? ⟨wb.heap.size,0,none⟩ = some (.bool (decide ((p9).num < 0))) := (hb.cell (p := ⟨wb.heap.size,0,none⟩) hl_Q).trans k_Q_0
  replace k_Q_1 : wi.cell? ⟨wb.heap.size,1,none⟩ = some (.slice rv (nlen (p9).num.natAbs) cv) := (hb.cell (p := ⟨wb.heap.size,1,none⟩) hl_Q).trans k_Q_1
  replace k_Q_2 : wi.cell? ⟨wb.heap.size,2,none⟩ = some (.slice rv2 (nlen (p9).den) cv2) := (hb.cell (p := ⟨wb.heap.size,2,none⟩) hl_Q).trans k_Q_2
  replace f_Q : ∀ o,wi.frozen? ⟨wb.heap.size,o,none⟩ = false := fun o => (hb.frozen (p := ⟨wb.heap.size,o,none⟩) hl_Q).trans (f_Q o)
  replace HX_Q := Lib.hid (HX_Q.out.below hb)
  replace HU1 := Lib.hid (HU1.out.below hb)
  replace HU2 := Lib.hid (HU2.out.below hb)
  replace HV1 := Lib.hid (HV1.out.below hb)
  replace HV2 := Lib.hid (HV2.out.below hb)
  replace HB := Lib.hid (HB.out.trans (hb.mono hs0))
  replace hN : N ≤ wi.heap.size := Nat.le_trans hN hb.size
  replace hs0 : w.heap.size ≤ wi.heap.size := Nat.le_trans hs0 hb.size
  replace hl_P : wa.heap.size < wi.heap.size := Nat.lt_of_lt_of_le hl_P hb.size
  replace hl_Q : wb.heap.size < wi.heap.size := Nat.lt_of_lt_of_le hl_Q hb.size
  clear hb
  go_wp2_with fail
  go_ret
  exact ⟨rfl,HB.out⟩
set_option maxHeartbeats 8000000 in
set_option maxRecDepth 100000 in
theorem dtst_yn {N : Nat} (a b c d : Nat) (ha : a ≤ 30) (hb : b ≤ 30) (hc : c ≤ 30) (hd : d ≤ 30) (x y : Int) (hbad : x < 0 ∨ 60 < x ∨ y < 0 ∨ 60 < y) (w : World) (hN : N ≤ w.heap.size) (htab : TabW w) :
    Calls Tryz.prog 3 #[.agg #[.int .i64 ((a : Nat) : Int),.int .i64 ((b : Nat) : Int),.int .i64 ((c : Nat) : Int),.int .i64 ((d : Nat) : Int)],.int .i64 x,.int .i64 y] w fun e w' => e = .returned (.bool true) ∧ Below w.heap.size w w' := by
  have HV := Lib.hid (show vldT a b c d = true from vldT_iff.2 ⟨by omega,by omega,by omega,by omega⟩)
  obtain ⟨p,hp⟩ : ∃ p,fishQ a b c d = p := ⟨_,rfl⟩
  have HP := Lib.hid hp
  clear hp
  have HTw := Lib.hid htab
  clear htab
  have hN0 := hN
  have HB := Lib.hid (Below.refl w.heap.size w)
  go_enter Tryz.func3,Tryz.ntmps3
  go_wp2_with fail
  refine calls_name fun W0 hW => ?_
  have hs_W0 : w.heap.size ≤ W0.heap.size := by rw [← hW];(first | omega | (simp;done) | (simp;omega))
  have k_T_0 : W0.cell? ⟨w.heap.size,0,none⟩ = some (.int .i64 ((a : Nat) : Int)) := by rw [← hW];(first | (go_simp;done) | (simp;done) | (simp [go_sem];done) | (simp [go_sem];done))
  have k_T_1 : W0.cell? ⟨w.heap.size,1,none⟩ = some (.int .i64 ((b : Nat) : Int)) := by rw [← hW];(first | (go_simp;done) | (simp;done) | (simp [go_sem];done) | (simp [go_sem];done))
  have k_T_2 : W0.cell? ⟨w.heap.size,2,none⟩ = some (.int .i64 ((c : Nat) : Int)) := by rw [← hW];(first | (go_simp;done) | (simp;done) | (simp [go_sem];done) | (simp [go_sem];done))
  have k_T_3 : W0.cell? ⟨w.heap.size,3,none⟩ = some (.int .i64 ((d : Nat) : Int)) := by rw [← hW];(first | (go_simp;done) | (simp;done) | (simp [go_sem];done) | (simp [go_sem];done))
  have f_T : ∀ o,W0.frozen? ⟨w.heap.size,o,none⟩ = false := by intro o;rw [← hW];(first | (go_simp;done) | (simp;done) | (simp [go_sem];done) | (simp [go_sem];done))
  have HX_T := Lib.hid (show Bn W0 (w.heap.size) by rw [← hW];exact KpA)
  replace HB := Lib.hid (show Below w.heap.size w W0 by rw [← hW];exact BlA)
  replace hN : N ≤ W0.heap.size := by rw [← hW];(first | omega | (simp;done) | (simp;omega))
  have hs0 : w.heap.size ≤ W0.heap.size := by rw [← hW];(first | omega | (simp;done) | (simp;omega))
  have hl_T : w.heap.size < W0.heap.size := by rw [← hW];(first | omega | (simp;done) | (simp;omega))
  clear hW
  refine (fisher_ok (N := N) a b c d _ hN ha hb hc hd p HP.out).mono ?_
  rintro e wa ⟨rp,cp,rp2,cp2,rfl,hn,hn',hb⟩
  have hs_wa : W0.heap.size ≤ wa.heap.size := hb.size
  replace k_T_0 : wa.cell? ⟨w.heap.size,0,none⟩ = some (.int .i64 ((a : Nat) : Int)) := (hb.cell (p := ⟨w.heap.size,0,none⟩) hl_T).trans k_T_0
  replace k_T_1 : wa.cell? ⟨w.heap.size,1,none⟩ = some (.int .i64 ((b : Nat) : Int)) := (hb.cell (p := ⟨w.heap.size,1,none⟩) hl_T).trans k_T_1
  replace k_T_2 : wa.cell? ⟨w.heap.size,2,none⟩ = some (.int .i64 ((c : Nat) : Int)) := (hb.cell (p := ⟨w.heap.size,2,none⟩) hl_T).trans k_T_2
  replace k_T_3 : wa.cell? ⟨w.heap.size,3,none⟩ = some (.int .i64 ((d : Nat) : Int)) := (hb.cell (p := ⟨w.heap.size,3,none⟩) hl_T).trans k_T_3
  replace f_T : ∀ o,wa.frozen? ⟨w.heap.size,o,none⟩ = false := fun o => (hb.frozen (p := ⟨w.heap.size,o,none⟩) hl_T).trans (f_T o)
  replace HX_T := Lib.hid (HX_T.out.below hb)
  replace HB := Lib.hid (HB.out.trans (hb.mono hs0))
  replace hN : N ≤ wa.heap.size := Nat.le_trans hN hb.size
  replace hs0 : w.heap.size ≤ wa.heap.size := Nat.le_trans hs0 hb.size
  replace hl_T : w.heap.size < wa.heap.size := Nat.lt_of_lt_of_le hl_T hb.size
  clear hb
  have HP1 := Lib.hid hn
  clear hn
  have HP2 := Lib.hid hn'
  clear hn'
  go_wp2_with fail
  refine calls_name fun W1 hW => ?_
  have HL_W1 := Lib.hid (show Below wa.heap.size wa W1 by rw [← hW];exact BlA)
  have hs_W1 : wa.heap.size ≤ W1.heap.size := by rw [← hW];(first | omega | (simp;done) | (simp;omega))
  have hd_T_P : w.heap.size < wa.heap.size := by omega
  have HK_W1 := Lib.hid (show Kp N wa W1 by rw [← hW];exact KpA)
  replace k_T_0 : W1.cell? ⟨w.heap.size,0,none⟩ = some (.int .i64 ((a : Nat) : Int)) := (HL_W1.out.cell (p := ⟨w.heap.size,0,none⟩) hl_T).trans k_T_0
  replace k_T_1 : W1.cell? ⟨w.heap.size,1,none⟩ = some (.int .i64 ((b : Nat) : Int)) := (HL_W1.out.cell (p := ⟨w.heap.size,1,none⟩) hl_T).trans k_T_1
  replace k_T_2 : W1.cell? ⟨w.heap.size,2,none⟩ = some (.int .i64 ((c : Nat) : Int)) := (HL_W1.out.cell (p := ⟨w.heap.size,2,none⟩) hl_T).trans k_T_2
  replace k_T_3 : W1.cell? ⟨w.heap.size,3,none⟩ = some (.int .i64 ((d : Nat) : Int)) := (HL_W1.out.cell (p := ⟨w.heap.size,3,none⟩) hl_T).trans k_T_3
  replace f_T : ∀ o,W1.frozen? ⟨w.heap.size,o,none⟩ = false := fun o => (HL_W1.out.frozen (p := ⟨w.heap.size,o,none⟩) hl_T).trans (f_T o)
  replace HX_T := Lib.hid (show Bn W1 (w.heap.size) by rw [← hW];exact KpA)
  have k_P_0 : W1.cell? ⟨wa.heap.size,0,none⟩ = some (.bool (decide ((p).num < 0))) := by rw [← hW];(first | (go_simp;done) | (simp;done) | (simp [go_sem];done) | (simp [go_sem,k_T_0,k_T_1,k_T_2,k_T_3,f_T,hl_T];done))
  have k_P_1 : W1.cell? ⟨wa.heap.size,1,none⟩ = some (.slice rp (nlen (p).num.natAbs) cp) := by rw [← hW];(first | (go_simp;done) | (simp;done) | (simp [go_sem];done) | (simp [go_sem,k_T_0,k_T_1,k_T_2,k_T_3,f_T,hl_T];done))
  have k_P_2 : W1.cell? ⟨wa.heap.size,2,none⟩ = some (.slice rp2 (nlen (p).den) cp2) := by rw [← hW];(first | (go_simp;done) | (simp;done) | (simp [go_sem];done) | (simp [go_sem,k_T_0,k_T_1,k_T_2,k_T_3,f_T,hl_T];done))
  have f_P : ∀ o,W1.frozen? ⟨wa.heap.size,o,none⟩ = false := by intro o;rw [← hW];(first | (go_simp;done) | (simp;done) | (simp [go_sem];done) | (simp [go_sem,k_T_0,k_T_1,k_T_2,k_T_3,f_T,hl_T];done))
  have HX_P := Lib.hid (show Bn W1 (wa.heap.size) by rw [← hW];exact KpA)
  replace HP1 := Lib.hid (HP1.out.keep HK_W1.out)
  replace HP2 := Lib.hid (HP2.out.keep HK_W1.out)
  replace HB := Lib.hid (show Below w.heap.size w W1 by rw [← hW];exact BlA)
  replace hN : N ≤ W1.heap.size := by rw [← hW];(first | omega | (simp;done) | (simp;omega))
  replace hs0 : w.heap.size ≤ W1.heap.size := by rw [← hW];(first | omega | (simp;done) | (simp;omega))
  replace hl_T : w.heap.size < W1.heap.size := by rw [← hW];(first | omega | (simp;done) | (simp;omega))
  have hl_P : wa.heap.size < W1.heap.size := by rw [← hW];(first | omega | (simp;done) | (simp;omega))
  clear HL_W1
  clear hW HK_W1
  refine (xfisher_ok (N := N) a b c d _ hN ha hb hc hd p HP.out).mono ?_
  rintro e wb ⟨rq,cq,rq2,cq2,rfl,hn,hn',hb⟩
  have hs_wb : W1.heap.size ≤ wb.heap.size := hb.size
  replace k_T_0 : wb.cell? ⟨w.heap.size,0,none⟩ = some (.int .i64 ((a : Nat) : Int)) := (hb.cell (p := ⟨w.heap.size,0,none⟩) hl_T).trans k_T_0
  replace k_T_1 : wb.cell? ⟨w.heap.size,1,none⟩ = some (.int .i64 ((b : Nat) : Int)) := (hb.cell (p := ⟨w.heap.size,1,none⟩) hl_T).trans k_T_1
  replace k_T_2 : wb.cell? ⟨w.heap.size,2,none⟩ = some (.int .i64 ((c : Nat) : Int)) := (hb.cell (p := ⟨w.heap.size,2,none⟩) hl_T).trans k_T_2
  replace k_T_3 : wb.cell? ⟨w.heap.size,3,none⟩ = some (.int .i64 ((d : Nat) : Int)) := (hb.cell (p := ⟨w.heap.size,3,none⟩) hl_T).trans k_T_3
  replace f_T : ∀ o,wb.frozen? ⟨w.heap.size,o,none⟩ = false := fun o => (hb.frozen (p := ⟨w.heap.size,o,none⟩) hl_T).trans (f_T o)
  replace HX_T := Lib.hid (HX_T.out.below hb)
  replace k_P_0 : wb.cell? ⟨wa.heap.size,0,none⟩ = some (.bool (decide ((p).num < 0))) := (hb.cell (p := ⟨wa.heap.size,0,none⟩) hl_P).trans k_P_0
  replace k_P_1 : wb.cell? ⟨wa.heap.size,1,none⟩ = some (.slice rp (nlen (p).num.natAbs) cp) := (hb.cell (p := ⟨wa.heap.size,1,none⟩) hl_P).trans k_P_1
  replace k_P_2 : wb.cell? ⟨wa.heap.size,2,none⟩ = some (.slice rp2 (nlen (p).den) cp2) := (hb.cell (p := ⟨wa.heap.size,2,none⟩) hl_P).trans k_P_2
  replace f_P : ∀ o,wb.frozen? ⟨wa.heap.size,o,none⟩ = false := fun o => (hb.frozen (p := ⟨wa.heap.size,o,none⟩) hl_P).trans (f_P o)
  replace HX_P := Lib.hid (HX_P.out.below hb)
  replace HP1 := Lib.hid (HP1.out.below hb)
  replace HP2 := Lib.hid (HP2.out.below hb)
  replace HB := Lib.hid (HB.out.trans (hb.mono hs0))
  replace hN : N ≤ wb.heap.size := Nat.le_trans hN hb.size
  replace hs0 : w.heap.size ≤ wb.heap.size := Nat.le_trans hs0 hb.size
  replace hl_T : w.heap.size < wb.heap.size := Nat.lt_of_lt_of_le hl_T hb.size
  replace hl_P : wa.heap.size < wb.heap.size := Nat.lt_of_lt_of_le hl_P hb.size
  clear hb
  have HQ1 := Lib.hid hn
  clear hn
  have HQ2 := Lib.hid hn'
  clear hn'
  go_wp2_with fail
  refine region_name fun W2 hW => ?_
  have HL_W2 := Lib.hid (show Below wb.heap.size wb W2 by rw [← hW];exact BlA)
  have hs_W2 : wb.heap.size ≤ W2.heap.size := by rw [← hW];(first | omega | (simp;done) | (simp;omega))
  have hd_T_Q : w.heap.size < wb.heap.size := by omega
  have hd_P_Q : wa.heap.size < wb.heap.size := by omega
  have HK_W2 := Lib.hid (show Kp N wb W2 by rw [← hW];exact KpA)
  replace k_T_0 : W2.cell? ⟨w.heap.size,0,none⟩ = some (.int .i64 ((a : Nat) : Int)) := (HL_W2.out.cell (p := ⟨w.heap.size,0,none⟩) hl_T).trans k_T_0
  replace k_T_1 : W2.cell? ⟨w.heap.size,1,none⟩ = some (.int .i64 ((b : Nat) : Int)) := (HL_W2.out.cell (p := ⟨w.heap.size,1,none⟩) hl_T).trans k_T_1
  replace k_T_2 : W2.cell? ⟨w.heap.size,2,none⟩ = some (.int .i64 ((c : Nat) : Int)) := (HL_W2.out.cell (p := ⟨w.heap.size,2,none⟩) hl_T).trans k_T_2
  replace k_T_3 : W2.cell? ⟨w.heap.size,3,none⟩ = some (.int .i64 ((d : Nat) : Int)) := (HL_W2.out.cell (p := ⟨w.heap.size,3,none⟩) hl_T).trans k_T_3
  replace f_T : ∀ o,W2.frozen? ⟨w.heap.size,o,none⟩ = false := fun o => (HL_W2.out.frozen (p := ⟨w.heap.size,o,none⟩) hl_T).trans (f_T o)
  replace HX_T := Lib.hid (show Bn W2 (w.heap.size) by rw [← hW];exact KpA)
  replace k_P_0 : W2.cell? ⟨wa.heap.size,0,none⟩ = some (.bool (decide ((p).num < 0))) := (HL_W2.out.cell (p := ⟨wa.heap.size,0,none⟩) hl_P).trans k_P_0
  replace k_P_1 : W2.cell? ⟨wa.heap.size,1,none⟩ = some (.slice rp (nlen (p).num.natAbs) cp) := (HL_W2.out.cell (p := ⟨wa.heap.size,1,none⟩) hl_P).trans k_P_1
  replace k_P_2 : W2.cell? ⟨wa.heap.size,2,none⟩ = some (.slice rp2 (nlen (p).den) cp2) := (HL_W2.out.cell (p := ⟨wa.heap.size,2,none⟩) hl_P).trans k_P_2
  replace f_P : ∀ o,W2.frozen? ⟨wa.heap.size,o,none⟩ = false := fun o => (HL_W2.out.frozen (p := ⟨wa.heap.size,o,none⟩) hl_P).trans (f_P o)
  replace HX_P := Lib.hid (show Bn W2 (wa.heap.size) by rw [← hW];exact KpA)
  have k_Q_0 : W2.cell? ⟨wb.heap.size,0,none⟩ = some (.bool (decide ((p).num < 0))) := by rw [← hW];(first | (go_simp;done) | (simp;done) | (simp [go_sem];done) | (simp [go_sem,k_T_0,k_T_1,k_T_2,k_T_3,k_P_0,k_P_1,k_P_2,f_T,f_P,hl_T,hl_P];done))
  have k_Q_1 : W2.cell? ⟨wb.heap.size,1,none⟩ = some (.slice rq (nlen (p).num.natAbs) cq) := by rw [← hW];(first | (go_simp;done) | (simp;done) | (simp [go_sem];done) | (simp [go_sem,k_T_0,k_T_1,k_T_2,k_T_3,k_P_0,k_P_1,k_P_2,f_T,f_P,hl_T,hl_P];done))
  have k_Q_2 : W2.cell? ⟨wb.heap.size,2,none⟩ = some (.slice rq2 (nlen (p).den) cq2) := by rw [← hW];(first | (go_simp;done) | (simp;done) | (simp [go_sem];done) | (simp [go_sem,k_T_0,k_T_1,k_T_2,k_T_3,k_P_0,k_P_1,k_P_2,f_T,f_P,hl_T,hl_P];done))
  have f_Q : ∀ o,W2.frozen? ⟨wb.heap.size,o,none⟩ = false := by intro o;rw [← hW];(first | (go_simp;done) | (simp;done) | (simp [go_sem];done) | (simp [go_sem,k_T_0,k_T_1,k_T_2,k_T_3,k_P_0,k_P_1,k_P_2,f_T,f_P,hl_T,hl_P];done))
  have HX_Q := Lib.hid (show Bn W2 (wb.heap.size) by rw [← hW];exact KpA)
  replace HP1 := Lib.hid (HP1.out.keep HK_W2.out)
  replace HP2 := Lib.hid (HP2.out.keep HK_W2.out)
  replace HQ1 := Lib.hid (HQ1.out.keep HK_W2.out)
  replace HQ2 := Lib.hid (HQ2.out.keep HK_W2.out)
  replace HB := Lib.hid (show Below w.heap.size w W2 by rw [← hW];exact BlA)
  replace hN : N ≤ W2.heap.size := by rw [← hW];(first | omega | (simp;done) | (simp;omega))
  replace hs0 : w.heap.size ≤ W2.heap.size := by rw [← hW];(first | omega | (simp;done) | (simp;omega))
  replace hl_T : w.heap.size < W2.heap.size := by rw [← hW];(first | omega | (simp;done) | (simp;omega))
  replace hl_P : wa.heap.size < W2.heap.size := by rw [← hW];(first | omega | (simp;done) | (simp;omega))
  have hl_Q : wb.heap.size < W2.heap.size := by rw [← hW];(first | omega | (simp;done) | (simp;omega))
  clear HL_W2
  clear hW HK_W2
  go_region_held3 (fun w' => w'.cell? ⟨w.heap.size,0,none⟩ = some (.int .i64 ((a : Nat) : Int)) ∧ w'.cell? ⟨w.heap.size,1,none⟩ = some (.int .i64 ((b : Nat) : Int)) ∧ w'.cell? ⟨w.heap.size,2,none⟩ = some (.int .i64 ((c : Nat) : Int)) ∧ w'.cell? ⟨w.heap.size,3,none⟩ = some (.int .i64 ((d : Nat) : Int)) ∧ w'.cell? ⟨wa.heap.size,0,none⟩ = some (.bool (decide ((p).num < 0))) ∧ w'.cell? ⟨wa.heap.size,1,none⟩ = some (.slice rp (nlen (p).num.natAbs) cp) ∧ w'.cell? ⟨wa.heap.size,2,none⟩ = some (.slice rp2 (nlen (p).den) cp2) ∧ w'.cell? ⟨wb.heap.size,0,none⟩ = some (.bool (decide ((p).num < 0))) ∧ w'.cell? ⟨wb.heap.size,1,none⟩ = some (.slice rq (nlen (p).num.natAbs) cq) ∧ w'.cell? ⟨wb.heap.size,2,none⟩ = some (.slice rq2 (nlen (p).den) cq2))
    (first | (go_keep;done) | ((try dsimp only);(repeat' apply And.intro) <;> (first | (go_keep;done) | (exact cell_keep_alloc_drew (by first | omega | (simp;omega)) (by first | assumption | go_simp)) | (exact cell_keep_alloc (by first | omega | (simp;omega)) (by first | assumption | go_simp)) | (rw [cell_set2 _ _ _ _ _ _ _ _ (by omega)];assumption) | (rw [cell_set3 _ _ _ _ _ _ _ _ _ _ (by omega)];assumption))))
    (first
      | (go_at_call 8;refine (dvalid_any _ _ _ _ _ true HV.out).mono ?_;rintro e wc ⟨rfl,hb⟩;replace hb : Below W2.heap.size W2 wc := (by first | exact hb | exact bel_of_drew hb);have hs_wc : W2.heap.size ≤ wc.heap.size := hb.size;replace k_T_0 : wc.cell? ⟨w.heap.size,0,none⟩ = some (.int .i64 ((a : Nat) : Int)) := (hb.cell (p := ⟨w.heap.size,0,none⟩) hl_T).trans k_T_0;replace k_T_1 : wc.cell? ⟨w.heap.size,1,none⟩ = some (.int .i64 ((b : Nat) : Int)) := (hb.cell (p := ⟨w.heap.size,1,none⟩) hl_T).trans k_T_1;replace k_T_2 : wc.cell? ⟨w.heap.size,2,none⟩ = some (.int .i64 ((c : Nat) : Int)) := (hb.cell (p := ⟨w.heap.size,2,none⟩) hl_T).trans k_T_2;replace k_T_3 : wc.cell? ⟨w.heap.size,3,none⟩ = some (.int .i64 ((d : Nat) : Int)) := (hb.cell (p := ⟨w.heap.size,3,none⟩) hl_T).trans k_T_3;replace f_T : ∀ o,wc.frozen? ⟨w.heap.size,o,none⟩ = false := fun o => (hb.frozen (p := ⟨w.heap.size,o,none⟩) hl_T).trans (f_T o);replace HX_T := Lib.hid (HX_T.out.below hb);replace k_P_0 : wc.cell? ⟨wa.heap.size,0,none⟩ = some (.bool (decide ((p).num < 0))) := (hb.cell (p := ⟨wa.heap.size,0,none⟩) hl_P).trans k_P_0;replace k_P_1 : wc.cell? ⟨wa.heap.size,1,none⟩ = some (.slice rp (nlen (p).num.natAbs) cp) := (hb.cell (p := ⟨wa.heap.size,1,none⟩) hl_P).trans k_P_1;replace k_P_2 : wc.cell? ⟨wa.heap.size,2,none⟩ = some (.slice rp2 (nlen (p).den) cp2) := (hb.cell (p := ⟨wa.heap.size,2,none⟩) hl_P).trans k_P_2;replace f_P : ∀ o,wc.frozen? ⟨wa.heap.size,o,none⟩ = false := fun o => (hb.frozen (p := ⟨wa.heap.size,o,none⟩) hl_P).trans (f_P o);replace HX_P := Lib.hid (HX_P.out.below hb);replace k_Q_0 : wc.cell? ⟨wb.heap.size,0,none⟩ = some (.bool (decide ((p).num < 0))) := (hb.cell (p := ⟨wb.heap.size,0,none⟩) hl_Q).trans k_Q_0;replace k_Q_1 : wc.cell? ⟨wb.heap.size,1,none⟩ = some (.slice rq (nlen (p).num.natAbs) cq) := (hb.cell (p := ⟨wb.heap.size,1,none⟩) hl_Q).trans k_Q_1;replace k_Q_2 : wc.cell? ⟨wb.heap.size,2,none⟩ = some (.slice rq2 (nlen (p).den) cq2) := (hb.cell (p := ⟨wb.heap.size,2,none⟩) hl_Q).trans k_Q_2;replace f_Q : ∀ o,wc.frozen? ⟨wb.heap.size,o,none⟩ = false := fun o => (hb.frozen (p := ⟨wb.heap.size,o,none⟩) hl_Q).trans (f_Q o);replace HX_Q := Lib.hid (HX_Q.out.below hb);replace HP1 := Lib.hid (HP1.out.below hb);replace HP2 := Lib.hid (HP2.out.below hb);replace HQ1 := Lib.hid (HQ1.out.below hb);replace HQ2 := Lib.hid (HQ2.out.below hb);replace HB := Lib.hid (HB.out.trans (hb.mono hs0));replace hN : N ≤ wc.heap.size := Nat.le_trans hN hb.size;replace hs0 : w.heap.size ≤ wc.heap.size := Nat.le_trans hs0 hb.size;replace hl_T : w.heap.size < wc.heap.size := Nat.lt_of_lt_of_le hl_T hb.size;replace hl_P : wa.heap.size < wc.heap.size := Nat.lt_of_lt_of_le hl_P hb.size;replace hl_Q : wb.heap.size < wc.heap.size := Nat.lt_of_lt_of_le hl_Q hb.size;clear hb;skip)
      | (go_at_call 9;refine (xtvalid_any _ _ _ _ _ true HV.out).mono ?_;rintro e wd ⟨rfl,hb⟩;replace hb : Below wc.heap.size wc wd := (by first | exact hb | exact bel_of_drew hb);have hs_wd : wc.heap.size ≤ wd.heap.size := hb.size;replace k_T_0 : wd.cell? ⟨w.heap.size,0,none⟩ = some (.int .i64 ((a : Nat) : Int)) := (hb.cell (p := ⟨w.heap.size,0,none⟩) hl_T).trans k_T_0;replace k_T_1 : wd.cell? ⟨w.heap.size,1,none⟩ = some (.int .i64 ((b : Nat) : Int)) := (hb.cell (p := ⟨w.heap.size,1,none⟩) hl_T).trans k_T_1;replace k_T_2 : wd.cell? ⟨w.heap.size,2,none⟩ = some (.int .i64 ((c : Nat) : Int)) := (hb.cell (p := ⟨w.heap.size,2,none⟩) hl_T).trans k_T_2;replace k_T_3 : wd.cell? ⟨w.heap.size,3,none⟩ = some (.int .i64 ((d : Nat) : Int)) := (hb.cell (p := ⟨w.heap.size,3,none⟩) hl_T).trans k_T_3;replace f_T : ∀ o,wd.frozen? ⟨w.heap.size,o,none⟩ = false := fun o => (hb.frozen (p := ⟨w.heap.size,o,none⟩) hl_T).trans (f_T o);replace HX_T := Lib.hid (HX_T.out.below hb);replace k_P_0 : wd.cell? ⟨wa.heap.size,0,none⟩ = some (.bool (decide ((p).num < 0))) := (hb.cell (p := ⟨wa.heap.size,0,none⟩) hl_P).trans k_P_0;replace k_P_1 : wd.cell? ⟨wa.heap.size,1,none⟩ = some (.slice rp (nlen (p).num.natAbs) cp) := (hb.cell (p := ⟨wa.heap.size,1,none⟩) hl_P).trans k_P_1;replace k_P_2 : wd.cell? ⟨wa.heap.size,2,none⟩ = some (.slice rp2 (nlen (p).den) cp2) := (hb.cell (p := ⟨wa.heap.size,2,none⟩) hl_P).trans k_P_2;replace f_P : ∀ o,wd.frozen? ⟨wa.heap.size,o,none⟩ = false := fun o => (hb.frozen (p := ⟨wa.heap.size,o,none⟩) hl_P).trans (f_P o);replace HX_P := Lib.hid (HX_P.out.below hb);replace k_Q_0 : wd.cell? ⟨wb.heap.size,0,none⟩ = some (.bool (decide ((p).num < 0))) := (hb.cell (p := ⟨wb.heap.size,0,none⟩) hl_Q).trans k_Q_0;replace k_Q_1 : wd.cell? ⟨wb.heap.size,1,none⟩ = some (.slice rq (nlen (p).num.natAbs) cq) := (hb.cell (p := ⟨wb.heap.size,1,none⟩) hl_Q).trans k_Q_1;replace k_Q_2 : wd.cell? ⟨wb.heap.size,2,none⟩ = some (.slice rq2 (nlen (p).den) cq2) := (hb.cell (p := ⟨wb.heap.size,2,none⟩) hl_Q).trans k_Q_2;replace f_Q : ∀ o,wd.frozen? ⟨wb.heap.size,o,none⟩ = false := fun o => (hb.frozen (p := ⟨wb.heap.size,o,none⟩) hl_Q).trans (f_Q o);replace HX_Q := Lib.hid (HX_Q.out.below hb);replace HP1 := Lib.hid (HP1.out.below hb);replace HP2 := Lib.hid (HP2.out.below hb);replace HQ1 := Lib.hid (HQ1.out.below hb);replace HQ2 := Lib.hid (HQ2.out.below hb);replace HB := Lib.hid (HB.out.trans (hb.mono hs0));replace hN : N ≤ wd.heap.size := Nat.le_trans hN hb.size;replace hs0 : w.heap.size ≤ wd.heap.size := Nat.le_trans hs0 hb.size;replace hl_T : w.heap.size < wd.heap.size := Nat.lt_of_lt_of_le hl_T hb.size;replace hl_P : wa.heap.size < wd.heap.size := Nat.lt_of_lt_of_le hl_P hb.size;replace hl_Q : wb.heap.size < wd.heap.size := Nat.lt_of_lt_of_le hl_Q hb.size;clear hb;skip)
      | (go_at_call 10;refine (SameRatio_any (N := N) _ _ _ _ _ _ _ _ _ _ _ _ _ _ (by exact hN) (by exact HP1.out) (by exact HQ1.out) (by exact HP2.out) (by exact HQ2.out)).mono ?_;rintro e we ⟨rfl,hb⟩;replace hb : Below wd.heap.size wd we := (by first | exact hb | exact bel_of_drew hb);have hs_we : wd.heap.size ≤ we.heap.size := hb.size;replace k_T_0 : we.cell? ⟨w.heap.size,0,none⟩ = some (.int .i64 ((a : Nat) : Int)) := (hb.cell (p := ⟨w.heap.size,0,none⟩) hl_T).trans k_T_0;replace k_T_1 : we.cell? ⟨w.heap.size,1,none⟩ = some (.int .i64 ((b : Nat) : Int)) := (hb.cell (p := ⟨w.heap.size,1,none⟩) hl_T).trans k_T_1;replace k_T_2 : we.cell? ⟨w.heap.size,2,none⟩ = some (.int .i64 ((c : Nat) : Int)) := (hb.cell (p := ⟨w.heap.size,2,none⟩) hl_T).trans k_T_2;replace k_T_3 : we.cell? ⟨w.heap.size,3,none⟩ = some (.int .i64 ((d : Nat) : Int)) := (hb.cell (p := ⟨w.heap.size,3,none⟩) hl_T).trans k_T_3;replace f_T : ∀ o,we.frozen? ⟨w.heap.size,o,none⟩ = false := fun o => (hb.frozen (p := ⟨w.heap.size,o,none⟩) hl_T).trans (f_T o);replace HX_T := Lib.hid (HX_T.out.below hb);replace k_P_0 : we.cell? ⟨wa.heap.size,0,none⟩ = some (.bool (decide ((p).num < 0))) := (hb.cell (p := ⟨wa.heap.size,0,none⟩) hl_P).trans k_P_0;replace k_P_1 : we.cell? ⟨wa.heap.size,1,none⟩ = some (.slice rp (nlen (p).num.natAbs) cp) := (hb.cell (p := ⟨wa.heap.size,1,none⟩) hl_P).trans k_P_1;replace k_P_2 : we.cell? ⟨wa.heap.size,2,none⟩ = some (.slice rp2 (nlen (p).den) cp2) := (hb.cell (p := ⟨wa.heap.size,2,none⟩) hl_P).trans k_P_2;replace f_P : ∀ o,we.frozen? ⟨wa.heap.size,o,none⟩ = false := fun o => (hb.frozen (p := ⟨wa.heap.size,o,none⟩) hl_P).trans (f_P o);replace HX_P := Lib.hid (HX_P.out.below hb);replace k_Q_0 : we.cell? ⟨wb.heap.size,0,none⟩ = some (.bool (decide ((p).num < 0))) := (hb.cell (p := ⟨wb.heap.size,0,none⟩) hl_Q).trans k_Q_0;replace k_Q_1 : we.cell? ⟨wb.heap.size,1,none⟩ = some (.slice rq (nlen (p).num.natAbs) cq) := (hb.cell (p := ⟨wb.heap.size,1,none⟩) hl_Q).trans k_Q_1;replace k_Q_2 : we.cell? ⟨wb.heap.size,2,none⟩ = some (.slice rq2 (nlen (p).den) cq2) := (hb.cell (p := ⟨wb.heap.size,2,none⟩) hl_Q).trans k_Q_2;replace f_Q : ∀ o,we.frozen? ⟨wb.heap.size,o,none⟩ = false := fun o => (hb.frozen (p := ⟨wb.heap.size,o,none⟩) hl_Q).trans (f_Q o);replace HX_Q := Lib.hid (HX_Q.out.below hb);replace HP1 := Lib.hid (HP1.out.below hb);replace HP2 := Lib.hid (HP2.out.below hb);replace HQ1 := Lib.hid (HQ1.out.below hb);replace HQ2 := Lib.hid (HQ2.out.below hb);replace HB := Lib.hid (HB.out.trans (hb.mono hs0));replace hN : N ≤ we.heap.size := Nat.le_trans hN hb.size;replace hs0 : w.heap.size ≤ we.heap.size := Nat.le_trans hs0 hb.size;replace hl_T : w.heap.size < we.heap.size := Nat.lt_of_lt_of_le hl_T hb.size;replace hl_P : wa.heap.size < we.heap.size := Nat.lt_of_lt_of_le hl_P hb.size;replace hl_Q : wb.heap.size < we.heap.size := Nat.lt_of_lt_of_le hl_Q hb.size;clear hb;skip))
  go_wp2_with fail
  clear hl_T f_T HX_T k_T_0 k_T_1 k_T_2 k_T_3
  clear HP1
  clear HP2
  clear HQ1
  clear HQ2
  refine calls_name fun W3 hW => ?_
  have HL_W3 := Lib.hid (show Below we.heap.size we W3 by rw [← hW];exact BlA)
  have hs_W3 : we.heap.size ≤ W3.heap.size := by rw [← hW];(first | omega | (simp;done) | (simp;omega))
  replace k_P_0 : W3.cell? ⟨wa.heap.size,0,none⟩ = some (.bool (decide ((p).num < 0))) := (HL_W3.out.cell (p := ⟨wa.heap.size,0,none⟩) hl_P).trans k_P_0
  replace k_P_1 : W3.cell? ⟨wa.heap.size,1,none⟩ = some (.slice rp (nlen (p).num.natAbs) cp) := (HL_W3.out.cell (p := ⟨wa.heap.size,1,none⟩) hl_P).trans k_P_1
  replace k_P_2 : W3.cell? ⟨wa.heap.size,2,none⟩ = some (.slice rp2 (nlen (p).den) cp2) := (HL_W3.out.cell (p := ⟨wa.heap.size,2,none⟩) hl_P).trans k_P_2
  replace f_P : ∀ o,W3.frozen? ⟨wa.heap.size,o,none⟩ = false := fun o => (HL_W3.out.frozen (p := ⟨wa.heap.size,o,none⟩) hl_P).trans (f_P o)
  replace HX_P := Lib.hid (show Bn W3 (wa.heap.size) by rw [← hW];exact KpA)
  replace k_Q_0 : W3.cell? ⟨wb.heap.size,0,none⟩ = some (.bool (decide ((p).num < 0))) := (HL_W3.out.cell (p := ⟨wb.heap.size,0,none⟩) hl_Q).trans k_Q_0
  replace k_Q_1 : W3.cell? ⟨wb.heap.size,1,none⟩ = some (.slice rq (nlen (p).num.natAbs) cq) := (HL_W3.out.cell (p := ⟨wb.heap.size,1,none⟩) hl_Q).trans k_Q_1
  replace k_Q_2 : W3.cell? ⟨wb.heap.size,2,none⟩ = some (.slice rq2 (nlen (p).den) cq2) := (HL_W3.out.cell (p := ⟨wb.heap.size,2,none⟩) hl_Q).trans k_Q_2
  replace f_Q : ∀ o,W3.frozen? ⟨wb.heap.size,o,none⟩ = false := fun o => (HL_W3.out.frozen (p := ⟨wb.heap.size,o,none⟩) hl_Q).trans (f_Q o)
  replace HX_Q := Lib.hid (show Bn W3 (wb.heap.size) by rw [← hW];exact KpA)
  replace HB := Lib.hid (show Below w.heap.size w W3 by rw [← hW];exact BlA)
  replace hN : N ≤ W3.heap.size := by rw [← hW];(first | omega | (simp;done) | (simp;omega))
  replace hs0 : w.heap.size ≤ W3.heap.size := by rw [← hW];(first | omega | (simp;done) | (simp;omega))
  replace hl_P : wa.heap.size < W3.heap.size := by rw [← hW];(first | omega | (simp;done) | (simp;omega))
  replace hl_Q : wb.heap.size < W3.heap.size := by rw [← hW];(first | omega | (simp;done) | (simp;omega))
  clear HL_W3
  clear hW
  refine (sign_bad x y _ hbad).mono ?_
  rintro e wf ⟨rfl,hb⟩
  have hs_wf : W3.heap.size ≤ wf.heap.size := hb.size
  replace k_P_0 : wf.cell? ⟨wa.heap.size,0,none⟩ = some (.bool (decide ((p).num < 0))) := (hb.cell (p := ⟨wa.heap.size,0,none⟩) hl_P).trans k_P_0
  replace k_P_1 : wf.cell? ⟨wa.heap.size,1,none⟩ = some (.slice rp (nlen (p).num.natAbs) cp) := (hb.cell (p := ⟨wa.heap.size,1,none⟩) hl_P).trans k_P_1
  replace k_P_2 : wf.cell? ⟨wa.heap.size,2,none⟩ = some (.slice rp2 (nlen (p).den) cp2) := (hb.cell (p := ⟨wa.heap.size,2,none⟩) hl_P).trans k_P_2
  replace f_P : ∀ o,wf.frozen? ⟨wa.heap.size,o,none⟩ = false := fun o => (hb.frozen (p := ⟨wa.heap.size,o,none⟩) hl_P).trans (f_P o)
  replace HX_P := Lib.hid (HX_P.out.below hb)
  replace k_Q_0 : wf.cell? ⟨wb.heap.size,0,none⟩ = some (.bool (decide ((p).num < 0))) := (hb.cell (p := ⟨wb.heap.size,0,none⟩) hl_Q).trans k_Q_0
  replace k_Q_1 : wf.cell? ⟨wb.heap.size,1,none⟩ = some (.slice rq (nlen (p).num.natAbs) cq) := (hb.cell (p := ⟨wb.heap.size,1,none⟩) hl_Q).trans k_Q_1
  replace k_Q_2 : wf.cell? ⟨wb.heap.size,2,none⟩ = some (.slice rq2 (nlen (p).den) cq2) := (hb.cell (p := ⟨wb.heap.size,2,none⟩) hl_Q).trans k_Q_2
  replace f_Q : ∀ o,wf.frozen? ⟨wb.heap.size,o,none⟩ = false := fun o => (hb.frozen (p := ⟨wb.heap.size,o,none⟩) hl_Q).trans (f_Q o)
  replace HX_Q := Lib.hid (HX_Q.out.below hb)
  replace HB := Lib.hid (HB.out.trans (hb.mono hs0))
  replace hN : N ≤ wf.heap.size := Nat.le_trans hN hb.size
  replace hs0 : w.heap.size ≤ wf.heap.size := Nat.le_trans hs0 hb.size
  replace hl_P : wa.heap.size < wf.heap.size := Nat.lt_of_lt_of_le hl_P hb.size
  replace hl_Q : wb.heap.size < wf.heap.size := Nat.lt_of_lt_of_le hl_Q hb.size
  clear hb
  go_wp2_with fail
  refine calls_name fun W4 hW => ?_
  have hs_W4 : wf.heap.size ≤ W4.heap.size := by rw [← hW];(first | omega | (simp;done) | (simp;omega))
  replace k_P_0 : W4.cell? ⟨wa.heap.size,0,none⟩ = some (.bool false) := by rw [← hW];(first | (go_simp;done) | (simp [go_sem,k_P_0];done) | (simp [go_sem,k_P_0,k_P_1,k_P_2];done) | (simp [go_sem,k_P_0,k_P_1,k_P_2,k_Q_0,k_Q_1,k_Q_2,f_P,f_Q,hl_P,hl_Q];done))
  replace k_P_1 : W4.cell? ⟨wa.heap.size,1,none⟩ = some (.slice none 0 0) := by rw [← hW];(first | (go_simp;done) | (simp [go_sem,k_P_1];done) | (simp [go_sem,k_P_0,k_P_1,k_P_2];done) | (simp [go_sem,k_P_0,k_P_1,k_P_2,k_Q_0,k_Q_1,k_Q_2,f_P,f_Q,hl_P,hl_Q];done))
  replace k_P_2 : W4.cell? ⟨wa.heap.size,2,none⟩ = some (.slice none 0 0) := by rw [← hW];(first | (go_simp;done) | (simp [go_sem,k_P_2];done) | (simp [go_sem,k_P_0,k_P_1,k_P_2];done) | (simp [go_sem,k_P_0,k_P_1,k_P_2,k_Q_0,k_Q_1,k_Q_2,f_P,f_Q,hl_P,hl_Q];done))
  replace f_P : ∀ o,W4.frozen? ⟨wa.heap.size,o,none⟩ = false := by intro o;rw [← hW];(first | with_reducible exact f_P o | (simp [go_sem,f_P];done) | (simp [go_sem,f_P,hl_P];done) | (go_simp;done) | (simp [go_sem,k_P_0,k_P_1,k_P_2,k_Q_0,k_Q_1,k_Q_2,f_P,f_Q,hl_P,hl_Q];done))
  replace HX_P := Lib.hid (show Bn W4 (wa.heap.size) by rw [← hW];exact KpA)
  replace k_Q_0 : W4.cell? ⟨wb.heap.size,0,none⟩ = some (.bool (decide ((p).num < 0))) := by rw [← hW];(first | with_reducible exact k_Q_0 | (simp [go_sem,k_Q_0];done) | (simp [go_sem,k_Q_0,hl_Q];done) | (go_simp;done) | (simp [go_sem,k_P_0,k_P_1,k_P_2,k_Q_0,k_Q_1,k_Q_2,f_P,f_Q,hl_P,hl_Q];done))
  replace k_Q_1 : W4.cell? ⟨wb.heap.size,1,none⟩ = some (.slice rq (nlen (p).num.natAbs) cq) := by rw [← hW];(first | with_reducible exact k_Q_1 | (simp [go_sem,k_Q_1];done) | (simp [go_sem,k_Q_1,hl_Q];done) | (go_simp;done) | (simp [go_sem,k_P_0,k_P_1,k_P_2,k_Q_0,k_Q_1,k_Q_2,f_P,f_Q,hl_P,hl_Q];done))
  replace k_Q_2 : W4.cell? ⟨wb.heap.size,2,none⟩ = some (.slice rq2 (nlen (p).den) cq2) := by rw [← hW];(first | with_reducible exact k_Q_2 | (simp [go_sem,k_Q_2];done) | (simp [go_sem,k_Q_2,hl_Q];done) | (go_simp;done) | (simp [go_sem,k_P_0,k_P_1,k_P_2,k_Q_0,k_Q_1,k_Q_2,f_P,f_Q,hl_P,hl_Q];done))
  replace f_Q : ∀ o,W4.frozen? ⟨wb.heap.size,o,none⟩ = false := by intro o;rw [← hW];(first | with_reducible exact f_Q o | (simp [go_sem,f_Q];done) | (simp [go_sem,f_Q,hl_Q];done) | (go_simp;done) | (simp [go_sem,k_P_0,k_P_1,k_P_2,k_Q_0,k_Q_1,k_Q_2,f_P,f_Q,hl_P,hl_Q];done))
  replace HX_Q := Lib.hid (show Bn W4 (wb.heap.size) by rw [← hW];exact KpA)
  replace HB := Lib.hid (show Below w.heap.size w W4 by rw [← hW];exact BlA)
  replace hN : N ≤ W4.heap.size := by rw [← hW];(first | omega | (simp;done) | (simp;omega))
  replace hs0 : w.heap.size ≤ W4.heap.size := by rw [← hW];(first | omega | (simp;done) | (simp;omega))
  replace hl_P : wa.heap.size < W4.heap.size := by rw [← hW];(first | omega | (simp;done) | (simp;omega))
  replace hl_Q : wb.heap.size < W4.heap.size := by rw [← hW];(first | omega | (simp;done) | (simp;omega))
  clear hW
  refine (xsign_bad x y _ hbad).mono ?_
  rintro e wg ⟨rfl,hb⟩
  have hs_wg : W4.heap.size ≤ wg.heap.size := hb.size
  replace k_P_0 : wg.cell? ⟨wa.heap.size,0,none⟩ = some (.bool false) := (hb.cell (p := ⟨wa.heap.size,0,none⟩) hl_P).trans k_P_0
  replace k_P_1 : wg.cell? ⟨wa.heap.size,1,none⟩ = some (.slice none 0 0) := (hb.cell (p := ⟨wa.heap.size,1,none⟩) hl_P).trans k_P_1
  replace k_P_2 : wg.cell? ⟨wa.heap.size,2,none⟩ = some (.slice none 0 0) := (hb.cell (p := ⟨wa.heap.size,2,none⟩) hl_P).trans k_P_2
  replace f_P : ∀ o,wg.frozen? ⟨wa.heap.size,o,none⟩ = false := fun o => (hb.frozen (p := ⟨wa.heap.size,o,none⟩) hl_P).trans (f_P o)
  replace HX_P := Lib.hid (HX_P.out.below hb)
  replace k_Q_0 : wg.cell? ⟨wb.heap.size,0,none⟩ = some (.bool (decide ((p).num < 0))) := (hb.cell (p := ⟨wb.heap.size,0,none⟩) hl_Q).trans k_Q_0
  replace k_Q_1 : wg.cell? ⟨wb.heap.size,1,none⟩ = some (.slice rq (nlen (p).num.natAbs) cq) := (hb.cell (p := ⟨wb.heap.size,1,none⟩) hl_Q).trans k_Q_1
  replace k_Q_2 : wg.cell? ⟨wb.heap.size,2,none⟩ = some (.slice rq2 (nlen (p).den) cq2) := (hb.cell (p := ⟨wb.heap.size,2,none⟩) hl_Q).trans k_Q_2
  replace f_Q : ∀ o,wg.frozen? ⟨wb.heap.size,o,none⟩ = false := fun o => (hb.frozen (p := ⟨wb.heap.size,o,none⟩) hl_Q).trans (f_Q o)
  replace HX_Q := Lib.hid (HX_Q.out.below hb)
  replace HB := Lib.hid (HB.out.trans (hb.mono hs0))
  replace hN : N ≤ wg.heap.size := Nat.le_trans hN hb.size
  replace hs0 : w.heap.size ≤ wg.heap.size := Nat.le_trans hs0 hb.size
  replace hl_P : wa.heap.size < wg.heap.size := Nat.lt_of_lt_of_le hl_P hb.size
  replace hl_Q : wb.heap.size < wg.heap.size := Nat.lt_of_lt_of_le hl_Q hb.size
  clear hb
  go_wp2_with fail
  refine calls_name fun W5 hW => ?_
  have hs_W5 : wg.heap.size ≤ W5.heap.size := by rw [← hW];(first | omega | (simp;done) | (simp;omega))
  have HU1 := Lib.hid (Nt.zero N W5)
  have HU2 := Lib.hid (Nt.zero N W5)
  have HV1 := Lib.hid (Nt.zero N W5)
  have HV2 := Lib.hid (Nt.zero N W5)
  replace k_P_0 : W5.cell? ⟨wa.heap.size,0,none⟩ = some (.bool false) := by rw [← hW];(first | with_reducible exact k_P_0 | (simp [go_sem,k_P_0];done) | (simp [go_sem,k_P_0,hl_P];done) | (go_simp;done) | (simp [go_sem,k_P_0,k_P_1,k_P_2,k_Q_0,k_Q_1,k_Q_2,f_P,f_Q,hl_P,hl_Q];done))
  replace k_P_1 : W5.cell? ⟨wa.heap.size,1,none⟩ = some (.slice none 0 0) := by rw [← hW];(first | with_reducible exact k_P_1 | (simp [go_sem,k_P_1];done) | (simp [go_sem,k_P_1,hl_P];done) | (go_simp;done) | (simp [go_sem,k_P_0,k_P_1,k_P_2,k_Q_0,k_Q_1,k_Q_2,f_P,f_Q,hl_P,hl_Q];done))
  replace k_P_2 : W5.cell? ⟨wa.heap.size,2,none⟩ = some (.slice none 0 0) := by rw [← hW];(first | with_reducible exact k_P_2 | (simp [go_sem,k_P_2];done) | (simp [go_sem,k_P_2,hl_P];done) | (go_simp;done) | (simp [go_sem,k_P_0,k_P_1,k_P_2,k_Q_0,k_Q_1,k_Q_2,f_P,f_Q,hl_P,hl_Q];done))
  replace f_P : ∀ o,W5.frozen? ⟨wa.heap.size,o,none⟩ = false := by intro o;rw [← hW];(first | with_reducible exact f_P o | (simp [go_sem,f_P];done) | (simp [go_sem,f_P,hl_P];done) | (go_simp;done) | (simp [go_sem,k_P_0,k_P_1,k_P_2,k_Q_0,k_Q_1,k_Q_2,f_P,f_Q,hl_P,hl_Q];done))
  replace HX_P := Lib.hid (show Bn W5 (wa.heap.size) by rw [← hW];exact KpA)
  replace k_Q_0 : W5.cell? ⟨wb.heap.size,0,none⟩ = some (.bool false) := by rw [← hW];(first | (go_simp;done) | (simp [go_sem,k_Q_0];done) | (simp [go_sem,k_Q_0,k_Q_1,k_Q_2];done) | (simp [go_sem,k_P_0,k_P_1,k_P_2,k_Q_0,k_Q_1,k_Q_2,f_P,f_Q,hl_P,hl_Q];done))
  replace k_Q_1 : W5.cell? ⟨wb.heap.size,1,none⟩ = some (.slice none 0 0) := by rw [← hW];(first | (go_simp;done) | (simp [go_sem,k_Q_1];done) | (simp [go_sem,k_Q_0,k_Q_1,k_Q_2];done) | (simp [go_sem,k_P_0,k_P_1,k_P_2,k_Q_0,k_Q_1,k_Q_2,f_P,f_Q,hl_P,hl_Q];done))
  replace k_Q_2 : W5.cell? ⟨wb.heap.size,2,none⟩ = some (.slice none 0 0) := by rw [← hW];(first | (go_simp;done) | (simp [go_sem,k_Q_2];done) | (simp [go_sem,k_Q_0,k_Q_1,k_Q_2];done) | (simp [go_sem,k_P_0,k_P_1,k_P_2,k_Q_0,k_Q_1,k_Q_2,f_P,f_Q,hl_P,hl_Q];done))
  replace f_Q : ∀ o,W5.frozen? ⟨wb.heap.size,o,none⟩ = false := by intro o;rw [← hW];(first | with_reducible exact f_Q o | (simp [go_sem,f_Q];done) | (simp [go_sem,f_Q,hl_Q];done) | (go_simp;done) | (simp [go_sem,k_P_0,k_P_1,k_P_2,k_Q_0,k_Q_1,k_Q_2,f_P,f_Q,hl_P,hl_Q];done))
  replace HX_Q := Lib.hid (show Bn W5 (wb.heap.size) by rw [← hW];exact KpA)
  replace HB := Lib.hid (show Below w.heap.size w W5 by rw [← hW];exact BlA)
  replace hN : N ≤ W5.heap.size := by rw [← hW];(first | omega | (simp;done) | (simp;omega))
  replace hs0 : w.heap.size ≤ W5.heap.size := by rw [← hW];(first | omega | (simp;done) | (simp;omega))
  replace hl_P : wa.heap.size < W5.heap.size := by rw [← hW];(first | omega | (simp;done) | (simp;omega))
  replace hl_Q : wb.heap.size < W5.heap.size := by rw [← hW];(first | omega | (simp;done) | (simp;omega))
  clear hW
  refine (SameRatio_any (N := N) _ _ _ _ _ _ _ _ _ _ _ _ _ _ (hN) (HU1.out) (HV1.out) (HU2.out) (HV2.out)).mono ?_
  rintro e wh ⟨rfl,hb⟩
  have hs_wh : W5.heap.size ≤ wh.heap.size := hb.size
  replace k_P_0 : wh.cell? ⟨wa.heap.size,0,none⟩ = some (.bool false) := (hb.cell (p := ⟨wa.heap.size,0,none⟩) hl_P).trans k_P_0
  replace k_P_1 : wh.cell? ⟨wa.heap.size,1,none⟩ = some (.slice none 0 0) := (hb.cell (p := ⟨wa.heap.size,1,none⟩) hl_P).trans k_P_1
  replace k_P_2 : wh.cell? ⟨wa.heap.size,2,none⟩ = some (.slice none 0 0) := (hb.cell (p := ⟨wa.heap.size,2,none⟩) hl_P).trans k_P_2
  replace f_P : ∀ o,wh.frozen? ⟨wa.heap.size,o,none⟩ = false := fun o => (hb.frozen (p := ⟨wa.heap.size,o,none⟩) hl_P).trans (f_P o)
  replace HX_P := Lib.hid (HX_P.out.below hb)
  replace k_Q_0 : wh.cell? ⟨wb.heap.size,0,none⟩ = some (.bool false) := (hb.cell (p := ⟨wb.heap.size,0,none⟩) hl_Q).trans k_Q_0
  replace k_Q_1 : wh.cell? ⟨wb.heap.size,1,none⟩ = some (.slice none 0 0) := (hb.cell (p := ⟨wb.heap.size,1,none⟩) hl_Q).trans k_Q_1
  replace k_Q_2 : wh.cell? ⟨wb.heap.size,2,none⟩ = some (.slice none 0 0) := (hb.cell (p := ⟨wb.heap.size,2,none⟩) hl_Q).trans k_Q_2
  replace f_Q : ∀ o,wh.frozen? ⟨wb.heap.size,o,none⟩ = false := fun o => (hb.frozen (p := ⟨wb.heap.size,o,none⟩) hl_Q).trans (f_Q o)
  replace HX_Q := Lib.hid (HX_Q.out.below hb)
  replace HB := Lib.hid (HB.out.trans (hb.mono hs0))
  replace hN : N ≤ wh.heap.size := Nat.le_trans hN hb.size
  replace hs0 : w.heap.size ≤ wh.heap.size := Nat.le_trans hs0 hb.size
  replace hl_P : wa.heap.size < wh.heap.size := Nat.lt_of_lt_of_le hl_P hb.size
  replace hl_Q : wb.heap.size < wh.heap.size := Nat.lt_of_lt_of_le hl_Q hb.size
  clear hb
  go_wp2_with fail
  refine calls_name fun W6 hW => ?_
  have HL_W6 := Lib.hid (show Below wh.heap.size wh W6 by rw [← hW];exact BlA)
  have hs_W6 : wh.heap.size ≤ W6.heap.size := by rw [← hW];(first | omega | (simp;done) | (simp;omega))
  replace k_P_0 : W6.cell? ⟨wa.heap.size,0,none⟩ = some (.bool false) := (HL_W6.out.cell (p := ⟨wa.heap.size,0,none⟩) hl_P).trans k_P_0
  replace k_P_1 : W6.cell? ⟨wa.heap.size,1,none⟩ = some (.slice none 0 0) := (HL_W6.out.cell (p := ⟨wa.heap.size,1,none⟩) hl_P).trans k_P_1
  replace k_P_2 : W6.cell? ⟨wa.heap.size,2,none⟩ = some (.slice none 0 0) := (HL_W6.out.cell (p := ⟨wa.heap.size,2,none⟩) hl_P).trans k_P_2
  replace f_P : ∀ o,W6.frozen? ⟨wa.heap.size,o,none⟩ = false := fun o => (HL_W6.out.frozen (p := ⟨wa.heap.size,o,none⟩) hl_P).trans (f_P o)
  replace HX_P := Lib.hid (show Bn W6 (wa.heap.size) by rw [← hW];exact KpA)
  replace k_Q_0 : W6.cell? ⟨wb.heap.size,0,none⟩ = some (.bool false) := (HL_W6.out.cell (p := ⟨wb.heap.size,0,none⟩) hl_Q).trans k_Q_0
  replace k_Q_1 : W6.cell? ⟨wb.heap.size,1,none⟩ = some (.slice none 0 0) := (HL_W6.out.cell (p := ⟨wb.heap.size,1,none⟩) hl_Q).trans k_Q_1
  replace k_Q_2 : W6.cell? ⟨wb.heap.size,2,none⟩ = some (.slice none 0 0) := (HL_W6.out.cell (p := ⟨wb.heap.size,2,none⟩) hl_Q).trans k_Q_2
  replace f_Q : ∀ o,W6.frozen? ⟨wb.heap.size,o,none⟩ = false := fun o => (HL_W6.out.frozen (p := ⟨wb.heap.size,o,none⟩) hl_Q).trans (f_Q o)
  replace HX_Q := Lib.hid (show Bn W6 (wb.heap.size) by rw [← hW];exact KpA)
  replace HB := Lib.hid (show Below w.heap.size w W6 by rw [← hW];exact BlA)
  replace hN : N ≤ W6.heap.size := by rw [← hW];(first | omega | (simp;done) | (simp;omega))
  replace hs0 : w.heap.size ≤ W6.heap.size := by rw [← hW];(first | omega | (simp;done) | (simp;omega))
  replace hl_P : wa.heap.size < W6.heap.size := by rw [← hW];(first | omega | (simp;done) | (simp;omega))
  replace hl_Q : wb.heap.size < W6.heap.size := by rw [← hW];(first | omega | (simp;done) | (simp;omega))
  clear HL_W6
  clear hW
  refine (dawake_any (N := N) _ hN (HTw.out.below HB.out)).mono ?_
  rintro e wi ⟨rfl,hb⟩
  have hs_wi : W6.heap.size ≤ wi.heap.size := hb.size
  replace k_P_0 : wi.cell? ⟨wa.heap.size,0,none⟩ = some (.bool false) := (hb.cell (p := ⟨wa.heap.size,0,none⟩) hl_P).trans k_P_0
  replace k_P_1 : wi.cell? ⟨wa.heap.size,1,none⟩ = some (.slice none 0 0) := (hb.cell (p := ⟨wa.heap.size,1,none⟩) hl_P).trans k_P_1
  replace k_P_2 : wi.cell? ⟨wa.heap.size,2,none⟩ = some (.slice none 0 0) := (hb.cell (p := ⟨wa.heap.size,2,none⟩) hl_P).trans k_P_2
  replace f_P : ∀ o,wi.frozen? ⟨wa.heap.size,o,none⟩ = false := fun o => (hb.frozen (p := ⟨wa.heap.size,o,none⟩) hl_P).trans (f_P o)
  replace HX_P := Lib.hid (HX_P.out.below hb)
  replace k_Q_0 : wi.cell? ⟨wb.heap.size,0,none⟩ = some (.bool false) := (hb.cell (p := ⟨wb.heap.size,0,none⟩) hl_Q).trans k_Q_0
  replace k_Q_1 : wi.cell? ⟨wb.heap.size,1,none⟩ = some (.slice none 0 0) := (hb.cell (p := ⟨wb.heap.size,1,none⟩) hl_Q).trans k_Q_1
  replace k_Q_2 : wi.cell? ⟨wb.heap.size,2,none⟩ = some (.slice none 0 0) := (hb.cell (p := ⟨wb.heap.size,2,none⟩) hl_Q).trans k_Q_2
  replace f_Q : ∀ o,wi.frozen? ⟨wb.heap.size,o,none⟩ = false := fun o => (hb.frozen (p := ⟨wb.heap.size,o,none⟩) hl_Q).trans (f_Q o)
  replace HX_Q := Lib.hid (HX_Q.out.below hb)
  replace HB := Lib.hid (HB.out.trans (hb.mono hs0))
  replace hN : N ≤ wi.heap.size := Nat.le_trans hN hb.size
  replace hs0 : w.heap.size ≤ wi.heap.size := Nat.le_trans hs0 hb.size
  replace hl_P : wa.heap.size < wi.heap.size := Nat.lt_of_lt_of_le hl_P hb.size
  replace hl_Q : wb.heap.size < wi.heap.size := Nat.lt_of_lt_of_le hl_Q hb.size
  clear hb
  go_wp2_with fail
  go_ret
  exact ⟨rfl,HB.out⟩
set_option maxHeartbeats 8000000 in
set_option maxRecDepth 100000 in
theorem dtst_ny {N : Nat} (a b c d : Int) (hv : vldT a b c d = false) (x y : Nat) (hx : x ≤ 60) (hy : y ≤ 60) (w : World) (hN : N ≤ w.heap.size) (htab : TabW w) :
    Calls Tryz.prog 3 #[.agg #[.int .i64 a,.int .i64 b,.int .i64 c,.int .i64 d],.int .i64 ((x : Nat) : Int),.int .i64 ((y : Nat) : Int)] w fun e w' => e = .returned (.bool true) ∧ Below w.heap.size w w' := by
  have HV := Lib.hid hv
  clear hv
  obtain ⟨p9,hp9⟩ : ∃ p,signQ (x + y) x = p := ⟨_,rfl⟩
  have HP9 := Lib.hid hp9
  clear hp9
  have HTw := Lib.hid htab
  clear htab
  have hN0 := hN
  have HB := Lib.hid (Below.refl w.heap.size w)
  go_enter Tryz.func3,Tryz.ntmps3
  go_wp2_with fail
  refine calls_name fun W0 hW => ?_
  have hs_W0 : w.heap.size ≤ W0.heap.size := by rw [← hW];(first | omega | (simp;done) | (simp;omega))
  have k_T_0 : W0.cell? ⟨w.heap.size,0,none⟩ = some (.int .i64 a) := by rw [← hW];(first | (go_simp;done) | (simp;done) | (simp [go_sem];done) | (simp [go_sem];done))
  have k_T_1 : W0.cell? ⟨w.heap.size,1,none⟩ = some (.int .i64 b) := by rw [← hW];(first | (go_simp;done) | (simp;done) | (simp [go_sem];done) | (simp [go_sem];done))
  have k_T_2 : W0.cell? ⟨w.heap.size,2,none⟩ = some (.int .i64 c) := by rw [← hW];(first | (go_simp;done) | (simp;done) | (simp [go_sem];done) | (simp [go_sem];done))
  have k_T_3 : W0.cell? ⟨w.heap.size,3,none⟩ = some (.int .i64 d) := by rw [← hW];(first | (go_simp;done) | (simp;done) | (simp [go_sem];done) | (simp [go_sem];done))
  have f_T : ∀ o,W0.frozen? ⟨w.heap.size,o,none⟩ = false := by intro o;rw [← hW];(first | (go_simp;done) | (simp;done) | (simp [go_sem];done) | (simp [go_sem];done))
  have HX_T := Lib.hid (show Bn W0 (w.heap.size) by rw [← hW];exact KpA)
  replace HB := Lib.hid (show Below w.heap.size w W0 by rw [← hW];exact BlA)
  replace hN : N ≤ W0.heap.size := by rw [← hW];(first | omega | (simp;done) | (simp;omega))
  have hs0 : w.heap.size ≤ W0.heap.size := by rw [← hW];(first | omega | (simp;done) | (simp;omega))
  have hl_T : w.heap.size < W0.heap.size := by rw [← hW];(first | omega | (simp;done) | (simp;omega))
  clear hW
  refine (fisher_bad (N := N) a b c d _ hN HV.out).mono ?_
  rintro e wa ⟨rfl,hb⟩
  have hs_wa : W0.heap.size ≤ wa.heap.size := hb.size
  replace k_T_0 : wa.cell? ⟨w.heap.size,0,none⟩ = some (.int .i64 a) := (hb.cell (p := ⟨w.heap.size,0,none⟩) hl_T).trans k_T_0
  replace k_T_1 : wa.cell? ⟨w.heap.size,1,none⟩ = some (.int .i64 b) := (hb.cell (p := ⟨w.heap.size,1,none⟩) hl_T).trans k_T_1
  replace k_T_2 : wa.cell? ⟨w.heap.size,2,none⟩ = some (.int .i64 c) := (hb.cell (p := ⟨w.heap.size,2,none⟩) hl_T).trans k_T_2
  replace k_T_3 : wa.cell? ⟨w.heap.size,3,none⟩ = some (.int .i64 d) := (hb.cell (p := ⟨w.heap.size,3,none⟩) hl_T).trans k_T_3
  replace f_T : ∀ o,wa.frozen? ⟨w.heap.size,o,none⟩ = false := fun o => (hb.frozen (p := ⟨w.heap.size,o,none⟩) hl_T).trans (f_T o)
  replace HX_T := Lib.hid (HX_T.out.below hb)
  replace HB := Lib.hid (HB.out.trans (hb.mono hs0))
  replace hN : N ≤ wa.heap.size := Nat.le_trans hN hb.size
  replace hs0 : w.heap.size ≤ wa.heap.size := Nat.le_trans hs0 hb.size
  replace hl_T : w.heap.size < wa.heap.size := Nat.lt_of_lt_of_le hl_T hb.size
  clear hb
  go_wp2_with fail
  refine calls_name fun W1 hW => ?_
  have HL_W1 := Lib.hid (show Below wa.heap.size wa W1 by rw [← hW];exact BlA)
  have hs_W1 : wa.heap.size ≤ W1.heap.size := by rw [← hW];(first | omega | (simp;done) | (simp;omega))
  have hd_T_P : w.heap.size < wa.heap.size := by omega
  replace k_T_0 : W1.cell? ⟨w.heap.size,0,none⟩ = some (.int .i64 a) := (HL_W1.out.cell (p := ⟨w.heap.size,0,none⟩) hl_T).trans k_T_0
  replace k_T_1 : W1.cell? ⟨w.heap.size,1,none⟩ = some (.int .i64 b) := (HL_W1.out.cell (p := ⟨w.heap.size,1,none⟩) hl_T).trans k_T_1
  replace k_T_2 : W1.cell? ⟨w.heap.size,2,none⟩ = some (.int .i64 c) := (HL_W1.out.cell (p := ⟨w.heap.size,2,none⟩) hl_T).trans k_T_2
  replace k_T_3 : W1.cell? ⟨w.heap.size,3,none⟩ = some (.int .i64 d) := (HL_W1.out.cell (p := ⟨w.heap.size,3,none⟩) hl_T).trans k_T_3
  replace f_T : ∀ o,W1.frozen? ⟨w.heap.size,o,none⟩ = false := fun o => (HL_W1.out.frozen (p := ⟨w.heap.size,o,none⟩) hl_T).trans (f_T o)
  replace HX_T := Lib.hid (show Bn W1 (w.heap.size) by rw [← hW];exact KpA)
  have k_P_0 : W1.cell? ⟨wa.heap.size,0,none⟩ = some (.bool false) := by rw [← hW];(first | (go_simp;done) | (simp;done) | (simp [go_sem];done) | (simp [go_sem,k_T_0,k_T_1,k_T_2,k_T_3,f_T,hl_T];done))
  have k_P_1 : W1.cell? ⟨wa.heap.size,1,none⟩ = some (.slice none 0 0) := by rw [← hW];(first | (go_simp;done) | (simp;done) | (simp [go_sem];done) | (simp [go_sem,k_T_0,k_T_1,k_T_2,k_T_3,f_T,hl_T];done))
  have k_P_2 : W1.cell? ⟨wa.heap.size,2,none⟩ = some (.slice none 0 0) := by rw [← hW];(first | (go_simp;done) | (simp;done) | (simp [go_sem];done) | (simp [go_sem,k_T_0,k_T_1,k_T_2,k_T_3,f_T,hl_T];done))
  have f_P : ∀ o,W1.frozen? ⟨wa.heap.size,o,none⟩ = false := by intro o;rw [← hW];(first | (go_simp;done) | (simp;done) | (simp [go_sem];done) | (simp [go_sem,k_T_0,k_T_1,k_T_2,k_T_3,f_T,hl_T];done))
  have HX_P := Lib.hid (show Bn W1 (wa.heap.size) by rw [← hW];exact KpA)
  replace HB := Lib.hid (show Below w.heap.size w W1 by rw [← hW];exact BlA)
  replace hN : N ≤ W1.heap.size := by rw [← hW];(first | omega | (simp;done) | (simp;omega))
  replace hs0 : w.heap.size ≤ W1.heap.size := by rw [← hW];(first | omega | (simp;done) | (simp;omega))
  replace hl_T : w.heap.size < W1.heap.size := by rw [← hW];(first | omega | (simp;done) | (simp;omega))
  have hl_P : wa.heap.size < W1.heap.size := by rw [← hW];(first | omega | (simp;done) | (simp;omega))
  clear HL_W1
  clear hW
  refine (xfisher_bad (N := N) a b c d _ hN HV.out).mono ?_
  rintro e wb ⟨rfl,hb⟩
  have hs_wb : W1.heap.size ≤ wb.heap.size := hb.size
  replace k_T_0 : wb.cell? ⟨w.heap.size,0,none⟩ = some (.int .i64 a) := (hb.cell (p := ⟨w.heap.size,0,none⟩) hl_T).trans k_T_0
  replace k_T_1 : wb.cell? ⟨w.heap.size,1,none⟩ = some (.int .i64 b) := (hb.cell (p := ⟨w.heap.size,1,none⟩) hl_T).trans k_T_1
  replace k_T_2 : wb.cell? ⟨w.heap.size,2,none⟩ = some (.int .i64 c) := (hb.cell (p := ⟨w.heap.size,2,none⟩) hl_T).trans k_T_2
  replace k_T_3 : wb.cell? ⟨w.heap.size,3,none⟩ = some (.int .i64 d) := (hb.cell (p := ⟨w.heap.size,3,none⟩) hl_T).trans k_T_3
  replace f_T : ∀ o,wb.frozen? ⟨w.heap.size,o,none⟩ = false := fun o => (hb.frozen (p := ⟨w.heap.size,o,none⟩) hl_T).trans (f_T o)
  replace HX_T := Lib.hid (HX_T.out.below hb)
  replace k_P_0 : wb.cell? ⟨wa.heap.size,0,none⟩ = some (.bool false) := (hb.cell (p := ⟨wa.heap.size,0,none⟩) hl_P).trans k_P_0
  replace k_P_1 : wb.cell? ⟨wa.heap.size,1,none⟩ = some (.slice none 0 0) := (hb.cell (p := ⟨wa.heap.size,1,none⟩) hl_P).trans k_P_1
  replace k_P_2 : wb.cell? ⟨wa.heap.size,2,none⟩ = some (.slice none 0 0) := (hb.cell (p := ⟨wa.heap.size,2,none⟩) hl_P).trans k_P_2
  replace f_P : ∀ o,wb.frozen? ⟨wa.heap.size,o,none⟩ = false := fun o => (hb.frozen (p := ⟨wa.heap.size,o,none⟩) hl_P).trans (f_P o)
  replace HX_P := Lib.hid (HX_P.out.below hb)
  replace HB := Lib.hid (HB.out.trans (hb.mono hs0))
  replace hN : N ≤ wb.heap.size := Nat.le_trans hN hb.size
  replace hs0 : w.heap.size ≤ wb.heap.size := Nat.le_trans hs0 hb.size
  replace hl_T : w.heap.size < wb.heap.size := Nat.lt_of_lt_of_le hl_T hb.size
  replace hl_P : wa.heap.size < wb.heap.size := Nat.lt_of_lt_of_le hl_P hb.size
  clear hb
  go_wp2_with fail
  refine region_name fun W2 hW => ?_
  have HL_W2 := Lib.hid (show Below wb.heap.size wb W2 by rw [← hW];exact BlA)
  have hs_W2 : wb.heap.size ≤ W2.heap.size := by rw [← hW];(first | omega | (simp;done) | (simp;omega))
  have hd_T_Q : w.heap.size < wb.heap.size := by omega
  have hd_P_Q : wa.heap.size < wb.heap.size := by omega
  have HP1 := Lib.hid (Nt.zero N W2)
  have HP2 := Lib.hid (Nt.zero N W2)
  have HQ1 := Lib.hid (Nt.zero N W2)
  have HQ2 := Lib.hid (Nt.zero N W2)
  replace k_T_0 : W2.cell? ⟨w.heap.size,0,none⟩ = some (.int .i64 a) := (HL_W2.out.cell (p := ⟨w.heap.size,0,none⟩) hl_T).trans k_T_0
  replace k_T_1 : W2.cell? ⟨w.heap.size,1,none⟩ = some (.int .i64 b) := (HL_W2.out.cell (p := ⟨w.heap.size,1,none⟩) hl_T).trans k_T_1
  replace k_T_2 : W2.cell? ⟨w.heap.size,2,none⟩ = some (.int .i64 c) := (HL_W2.out.cell (p := ⟨w.heap.size,2,none⟩) hl_T).trans k_T_2
  replace k_T_3 : W2.cell? ⟨w.heap.size,3,none⟩ = some (.int .i64 d) := (HL_W2.out.cell (p := ⟨w.heap.size,3,none⟩) hl_T).trans k_T_3
  replace f_T : ∀ o,W2.frozen? ⟨w.heap.size,o,none⟩ = false := fun o => (HL_W2.out.frozen (p := ⟨w.heap.size,o,none⟩) hl_T).trans (f_T o)
  replace HX_T := Lib.hid (show Bn W2 (w.heap.size) by rw [← hW];exact KpA)
  replace k_P_0 : W2.cell? ⟨wa.heap.size,0,none⟩ = some (.bool false) := (HL_W2.out.cell (p := ⟨wa.heap.size,0,none⟩) hl_P).trans k_P_0
  replace k_P_1 : W2.cell? ⟨wa.heap.size,1,none⟩ = some (.slice none 0 0) := (HL_W2.out.cell (p := ⟨wa.heap.size,1,none⟩) hl_P).trans k_P_1
  replace k_P_2 : W2.cell? ⟨wa.heap.size,2,none⟩ = some (.slice none 0 0) := (HL_W2.out.cell (p := ⟨wa.heap.size,2,none⟩) hl_P).trans k_P_2
  replace f_P : ∀ o,W2.frozen? ⟨wa.heap.size,o,none⟩ = false := fun o => (HL_W2.out.frozen (p := ⟨wa.heap.size,o,none⟩) hl_P).trans (f_P o)
  replace HX_P := Lib.hid (show Bn W2 (wa.heap.size) by rw [← hW];exact KpA)
  have k_Q_0 : W2.cell? ⟨wb.heap.size,0,none⟩ = some (.bool false) := by rw [← hW];(first | (go_simp;done) | (simp;done) | (simp [go_sem];done) | (simp [go_sem,k_T_0,k_T_1,k_T_2,k_T_3,k_P_0,k_P_1,k_P_2,f_T,f_P,hl_T,hl_P];done))
  have k_Q_1 : W2.cell? ⟨wb.heap.size,1,none⟩ = some (.slice none 0 0) := by rw [← hW];(first | (go_simp;done) | (simp;done) | (simp [go_sem];done) | (simp [go_sem,k_T_0,k_T_1,k_T_2,k_T_3,k_P_0,k_P_1,k_P_2,f_T,f_P,hl_T,hl_P];done))
  have k_Q_2 : W2.cell? ⟨wb.heap.size,2,none⟩ = some (.slice none 0 0) := by rw [← hW];(first | (go_simp;done) | (simp;done) | (simp [go_sem];done) | (simp [go_sem,k_T_0,k_T_1,k_T_2,k_T_3,k_P_0,k_P_1,k_P_2,f_T,f_P,hl_T,hl_P];done))
  have f_Q : ∀ o,W2.frozen? ⟨wb.heap.size,o,none⟩ = false := by intro o;rw [← hW];(first | (go_simp;done) | (simp;done) | (simp [go_sem];done) | (simp [go_sem,k_T_0,k_T_1,k_T_2,k_T_3,k_P_0,k_P_1,k_P_2,f_T,f_P,hl_T,hl_P];done))
  have HX_Q := Lib.hid (show Bn W2 (wb.heap.size) by rw [← hW];exact KpA)
  replace HB := Lib.hid (show Below w.heap.size w W2 by rw [← hW];exact BlA)
  replace hN : N ≤ W2.heap.size := by rw [← hW];(first | omega | (simp;done) | (simp;omega))
  replace hs0 : w.heap.size ≤ W2.heap.size := by rw [← hW];(first | omega | (simp;done) | (simp;omega))
  replace hl_T : w.heap.size < W2.heap.size := by rw [← hW];(first | omega | (simp;done) | (simp;omega))
  replace hl_P : wa.heap.size < W2.heap.size := by rw [← hW];(first | omega | (simp;done) | (simp;omega))
  have hl_Q : wb.heap.size < W2.heap.size := by rw [← hW];(first | omega | (simp;done) | (simp;omega))
  clear HL_W2
  clear hW
  go_region_held3 (fun w' => w'.cell? ⟨w.heap.size,0,none⟩ = some (.int .i64 a) ∧ w'.cell? ⟨w.heap.size,1,none⟩ = some (.int .i64 b) ∧ w'.cell? ⟨w.heap.size,2,none⟩ = some (.int .i64 c) ∧ w'.cell? ⟨w.heap.size,3,none⟩ = some (.int .i64 d) ∧ w'.cell? ⟨wa.heap.size,0,none⟩ = some (.bool false) ∧ w'.cell? ⟨wa.heap.size,1,none⟩ = some (.slice none 0 0) ∧ w'.cell? ⟨wa.heap.size,2,none⟩ = some (.slice none 0 0) ∧ w'.cell? ⟨wb.heap.size,0,none⟩ = some (.bool false) ∧ w'.cell? ⟨wb.heap.size,1,none⟩ = some (.slice none 0 0) ∧ w'.cell? ⟨wb.heap.size,2,none⟩ = some (.slice none 0 0))
    (first | (go_keep;done) | ((try dsimp only);(repeat' apply And.intro) <;> (first | (go_keep;done) | (exact cell_keep_alloc_drew (by first | omega | (simp;omega)) (by first | assumption | go_simp)) | (exact cell_keep_alloc (by first | omega | (simp;omega)) (by first | assumption | go_simp)) | (rw [cell_set2 _ _ _ _ _ _ _ _ (by omega)];assumption) | (rw [cell_set3 _ _ _ _ _ _ _ _ _ _ (by omega)];assumption))))
    (first
      | (go_at_call 8;refine (dvalid_any _ _ _ _ _ false HV.out).mono ?_;rintro e wc ⟨rfl,hb⟩;replace hb : Below W2.heap.size W2 wc := (by first | exact hb | exact bel_of_drew hb);have hs_wc : W2.heap.size ≤ wc.heap.size := hb.size;replace k_T_0 : wc.cell? ⟨w.heap.size,0,none⟩ = some (.int .i64 a) := (hb.cell (p := ⟨w.heap.size,0,none⟩) hl_T).trans k_T_0;replace k_T_1 : wc.cell? ⟨w.heap.size,1,none⟩ = some (.int .i64 b) := (hb.cell (p := ⟨w.heap.size,1,none⟩) hl_T).trans k_T_1;replace k_T_2 : wc.cell? ⟨w.heap.size,2,none⟩ = some (.int .i64 c) := (hb.cell (p := ⟨w.heap.size,2,none⟩) hl_T).trans k_T_2;replace k_T_3 : wc.cell? ⟨w.heap.size,3,none⟩ = some (.int .i64 d) := (hb.cell (p := ⟨w.heap.size,3,none⟩) hl_T).trans k_T_3;replace f_T : ∀ o,wc.frozen? ⟨w.heap.size,o,none⟩ = false := fun o => (hb.frozen (p := ⟨w.heap.size,o,none⟩) hl_T).trans (f_T o);replace HX_T := Lib.hid (HX_T.out.below hb);replace k_P_0 : wc.cell? ⟨wa.heap.size,0,none⟩ = some (.bool false) := (hb.cell (p := ⟨wa.heap.size,0,none⟩) hl_P).trans k_P_0;replace k_P_1 : wc.cell? ⟨wa.heap.size,1,none⟩ = some (.slice none 0 0) := (hb.cell (p := ⟨wa.heap.size,1,none⟩) hl_P).trans k_P_1;replace k_P_2 : wc.cell? ⟨wa.heap.size,2,none⟩ = some (.slice none 0 0) := (hb.cell (p := ⟨wa.heap.size,2,none⟩) hl_P).trans k_P_2;replace f_P : ∀ o,wc.frozen? ⟨wa.heap.size,o,none⟩ = false := fun o => (hb.frozen (p := ⟨wa.heap.size,o,none⟩) hl_P).trans (f_P o);replace HX_P := Lib.hid (HX_P.out.below hb);replace k_Q_0 : wc.cell? ⟨wb.heap.size,0,none⟩ = some (.bool false) := (hb.cell (p := ⟨wb.heap.size,0,none⟩) hl_Q).trans k_Q_0;replace k_Q_1 : wc.cell? ⟨wb.heap.size,1,none⟩ = some (.slice none 0 0) := (hb.cell (p := ⟨wb.heap.size,1,none⟩) hl_Q).trans k_Q_1;replace k_Q_2 : wc.cell? ⟨wb.heap.size,2,none⟩ = some (.slice none 0 0) := (hb.cell (p := ⟨wb.heap.size,2,none⟩) hl_Q).trans k_Q_2;replace f_Q : ∀ o,wc.frozen? ⟨wb.heap.size,o,none⟩ = false := fun o => (hb.frozen (p := ⟨wb.heap.size,o,none⟩) hl_Q).trans (f_Q o);replace HX_Q := Lib.hid (HX_Q.out.below hb);replace HP1 := Lib.hid (HP1.out.below hb);replace HP2 := Lib.hid (HP2.out.below hb);replace HQ1 := Lib.hid (HQ1.out.below hb);replace HQ2 := Lib.hid (HQ2.out.below hb);replace HB := Lib.hid (HB.out.trans (hb.mono hs0));replace hN : N ≤ wc.heap.size := Nat.le_trans hN hb.size;replace hs0 : w.heap.size ≤ wc.heap.size := Nat.le_trans hs0 hb.size;replace hl_T : w.heap.size < wc.heap.size := Nat.lt_of_lt_of_le hl_T hb.size;replace hl_P : wa.heap.size < wc.heap.size := Nat.lt_of_lt_of_le hl_P hb.size;replace hl_Q : wb.heap.size < wc.heap.size := Nat.lt_of_lt_of_le hl_Q hb.size;clear hb;skip)
      | (go_at_call 9;refine (xtvalid_any _ _ _ _ _ false HV.out).mono ?_;rintro e wd ⟨rfl,hb⟩;replace hb : Below wc.heap.size wc wd := (by first | exact hb | exact bel_of_drew hb);have hs_wd : wc.heap.size ≤ wd.heap.size := hb.size;replace k_T_0 : wd.cell? ⟨w.heap.size,0,none⟩ = some (.int .i64 a) := (hb.cell (p := ⟨w.heap.size,0,none⟩) hl_T).trans k_T_0;replace k_T_1 : wd.cell? ⟨w.heap.size,1,none⟩ = some (.int .i64 b) := (hb.cell (p := ⟨w.heap.size,1,none⟩) hl_T).trans k_T_1;replace k_T_2 : wd.cell? ⟨w.heap.size,2,none⟩ = some (.int .i64 c) := (hb.cell (p := ⟨w.heap.size,2,none⟩) hl_T).trans k_T_2;replace k_T_3 : wd.cell? ⟨w.heap.size,3,none⟩ = some (.int .i64 d) := (hb.cell (p := ⟨w.heap.size,3,none⟩) hl_T).trans k_T_3;replace f_T : ∀ o,wd.frozen? ⟨w.heap.size,o,none⟩ = false := fun o => (hb.frozen (p := ⟨w.heap.size,o,none⟩) hl_T).trans (f_T o);replace HX_T := Lib.hid (HX_T.out.below hb);replace k_P_0 : wd.cell? ⟨wa.heap.size,0,none⟩ = some (.bool false) := (hb.cell (p := ⟨wa.heap.size,0,none⟩) hl_P).trans k_P_0;replace k_P_1 : wd.cell? ⟨wa.heap.size,1,none⟩ = some (.slice none 0 0) := (hb.cell (p := ⟨wa.heap.size,1,none⟩) hl_P).trans k_P_1;replace k_P_2 : wd.cell? ⟨wa.heap.size,2,none⟩ = some (.slice none 0 0) := (hb.cell (p := ⟨wa.heap.size,2,none⟩) hl_P).trans k_P_2;replace f_P : ∀ o,wd.frozen? ⟨wa.heap.size,o,none⟩ = false := fun o => (hb.frozen (p := ⟨wa.heap.size,o,none⟩) hl_P).trans (f_P o);replace HX_P := Lib.hid (HX_P.out.below hb);replace k_Q_0 : wd.cell? ⟨wb.heap.size,0,none⟩ = some (.bool false) := (hb.cell (p := ⟨wb.heap.size,0,none⟩) hl_Q).trans k_Q_0;replace k_Q_1 : wd.cell? ⟨wb.heap.size,1,none⟩ = some (.slice none 0 0) := (hb.cell (p := ⟨wb.heap.size,1,none⟩) hl_Q).trans k_Q_1;replace k_Q_2 : wd.cell? ⟨wb.heap.size,2,none⟩ = some (.slice none 0 0) := (hb.cell (p := ⟨wb.heap.size,2,none⟩) hl_Q).trans k_Q_2;replace f_Q : ∀ o,wd.frozen? ⟨wb.heap.size,o,none⟩ = false := fun o => (hb.frozen (p := ⟨wb.heap.size,o,none⟩) hl_Q).trans (f_Q o);replace HX_Q := Lib.hid (HX_Q.out.below hb);replace HP1 := Lib.hid (HP1.out.below hb);replace HP2 := Lib.hid (HP2.out.below hb);replace HQ1 := Lib.hid (HQ1.out.below hb);replace HQ2 := Lib.hid (HQ2.out.below hb);replace HB := Lib.hid (HB.out.trans (hb.mono hs0));replace hN : N ≤ wd.heap.size := Nat.le_trans hN hb.size;replace hs0 : w.heap.size ≤ wd.heap.size := Nat.le_trans hs0 hb.size;replace hl_T : w.heap.size < wd.heap.size := Nat.lt_of_lt_of_le hl_T hb.size;replace hl_P : wa.heap.size < wd.heap.size := Nat.lt_of_lt_of_le hl_P hb.size;replace hl_Q : wb.heap.size < wd.heap.size := Nat.lt_of_lt_of_le hl_Q hb.size;clear hb;skip)
      | (go_at_call 10;refine (SameRatio_any (N := N) _ _ _ _ _ _ _ _ _ _ _ _ _ _ (by exact hN) (by exact HP1.out) (by exact HQ1.out) (by exact HP2.out) (by exact HQ2.out)).mono ?_;rintro e we ⟨rfl,hb⟩;replace hb : Below wd.heap.size wd we := (by first | exact hb | exact bel_of_drew hb);have hs_we : wd.heap.size ≤ we.heap.size := hb.size;replace k_T_0 : we.cell? ⟨w.heap.size,0,none⟩ = some (.int .i64 a) := (hb.cell (p := ⟨w.heap.size,0,none⟩) hl_T).trans k_T_0;replace k_T_1 : we.cell? ⟨w.heap.size,1,none⟩ = some (.int .i64 b) := (hb.cell (p := ⟨w.heap.size,1,none⟩) hl_T).trans k_T_1;replace k_T_2 : we.cell? ⟨w.heap.size,2,none⟩ = some (.int .i64 c) := (hb.cell (p := ⟨w.heap.size,2,none⟩) hl_T).trans k_T_2;replace k_T_3 : we.cell? ⟨w.heap.size,3,none⟩ = some (.int .i64 d) := (hb.cell (p := ⟨w.heap.size,3,none⟩) hl_T).trans k_T_3;replace f_T : ∀ o,we.frozen? ⟨w.heap.size,o,none⟩ = false := fun o => (hb.frozen (p := ⟨w.heap.size,o,none⟩) hl_T).trans (f_T o);replace HX_T := Lib.hid (HX_T.out.below hb);replace k_P_0 : we.cell? ⟨wa.heap.size,0,none⟩ = some (.bool false) := (hb.cell (p := ⟨wa.heap.size,0,none⟩) hl_P).trans k_P_0;replace k_P_1 : we.cell? ⟨wa.heap.size,1,none⟩ = some (.slice none 0 0) := (hb.cell (p := ⟨wa.heap.size,1,none⟩) hl_P).trans k_P_1;replace k_P_2 : we.cell? ⟨wa.heap.size,2,none⟩ = some (.slice none 0 0) := (hb.cell (p := ⟨wa.heap.size,2,none⟩) hl_P).trans k_P_2;replace f_P : ∀ o,we.frozen? ⟨wa.heap.size,o,none⟩ = false := fun o => (hb.frozen (p := ⟨wa.heap.size,o,none⟩) hl_P).trans (f_P o);replace HX_P := Lib.hid (HX_P.out.below hb);replace k_Q_0 : we.cell? ⟨wb.heap.size,0,none⟩ = some (.bool false) := (hb.cell (p := ⟨wb.heap.size,0,none⟩) hl_Q).trans k_Q_0;replace k_Q_1 : we.cell? ⟨wb.heap.size,1,none⟩ = some (.slice none 0 0) := (hb.cell (p := ⟨wb.heap.size,1,none⟩) hl_Q).trans k_Q_1;replace k_Q_2 : we.cell? ⟨wb.heap.size,2,none⟩ = some (.slice none 0 0) := (hb.cell (p := ⟨wb.heap.size,2,none⟩) hl_Q).trans k_Q_2;replace f_Q : ∀ o,we.frozen? ⟨wb.heap.size,o,none⟩ = false := fun o => (hb.frozen (p := ⟨wb.heap.size,o,none⟩) hl_Q).trans (f_Q o);replace HX_Q := Lib.hid (HX_Q.out.below hb);replace HP1 := Lib.hid (HP1.out.below hb);replace HP2 := Lib.hid (HP2.out.below hb);replace HQ1 := Lib.hid (HQ1.out.below hb);replace HQ2 := Lib.hid (HQ2.out.below hb);replace HB := Lib.hid (HB.out.trans (hb.mono hs0));replace hN : N ≤ we.heap.size := Nat.le_trans hN hb.size;replace hs0 : w.heap.size ≤ we.heap.size := Nat.le_trans hs0 hb.size;replace hl_T : w.heap.size < we.heap.size := Nat.lt_of_lt_of_le hl_T hb.size;replace hl_P : wa.heap.size < we.heap.size := Nat.lt_of_lt_of_le hl_P hb.size;replace hl_Q : wb.heap.size < we.heap.size := Nat.lt_of_lt_of_le hl_Q hb.size;clear hb;skip))
  go_wp2_with fail
  clear hl_T f_T HX_T k_T_0 k_T_1 k_T_2 k_T_3
  clear HP1
  clear HP2
  clear HQ1
  clear HQ2
  refine calls_name fun W3 hW => ?_
  have HL_W3 := Lib.hid (show Below we.heap.size we W3 by rw [← hW];exact BlA)
  have hs_W3 : we.heap.size ≤ W3.heap.size := by rw [← hW];(first | omega | (simp;done) | (simp;omega))
  replace k_P_0 : W3.cell? ⟨wa.heap.size,0,none⟩ = some (.bool false) := (HL_W3.out.cell (p := ⟨wa.heap.size,0,none⟩) hl_P).trans k_P_0
  replace k_P_1 : W3.cell? ⟨wa.heap.size,1,none⟩ = some (.slice none 0 0) := (HL_W3.out.cell (p := ⟨wa.heap.size,1,none⟩) hl_P).trans k_P_1
  replace k_P_2 : W3.cell? ⟨wa.heap.size,2,none⟩ = some (.slice none 0 0) := (HL_W3.out.cell (p := ⟨wa.heap.size,2,none⟩) hl_P).trans k_P_2
  replace f_P : ∀ o,W3.frozen? ⟨wa.heap.size,o,none⟩ = false := fun o => (HL_W3.out.frozen (p := ⟨wa.heap.size,o,none⟩) hl_P).trans (f_P o)
  replace HX_P := Lib.hid (show Bn W3 (wa.heap.size) by rw [← hW];exact KpA)
  replace k_Q_0 : W3.cell? ⟨wb.heap.size,0,none⟩ = some (.bool false) := (HL_W3.out.cell (p := ⟨wb.heap.size,0,none⟩) hl_Q).trans k_Q_0
  replace k_Q_1 : W3.cell? ⟨wb.heap.size,1,none⟩ = some (.slice none 0 0) := (HL_W3.out.cell (p := ⟨wb.heap.size,1,none⟩) hl_Q).trans k_Q_1
  replace k_Q_2 : W3.cell? ⟨wb.heap.size,2,none⟩ = some (.slice none 0 0) := (HL_W3.out.cell (p := ⟨wb.heap.size,2,none⟩) hl_Q).trans k_Q_2
  replace f_Q : ∀ o,W3.frozen? ⟨wb.heap.size,o,none⟩ = false := fun o => (HL_W3.out.frozen (p := ⟨wb.heap.size,o,none⟩) hl_Q).trans (f_Q o)
  replace HX_Q := Lib.hid (show Bn W3 (wb.heap.size) by rw [← hW];exact KpA)
  replace HB := Lib.hid (show Below w.heap.size w W3 by rw [← hW];exact BlA)
  replace hN : N ≤ W3.heap.size := by rw [← hW];(first | omega | (simp;done) | (simp;omega))
  replace hs0 : w.heap.size ≤ W3.heap.size := by rw [← hW];(first | omega | (simp;done) | (simp;omega))
  replace hl_P : wa.heap.size < W3.heap.size := by rw [← hW];(first | omega | (simp;done) | (simp;omega))
  replace hl_Q : wb.heap.size < W3.heap.size := by rw [← hW];(first | omega | (simp;done) | (simp;omega))
  clear HL_W3
  clear hW
  refine (sign_ok (N := N) x y _ hN hx hy p9 HP9.out).mono ?_
  rintro e wf ⟨ru,cu,ru2,cu2,rfl,hn,hn',hb⟩
  have hs_wf : W3.heap.size ≤ wf.heap.size := hb.size
  replace k_P_0 : wf.cell? ⟨wa.heap.size,0,none⟩ = some (.bool false) := (hb.cell (p := ⟨wa.heap.size,0,none⟩) hl_P).trans k_P_0
  replace k_P_1 : wf.cell? ⟨wa.heap.size,1,none⟩ = some (.slice none 0 0) := (hb.cell (p := ⟨wa.heap.size,1,none⟩) hl_P).trans k_P_1
  replace k_P_2 : wf.cell? ⟨wa.heap.size,2,none⟩ = some (.slice none 0 0) := (hb.cell (p := ⟨wa.heap.size,2,none⟩) hl_P).trans k_P_2
  replace f_P : ∀ o,wf.frozen? ⟨wa.heap.size,o,none⟩ = false := fun o => (hb.frozen (p := ⟨wa.heap.size,o,none⟩) hl_P).trans (f_P o)
  replace HX_P := Lib.hid (HX_P.out.below hb)
  replace k_Q_0 : wf.cell? ⟨wb.heap.size,0,none⟩ = some (.bool false) := (hb.cell (p := ⟨wb.heap.size,0,none⟩) hl_Q).trans k_Q_0
  replace k_Q_1 : wf.cell? ⟨wb.heap.size,1,none⟩ = some (.slice none 0 0) := (hb.cell (p := ⟨wb.heap.size,1,none⟩) hl_Q).trans k_Q_1
  replace k_Q_2 : wf.cell? ⟨wb.heap.size,2,none⟩ = some (.slice none 0 0) := (hb.cell (p := ⟨wb.heap.size,2,none⟩) hl_Q).trans k_Q_2
  replace f_Q : ∀ o,wf.frozen? ⟨wb.heap.size,o,none⟩ = false := fun o => (hb.frozen (p := ⟨wb.heap.size,o,none⟩) hl_Q).trans (f_Q o)
  replace HX_Q := Lib.hid (HX_Q.out.below hb)
  replace HB := Lib.hid (HB.out.trans (hb.mono hs0))
  replace hN : N ≤ wf.heap.size := Nat.le_trans hN hb.size
  replace hs0 : w.heap.size ≤ wf.heap.size := Nat.le_trans hs0 hb.size
  replace hl_P : wa.heap.size < wf.heap.size := Nat.lt_of_lt_of_le hl_P hb.size
  replace hl_Q : wb.heap.size < wf.heap.size := Nat.lt_of_lt_of_le hl_Q hb.size
  clear hb
  have HU1 := Lib.hid hn
  clear hn
  have HU2 := Lib.hid hn'
  clear hn'
  go_wp2_with fail
  refine calls_name fun W4 hW => ?_
  have hs_W4 : wf.heap.size ≤ W4.heap.size := by rw [← hW];(first | omega | (simp;done) | (simp;omega))
  have HK_W4 := Lib.hid (show Kp N wf W4 by rw [← hW];exact KpA)
  replace k_P_0 : W4.cell? ⟨wa.heap.size,0,none⟩ = some (.bool (decide ((p9).num < 0))) := by rw [← hW];(first | (go_simp;done) | (simp [go_sem,k_P_0];done) | (simp [go_sem,k_P_0,k_P_1,k_P_2];done) | (simp [go_sem,k_P_0,k_P_1,k_P_2,k_Q_0,k_Q_1,k_Q_2,f_P,f_Q,hl_P,hl_Q];done))
  replace k_P_1 : W4.cell? ⟨wa.heap.size,1,none⟩ = some (.slice ru (nlen (p9).num.natAbs) cu) := by rw [← hW];(first | (go_simp;done) | (simp [go_sem,k_P_1];done) | (simp [go_sem,k_P_0,k_P_1,k_P_2];done) | (simp [go_sem,k_P_0,k_P_1,k_P_2,k_Q_0,k_Q_1,k_Q_2,f_P,f_Q,hl_P,hl_Q];done))
  replace k_P_2 : W4.cell? ⟨wa.heap.size,2,none⟩ = some (.slice ru2 (nlen (p9).den) cu2) := by rw [← hW];(first | (go_simp;done) | (simp [go_sem,k_P_2];done) | (simp [go_sem,k_P_0,k_P_1,k_P_2];done) | (simp [go_sem,k_P_0,k_P_1,k_P_2,k_Q_0,k_Q_1,k_Q_2,f_P,f_Q,hl_P,hl_Q];done))
  replace f_P : ∀ o,W4.frozen? ⟨wa.heap.size,o,none⟩ = false := by intro o;rw [← hW];(first | with_reducible exact f_P o | (simp [go_sem,f_P];done) | (simp [go_sem,f_P,hl_P];done) | (go_simp;done) | (simp [go_sem,k_P_0,k_P_1,k_P_2,k_Q_0,k_Q_1,k_Q_2,f_P,f_Q,hl_P,hl_Q];done))
  replace HX_P := Lib.hid (show Bn W4 (wa.heap.size) by rw [← hW];exact KpA)
  replace k_Q_0 : W4.cell? ⟨wb.heap.size,0,none⟩ = some (.bool false) := by rw [← hW];(first | with_reducible exact k_Q_0 | (simp [go_sem,k_Q_0];done) | (simp [go_sem,k_Q_0,hl_Q];done) | (go_simp;done) | (simp [go_sem,k_P_0,k_P_1,k_P_2,k_Q_0,k_Q_1,k_Q_2,f_P,f_Q,hl_P,hl_Q];done))
  replace k_Q_1 : W4.cell? ⟨wb.heap.size,1,none⟩ = some (.slice none 0 0) := by rw [← hW];(first | with_reducible exact k_Q_1 | (simp [go_sem,k_Q_1];done) | (simp [go_sem,k_Q_1,hl_Q];done) | (go_simp;done) | (simp [go_sem,k_P_0,k_P_1,k_P_2,k_Q_0,k_Q_1,k_Q_2,f_P,f_Q,hl_P,hl_Q];done))
  replace k_Q_2 : W4.cell? ⟨wb.heap.size,2,none⟩ = some (.slice none 0 0) := by rw [← hW];(first | with_reducible exact k_Q_2 | (simp [go_sem,k_Q_2];done) | (simp [go_sem,k_Q_2,hl_Q];done) | (go_simp;done) | (simp [go_sem,k_P_0,k_P_1,k_P_2,k_Q_0,k_Q_1,k_Q_2,f_P,f_Q,hl_P,hl_Q];done))
  replace f_Q : ∀ o,W4.frozen? ⟨wb.heap.size,o,none⟩ = false := by intro o;rw [← hW];(first | with_reducible exact f_Q o | (simp [go_sem,f_Q];done) | (simp [go_sem,f_Q,hl_Q];done) | (go_simp;done) | (simp [go_sem,k_P_0,k_P_1,k_P_2,k_Q_0,k_Q_1,k_Q_2,f_P,f_Q,hl_P,hl_Q];done))
  replace HX_Q := Lib.hid (show Bn W4 (wb.heap.size) by rw [← hW];exact KpA)
  replace HU1 := Lib.hid (HU1.out.keep HK_W4.out)
  replace HU2 := Lib.hid (HU2.out.keep HK_W4.out)
  replace HB := Lib.hid (show Below w.heap.size w W4 by rw [← hW];exact BlA)
  replace hN : N ≤ W4.heap.size := by rw [← hW];(first | omega | (simp;done) | (simp;omega))
  replace hs0 : w.heap.size ≤ W4.heap.size := by rw [← hW];(first | omega | (simp;done) | (simp;omega))
  replace hl_P : wa.heap.size < W4.heap.size := by rw [← hW];(first | omega | (simp;done) | (simp;omega))
  replace hl_Q : wb.heap.size < W4.heap.size := by rw [← hW];(first | omega | (simp;done) | (simp;omega))
  clear hW HK_W4
  refine (xsign_ok (N := N) x y _ hN hx hy p9 HP9.out).mono ?_
  rintro e wg ⟨rv,cv,rv2,cv2,rfl,hn,hn',hb⟩
  have hs_wg : W4.heap.size ≤ wg.heap.size := hb.size
  replace k_P_0 : wg.cell? ⟨wa.heap.size,0,none⟩ = some (.bool (decide ((p9).num < 0))) := (hb.cell (p := ⟨wa.heap.size,0,none⟩) hl_P).trans k_P_0
  replace k_P_1 : wg.cell? ⟨wa.heap.size,1,none⟩ = some (.slice ru (nlen (p9).num.natAbs) cu) := (hb.cell (p := ⟨wa.heap.size,1,none⟩) hl_P).trans k_P_1
  replace k_P_2 : wg.cell? ⟨wa.heap.size,2,none⟩ = some (.slice ru2 (nlen (p9).den) cu2) := (hb.cell (p := ⟨wa.heap.size,2,none⟩) hl_P).trans k_P_2
  replace f_P : ∀ o,wg.frozen? ⟨wa.heap.size,o,none⟩ = false := fun o => (hb.frozen (p := ⟨wa.heap.size,o,none⟩) hl_P).trans (f_P o)
  replace HX_P := Lib.hid (HX_P.out.below hb)
  replace k_Q_0 : wg.cell? ⟨wb.heap.size,0,none⟩ = some (.bool false) := (hb.cell (p := ⟨wb.heap.size,0,none⟩) hl_Q).trans k_Q_0
  replace k_Q_1 : wg.cell? ⟨wb.heap.size,1,none⟩ = some (.slice none 0 0) := (hb.cell (p := ⟨wb.heap.size,1,none⟩) hl_Q).trans k_Q_1
  replace k_Q_2 : wg.cell? ⟨wb.heap.size,2,none⟩ = some (.slice none 0 0) := (hb.cell (p := ⟨wb.heap.size,2,none⟩) hl_Q).trans k_Q_2
  replace f_Q : ∀ o,wg.frozen? ⟨wb.heap.size,o,none⟩ = false := fun o => (hb.frozen (p := ⟨wb.heap.size,o,none⟩) hl_Q).trans (f_Q o)
  replace HX_Q := Lib.hid (HX_Q.out.below hb)
  replace HU1 := Lib.hid (HU1.out.below hb)
  replace HU2 := Lib.hid (HU2.out.below hb)
  replace HB := Lib.hid (HB.out.trans (hb.mono hs0))
  replace hN : N ≤ wg.heap.size := Nat.le_trans hN hb.size
  replace hs0 : w.heap.size ≤ wg.heap.size := Nat.le_trans hs0 hb.size
  replace hl_P : wa.heap.size < wg.heap.size := Nat.lt_of_lt_of_le hl_P hb.size
  replace hl_Q : wb.heap.size < wg.heap.size := Nat.lt_of_lt_of_le hl_Q hb.size
  clear hb
  have HV1 := Lib.hid hn
  clear hn
  have HV2 := Lib.hid hn'
  clear hn'
  go_wp2_with fail
  refine calls_name fun W5 hW => ?_
  have hs_W5 : wg.heap.size ≤ W5.heap.size := by rw [← hW];(first | omega | (simp;done) | (simp;omega))
  have HK_W5 := Lib.hid (show Kp N wg W5 by rw [← hW];exact KpA)
  replace k_P_0 : W5.cell? ⟨wa.heap.size,0,none⟩ = some (.bool (decide ((p9).num < 0))) := by rw [← hW];(first | with_reducible exact k_P_0 | (simp [go_sem,k_P_0];done) | (simp [go_sem,k_P_0,hl_P];done) | (go_simp;done) | (simp [go_sem,k_P_0,k_P_1,k_P_2,k_Q_0,k_Q_1,k_Q_2,f_P,f_Q,hl_P,hl_Q];done))
  replace k_P_1 : W5.cell? ⟨wa.heap.size,1,none⟩ = some (.slice ru (nlen (p9).num.natAbs) cu) := by rw [← hW];(first | with_reducible exact k_P_1 | (simp [go_sem,k_P_1];done) | (simp [go_sem,k_P_1,hl_P];done) | (go_simp;done) | (simp [go_sem,k_P_0,k_P_1,k_P_2,k_Q_0,k_Q_1,k_Q_2,f_P,f_Q,hl_P,hl_Q];done))
  replace k_P_2 : W5.cell? ⟨wa.heap.size,2,none⟩ = some (.slice ru2 (nlen (p9).den) cu2) := by rw [← hW];(first | with_reducible exact k_P_2 | (simp [go_sem,k_P_2];done) | (simp [go_sem,k_P_2,hl_P];done) | (go_simp;done) | (simp [go_sem,k_P_0,k_P_1,k_P_2,k_Q_0,k_Q_1,k_Q_2,f_P,f_Q,hl_P,hl_Q];done))
  replace f_P : ∀ o,W5.frozen? ⟨wa.heap.size,o,none⟩ = false := by intro o;rw [← hW];(first | with_reducible exact f_P o | (simp [go_sem,f_P];done) | (simp [go_sem,f_P,hl_P];done) | (go_simp;done) | (simp [go_sem,k_P_0,k_P_1,k_P_2,k_Q_0,k_Q_1,k_Q_2,f_P,f_Q,hl_P,hl_Q];done))
  replace HX_P := Lib.hid (show Bn W5 (wa.heap.size) by rw [← hW];exact KpA)
  replace k_Q_0 : W5.cell? ⟨wb.heap.size,0,none⟩ = some (.bool (decide ((p9).num < 0))) := by rw [← hW];(first | (go_simp;done) | (simp [go_sem,k_Q_0];done) | (simp [go_sem,k_Q_0,k_Q_1,k_Q_2];done) | (simp [go_sem,k_P_0,k_P_1,k_P_2,k_Q_0,k_Q_1,k_Q_2,f_P,f_Q,hl_P,hl_Q];done))
  replace k_Q_1 : W5.cell? ⟨wb.heap.size,1,none⟩ = some (.slice rv (nlen (p9).num.natAbs) cv) := by rw [← hW];(first | (go_simp;done) | (simp [go_sem,k_Q_1];done) | (simp [go_sem,k_Q_0,k_Q_1,k_Q_2];done) | (simp [go_sem,k_P_0,k_P_1,k_P_2,k_Q_0,k_Q_1,k_Q_2,f_P,f_Q,hl_P,hl_Q];done))
  replace k_Q_2 : W5.cell? ⟨wb.heap.size,2,none⟩ = some (.slice rv2 (nlen (p9).den) cv2) := by rw [← hW];(first | (go_simp;done) | (simp [go_sem,k_Q_2];done) | (simp [go_sem,k_Q_0,k_Q_1,k_Q_2];done) | (simp [go_sem,k_P_0,k_P_1,k_P_2,k_Q_0,k_Q_1,k_Q_2,f_P,f_Q,hl_P,hl_Q];done))
  replace f_Q : ∀ o,W5.frozen? ⟨wb.heap.size,o,none⟩ = false := by intro o;rw [← hW];(first | with_reducible exact f_Q o | (simp [go_sem,f_Q];done) | (simp [go_sem,f_Q,hl_Q];done) | (go_simp;done) | (simp [go_sem,k_P_0,k_P_1,k_P_2,k_Q_0,k_Q_1,k_Q_2,f_P,f_Q,hl_P,hl_Q];done))
  replace HX_Q := Lib.hid (show Bn W5 (wb.heap.size) by rw [← hW];exact KpA)
  replace HU1 := Lib.hid (HU1.out.keep HK_W5.out)
  replace HU2 := Lib.hid (HU2.out.keep HK_W5.out)
  replace HV1 := Lib.hid (HV1.out.keep HK_W5.out)
  replace HV2 := Lib.hid (HV2.out.keep HK_W5.out)
  replace HB := Lib.hid (show Below w.heap.size w W5 by rw [← hW];exact BlA)
  replace hN : N ≤ W5.heap.size := by rw [← hW];(first | omega | (simp;done) | (simp;omega))
  replace hs0 : w.heap.size ≤ W5.heap.size := by rw [← hW];(first | omega | (simp;done) | (simp;omega))
  replace hl_P : wa.heap.size < W5.heap.size := by rw [← hW];(first | omega | (simp;done) | (simp;omega))
  replace hl_Q : wb.heap.size < W5.heap.size := by rw [← hW];(first | omega | (simp;done) | (simp;omega))
  clear hW HK_W5
  refine (SameRatio_any (N := N) _ _ _ _ _ _ _ _ _ _ _ _ _ _ (hN) (HU1.out) (HV1.out) (HU2.out) (HV2.out)).mono ?_
  rintro e wh ⟨rfl,hb⟩
  have hs_wh : W5.heap.size ≤ wh.heap.size := hb.size
  replace k_P_0 : wh.cell? ⟨wa.heap.size,0,none⟩ = some (.bool (decide ((p9).num < 0))) := (hb.cell (p := ⟨wa.heap.size,0,none⟩) hl_P).trans k_P_0
  replace k_P_1 : wh.cell? ⟨wa.heap.size,1,none⟩ = some (.slice ru (nlen (p9).num.natAbs) cu) := (hb.cell (p := ⟨wa.heap.size,1,none⟩) hl_P).trans k_P_1
  replace k_P_2 : wh.cell? ⟨wa.heap.size,2,none⟩ = some (.slice ru2 (nlen (p9).den) cu2) := (hb.cell (p := ⟨wa.heap.size,2,none⟩) hl_P).trans k_P_2
  replace f_P : ∀ o,wh.frozen? ⟨wa.heap.size,o,none⟩ = false := fun o => (hb.frozen (p := ⟨wa.heap.size,o,none⟩) hl_P).trans (f_P o)
  replace HX_P := Lib.hid (HX_P.out.below hb)
  replace k_Q_0 : wh.cell? ⟨wb.heap.size,0,none⟩ = some (.bool (decide ((p9).num < 0))) := (hb.cell (p := ⟨wb.heap.size,0,none⟩) hl_Q).trans k_Q_0
  replace k_Q_1 : wh.cell? ⟨wb.heap.size,1,none⟩ = some (.slice rv (nlen (p9).num.natAbs) cv) := (hb.cell (p := ⟨wb.heap.size,1,none⟩) hl_Q).trans k_Q_1
  replace k_Q_2 : wh.cell? ⟨wb.heap.size,2,none⟩ = some (.slice rv2 (nlen (p9).den) cv2) := (hb.cell (p := ⟨wb.heap.size,2,none⟩) hl_Q).trans k_Q_2
  replace f_Q : ∀ o,wh.frozen? ⟨wb.heap.size,o,none⟩ = false := fun o => (hb.frozen (p := ⟨wb.heap.size,o,none⟩) hl_Q).trans (f_Q o)
  replace HX_Q := Lib.hid (HX_Q.out.below hb)
  replace HU1 := Lib.hid (HU1.out.below hb)
  replace HU2 := Lib.hid (HU2.out.below hb)
  replace HV1 := Lib.hid (HV1.out.below hb)
  replace HV2 := Lib.hid (HV2.out.below hb)
  replace HB := Lib.hid (HB.out.trans (hb.mono hs0))
  replace hN : N ≤ wh.heap.size := Nat.le_trans hN hb.size
  replace hs0 : w.heap.size ≤ wh.heap.size := Nat.le_trans hs0 hb.size
  replace hl_P : wa.heap.size < wh.heap.size := Nat.lt_of_lt_of_le hl_P hb.size
  replace hl_Q : wb.heap.size < wh.heap.size := Nat.lt_of_lt_of_le hl_Q hb.size
  clear hb
  go_wp2_with fail
  refine calls_name fun W6 hW => ?_
  have HL_W6 := Lib.hid (show Below wh.heap.size wh W6 by rw [← hW];exact BlA)
  have hs_W6 : wh.heap.size ≤ W6.heap.size := by rw [← hW];(first | omega | (simp;done) | (simp;omega))
  have HK_W6 := Lib.hid (show Kp N wh W6 by rw [← hW];exact KpA)
  replace k_P_0 : W6.cell? ⟨wa.heap.size,0,none⟩ = some (.bool (decide ((p9).num < 0))) := (HL_W6.out.cell (p := ⟨wa.heap.size,0,none⟩) hl_P).trans k_P_0
  replace k_P_1 : W6.cell? ⟨wa.heap.size,1,none⟩ = some (.slice ru (nlen (p9).num.natAbs) cu) := (HL_W6.out.cell (p := ⟨wa.heap.size,1,none⟩) hl_P).trans k_P_1
  replace k_P_2 : W6.cell? ⟨wa.heap.size,2,none⟩ = some (.slice ru2 (nlen (p9).den) cu2) := (HL_W6.out.cell (p := ⟨wa.heap.size,2,none⟩) hl_P).trans k_P_2
  replace f_P : ∀ o,W6.frozen? ⟨wa.heap.size,o,none⟩ = false := fun o => (HL_W6.out.frozen (p := ⟨wa.heap.size,o,none⟩) hl_P).trans (f_P o)
  replace HX_P := Lib.hid (show Bn W6 (wa.heap.size) by rw [← hW];exact KpA)
  replace k_Q_0 : W6.cell? ⟨wb.heap.size,0,none⟩ = some (.bool (decide ((p9).num < 0))) := (HL_W6.out.cell (p := ⟨wb.heap.size,0,none⟩) hl_Q).trans k_Q_0
  replace k_Q_1 : W6.cell? ⟨wb.heap.size,1,none⟩ = some (.slice rv (nlen (p9).num.natAbs) cv) := (HL_W6.out.cell (p := ⟨wb.heap.size,1,none⟩) hl_Q).trans k_Q_1
  replace k_Q_2 : W6.cell? ⟨wb.heap.size,2,none⟩ = some (.slice rv2 (nlen (p9).den) cv2) := (HL_W6.out.cell (p := ⟨wb.heap.size,2,none⟩) hl_Q).trans k_Q_2
  replace f_Q : ∀ o,W6.frozen? ⟨wb.heap.size,o,none⟩ = false := fun o => (HL_W6.out.frozen (p := ⟨wb.heap.size,o,none⟩) hl_Q).trans (f_Q o)
  replace HX_Q := Lib.hid (show Bn W6 (wb.heap.size) by rw [← hW];exact KpA)
  replace HU1 := Lib.hid (HU1.out.keep HK_W6.out)
  replace HU2 := Lib.hid (HU2.out.keep HK_W6.out)
  replace HV1 := Lib.hid (HV1.out.keep HK_W6.out)
  replace HV2 := Lib.hid (HV2.out.keep HK_W6.out)
  replace HB := Lib.hid (show Below w.heap.size w W6 by rw [← hW];exact BlA)
  replace hN : N ≤ W6.heap.size := by rw [← hW];(first | omega | (simp;done) | (simp;omega))
  replace hs0 : w.heap.size ≤ W6.heap.size := by rw [← hW];(first | omega | (simp;done) | (simp;omega))
  replace hl_P : wa.heap.size < W6.heap.size := by rw [← hW];(first | omega | (simp;done) | (simp;omega))
  replace hl_Q : wb.heap.size < W6.heap.size := by rw [← hW];(first | omega | (simp;done) | (simp;omega))
  clear HL_W6
  clear hW HK_W6
  refine (dawake_any (N := N) _ hN (HTw.out.below HB.out)).mono ?_
  rintro e wi ⟨rfl,hb⟩
  have hs_wi : W6.heap.size ≤ wi.heap.size := hb.size
  replace k_P_0 : wi.cell? ⟨wa.heap.size,0,none⟩ = some (.bool (decide ((p9).num < 0))) := (hb.cell (p := ⟨wa.heap.size,0,none⟩) hl_P).trans k_P_0
  replace k_P_1 : wi.cell? ⟨wa.heap.size,1,none⟩ = some (.slice ru (nlen (p9).num.natAbs) cu) := (hb.cell (p := ⟨wa.heap.size,1,none⟩) hl_P).trans k_P_1
  replace k_P_2 : wi.cell? ⟨wa.heap.size,2,none⟩ = some (.slice ru2 (nlen (p9).den) cu2) := (hb.cell (p := ⟨wa.heap.size,2,none⟩) hl_P).trans k_P_2
  replace f_P : ∀ o,wi.frozen? ⟨wa.heap.size,o,none⟩ = false := fun o => (hb.frozen (p := ⟨wa.heap.size,o,none⟩) hl_P).trans (f_P o)
  replace HX_P := Lib.hid (HX_P.out.below hb)
  replace k_Q_0 : wi.cell? ⟨wb.heap.size,0,none⟩ = some (.bool (decide ((p9).num < 0))) := (hb.cell (p := ⟨wb.heap.size,0,none⟩) hl_Q).trans k_Q_0
  replace k_Q_1 : wi.cell? ⟨wb.heap.size,1,none⟩ = some (.slice rv (nlen (p9).num.natAbs) cv) := (hb.cell (p := ⟨wb.heap.size,1,none⟩) hl_Q).trans k_Q_1
  replace k_Q_2 : wi.cell? ⟨wb.heap.size,2,none⟩ = some (.slice rv2 (nlen (p9).den) cv2) := (hb.cell (p := ⟨wb.heap.size,2,none⟩) hl_Q).trans k_Q_2
  replace f_Q : ∀ o,wi.frozen? ⟨wb.heap.size,o,none⟩ = false := fun o => (hb.frozen (p := ⟨wb.heap.size,o,none⟩) hl_Q).trans (f_Q o)
  replace HX_Q := Lib.hid (HX_Q.out.below hb)
  replace HU1 := Lib.hid (HU1.out.below hb)
  replace HU2 := Lib.hid (HU2.out.below hb)
  replace HV1 := Lib.hid (HV1.out.below hb)
  replace HV2 := Lib.hid (HV2.out.below hb)
  replace HB := Lib.hid (HB.out.trans (hb.mono hs0))
  replace hN : N ≤ wi.heap.size := Nat.le_trans hN hb.size
  replace hs0 : w.heap.size ≤ wi.heap.size := Nat.le_trans hs0 hb.size
  replace hl_P : wa.heap.size < wi.heap.size := Nat.lt_of_lt_of_le hl_P hb.size
  replace hl_Q : wb.heap.size < wi.heap.size := Nat.lt_of_lt_of_le hl_Q hb.size
  clear hb
  go_wp2_with fail
  go_ret
  exact ⟨rfl,HB.out⟩
set_option maxHeartbeats 8000000 in
set_option maxRecDepth 100000 in
theorem dtst_nn {N : Nat} (a b c d : Int) (hv : vldT a b c d = false) (x y : Int) (hbad : x < 0 ∨ 60 < x ∨ y < 0 ∨ 60 < y) (w : World) (hN : N ≤ w.heap.size) (htab : TabW w) :
    Calls Tryz.prog 3 #[.agg #[.int .i64 a,.int .i64 b,.int .i64 c,.int .i64 d],.int .i64 x,.int .i64 y] w fun e w' => e = .returned (.bool true) ∧ Below w.heap.size w w' := by
  have HV := Lib.hid hv
  clear hv
  have HTw := Lib.hid htab
  clear htab
  have hN0 := hN
  have HB := Lib.hid (Below.refl w.heap.size w)
  go_enter Tryz.func3,Tryz.ntmps3
  go_wp2_with fail
  refine calls_name fun W0 hW => ?_
  have hs_W0 : w.heap.size ≤ W0.heap.size := by rw [← hW];(first | omega | (simp;done) | (simp;omega))
  have k_T_0 : W0.cell? ⟨w.heap.size,0,none⟩ = some (.int .i64 a) := by rw [← hW];(first | (go_simp;done) | (simp;done) | (simp [go_sem];done) | (simp [go_sem];done))
  have k_T_1 : W0.cell? ⟨w.heap.size,1,none⟩ = some (.int .i64 b) := by rw [← hW];(first | (go_simp;done) | (simp;done) | (simp [go_sem];done) | (simp [go_sem];done))
  have k_T_2 : W0.cell? ⟨w.heap.size,2,none⟩ = some (.int .i64 c) := by rw [← hW];(first | (go_simp;done) | (simp;done) | (simp [go_sem];done) | (simp [go_sem];done))
  have k_T_3 : W0.cell? ⟨w.heap.size,3,none⟩ = some (.int .i64 d) := by rw [← hW];(first | (go_simp;done) | (simp;done) | (simp [go_sem];done) | (simp [go_sem];done))
  have f_T : ∀ o,W0.frozen? ⟨w.heap.size,o,none⟩ = false := by intro o;rw [← hW];(first | (go_simp;done) | (simp;done) | (simp [go_sem];done) | (simp [go_sem];done))
  have HX_T := Lib.hid (show Bn W0 (w.heap.size) by rw [← hW];exact KpA)
  replace HB := Lib.hid (show Below w.heap.size w W0 by rw [← hW];exact BlA)
  replace hN : N ≤ W0.heap.size := by rw [← hW];(first | omega | (simp;done) | (simp;omega))
  have hs0 : w.heap.size ≤ W0.heap.size := by rw [← hW];(first | omega | (simp;done) | (simp;omega))
  have hl_T : w.heap.size < W0.heap.size := by rw [← hW];(first | omega | (simp;done) | (simp;omega))
  clear hW
  refine (fisher_bad (N := N) a b c d _ hN HV.out).mono ?_
  rintro e wa ⟨rfl,hb⟩
  have hs_wa : W0.heap.size ≤ wa.heap.size := hb.size
  replace k_T_0 : wa.cell? ⟨w.heap.size,0,none⟩ = some (.int .i64 a) := (hb.cell (p := ⟨w.heap.size,0,none⟩) hl_T).trans k_T_0
  replace k_T_1 : wa.cell? ⟨w.heap.size,1,none⟩ = some (.int .i64 b) := (hb.cell (p := ⟨w.heap.size,1,none⟩) hl_T).trans k_T_1
  replace k_T_2 : wa.cell? ⟨w.heap.size,2,none⟩ = some (.int .i64 c) := (hb.cell (p := ⟨w.heap.size,2,none⟩) hl_T).trans k_T_2
  replace k_T_3 : wa.cell? ⟨w.heap.size,3,none⟩ = some (.int .i64 d) := (hb.cell (p := ⟨w.heap.size,3,none⟩) hl_T).trans k_T_3
  replace f_T : ∀ o,wa.frozen? ⟨w.heap.size,o,none⟩ = false := fun o => (hb.frozen (p := ⟨w.heap.size,o,none⟩) hl_T).trans (f_T o)
  replace HX_T := Lib.hid (HX_T.out.below hb)
  replace HB := Lib.hid (HB.out.trans (hb.mono hs0))
  replace hN : N ≤ wa.heap.size := Nat.le_trans hN hb.size
  replace hs0 : w.heap.size ≤ wa.heap.size := Nat.le_trans hs0 hb.size
  replace hl_T : w.heap.size < wa.heap.size := Nat.lt_of_lt_of_le hl_T hb.size
  clear hb
  go_wp2_with fail
  refine calls_name fun W1 hW => ?_
  have HL_W1 := Lib.hid (show Below wa.heap.size wa W1 by rw [← hW];exact BlA)
  have hs_W1 : wa.heap.size ≤ W1.heap.size := by rw [← hW];(first | omega | (simp;done) | (simp;omega))
  have hd_T_P : w.heap.size < wa.heap.size := by omega
  replace k_T_0 : W1.cell? ⟨w.heap.size,0,none⟩ = some (.int .i64 a) := (HL_W1.out.cell (p := ⟨w.heap.size,0,none⟩) hl_T).trans k_T_0
  replace k_T_1 : W1.cell? ⟨w.heap.size,1,none⟩ = some (.int .i64 b) := (HL_W1.out.cell (p := ⟨w.heap.size,1,none⟩) hl_T).trans k_T_1
  replace k_T_2 : W1.cell? ⟨w.heap.size,2,none⟩ = some (.int .i64 c) := (HL_W1.out.cell (p := ⟨w.heap.size,2,none⟩) hl_T).trans k_T_2
  replace k_T_3 : W1.cell? ⟨w.heap.size,3,none⟩ = some (.int .i64 d) := (HL_W1.out.cell (p := ⟨w.heap.size,3,none⟩) hl_T).trans k_T_3
  replace f_T : ∀ o,W1.frozen? ⟨w.heap.size,o,none⟩ = false := fun o => (HL_W1.out.frozen (p := ⟨w.heap.size,o,none⟩) hl_T).trans (f_T o)
  replace HX_T := Lib.hid (show Bn W1 (w.heap.size) by rw [← hW];exact KpA)
  have k_P_0 : W1.cell? ⟨wa.heap.size,0,none⟩ = some (.bool false) := by rw [← hW];(first | (go_simp;done) | (simp;done) | (simp [go_sem];done) | (simp [go_sem,k_T_0,k_T_1,k_T_2,k_T_3,f_T,hl_T];done))
  have k_P_1 : W1.cell? ⟨wa.heap.size,1,none⟩ = some (.slice none 0 0) := by rw [← hW];(first | (go_simp;done) | (simp;done) | (simp [go_sem];done) | (simp [go_sem,k_T_0,k_T_1,k_T_2,k_T_3,f_T,hl_T];done))
  have k_P_2 : W1.cell? ⟨wa.heap.size,2,none⟩ = some (.slice none 0 0) := by rw [← hW];(first | (go_simp;done) | (simp;done) | (simp [go_sem];done) | (simp [go_sem,k_T_0,k_T_1,k_T_2,k_T_3,f_T,hl_T];done))
  have f_P : ∀ o,W1.frozen? ⟨wa.heap.size,o,none⟩ = false := by intro o;rw [← hW];(first | (go_simp;done) | (simp;done) | (simp [go_sem];done) | (simp [go_sem,k_T_0,k_T_1,k_T_2,k_T_3,f_T,hl_T];done))
  have HX_P := Lib.hid (show Bn W1 (wa.heap.size) by rw [← hW];exact KpA)
  replace HB := Lib.hid (show Below w.heap.size w W1 by rw [← hW];exact BlA)
  replace hN : N ≤ W1.heap.size := by rw [← hW];(first | omega | (simp;done) | (simp;omega))
  replace hs0 : w.heap.size ≤ W1.heap.size := by rw [← hW];(first | omega | (simp;done) | (simp;omega))
  replace hl_T : w.heap.size < W1.heap.size := by rw [← hW];(first | omega | (simp;done) | (simp;omega))
  have hl_P : wa.heap.size < W1.heap.size := by rw [← hW];(first | omega | (simp;done) | (simp;omega))
  clear HL_W1
  clear hW
  refine (xfisher_bad (N := N) a b c d _ hN HV.out).mono ?_
  rintro e wb ⟨rfl,hb⟩
  have hs_wb : W1.heap.size ≤ wb.heap.size := hb.size
  replace k_T_0 : wb.cell? ⟨w.heap.size,0,none⟩ = some (.int .i64 a) := (hb.cell (p := ⟨w.heap.size,0,none⟩) hl_T).trans k_T_0
  replace k_T_1 : wb.cell? ⟨w.heap.size,1,none⟩ = some (.int .i64 b) := (hb.cell (p := ⟨w.heap.size,1,none⟩) hl_T).trans k_T_1
  replace k_T_2 : wb.cell? ⟨w.heap.size,2,none⟩ = some (.int .i64 c) := (hb.cell (p := ⟨w.heap.size,2,none⟩) hl_T).trans k_T_2
  replace k_T_3 : wb.cell? ⟨w.heap.size,3,none⟩ = some (.int .i64 d) := (hb.cell (p := ⟨w.heap.size,3,none⟩) hl_T).trans k_T_3
  replace f_T : ∀ o,wb.frozen? ⟨w.heap.size,o,none⟩ = false := fun o => (hb.frozen (p := ⟨w.heap.size,o,none⟩) hl_T).trans (f_T o)
  replace HX_T := Lib.hid (HX_T.out.below hb)
  replace k_P_0 : wb.cell? ⟨wa.heap.size,0,none⟩ = some (.bool false) := (hb.cell (p := ⟨wa.heap.size,0,none⟩) hl_P).trans k_P_0
  replace k_P_1 : wb.cell? ⟨wa.heap.size,1,none⟩ = some (.slice none 0 0) := (hb.cell (p := ⟨wa.heap.size,1,none⟩) hl_P).trans k_P_1
  replace k_P_2 : wb.cell? ⟨wa.heap.size,2,none⟩ = some (.slice none 0 0) := (hb.cell (p := ⟨wa.heap.size,2,none⟩) hl_P).trans k_P_2
  replace f_P : ∀ o,wb.frozen? ⟨wa.heap.size,o,none⟩ = false := fun o => (hb.frozen (p := ⟨wa.heap.size,o,none⟩) hl_P).trans (f_P o)
  replace HX_P := Lib.hid (HX_P.out.below hb)
  replace HB := Lib.hid (HB.out.trans (hb.mono hs0))
  replace hN : N ≤ wb.heap.size := Nat.le_trans hN hb.size
  replace hs0 : w.heap.size ≤ wb.heap.size := Nat.le_trans hs0 hb.size
  replace hl_T : w.heap.size < wb.heap.size := Nat.lt_of_lt_of_le hl_T hb.size
  replace hl_P : wa.heap.size < wb.heap.size := Nat.lt_of_lt_of_le hl_P hb.size
  clear hb
  go_wp2_with fail
  refine region_name fun W2 hW => ?_
  have HL_W2 := Lib.hid (show Below wb.heap.size wb W2 by rw [← hW];exact BlA)
  have hs_W2 : wb.heap.size ≤ W2.heap.size := by rw [← hW];(first | omega | (simp;done) | (simp;omega))
  have hd_T_Q : w.heap.size < wb.heap.size := by omega
  have hd_P_Q : wa.heap.size < wb.heap.size := by omega
  have HP1 := Lib.hid (Nt.zero N W2)
  have HP2 := Lib.hid (Nt.zero N W2)
  have HQ1 := Lib.hid (Nt.zero N W2)
  have HQ2 := Lib.hid (Nt.zero N W2)
  replace k_T_0 : W2.cell? ⟨w.heap.size,0,none⟩ = some (.int .i64 a) := (HL_W2.out.cell (p := ⟨w.heap.size,0,none⟩) hl_T).trans k_T_0
  replace k_T_1 : W2.cell? ⟨w.heap.size,1,none⟩ = some (.int .i64 b) := (HL_W2.out.cell (p := ⟨w.heap.size,1,none⟩) hl_T).trans k_T_1
  replace k_T_2 : W2.cell? ⟨w.heap.size,2,none⟩ = some (.int .i64 c) := (HL_W2.out.cell (p := ⟨w.heap.size,2,none⟩) hl_T).trans k_T_2
  replace k_T_3 : W2.cell? ⟨w.heap.size,3,none⟩ = some (.int .i64 d) := (HL_W2.out.cell (p := ⟨w.heap.size,3,none⟩) hl_T).trans k_T_3
  replace f_T : ∀ o,W2.frozen? ⟨w.heap.size,o,none⟩ = false := fun o => (HL_W2.out.frozen (p := ⟨w.heap.size,o,none⟩) hl_T).trans (f_T o)
  replace HX_T := Lib.hid (show Bn W2 (w.heap.size) by rw [← hW];exact KpA)
  replace k_P_0 : W2.cell? ⟨wa.heap.size,0,none⟩ = some (.bool false) := (HL_W2.out.cell (p := ⟨wa.heap.size,0,none⟩) hl_P).trans k_P_0
  replace k_P_1 : W2.cell? ⟨wa.heap.size,1,none⟩ = some (.slice none 0 0) := (HL_W2.out.cell (p := ⟨wa.heap.size,1,none⟩) hl_P).trans k_P_1
  replace k_P_2 : W2.cell? ⟨wa.heap.size,2,none⟩ = some (.slice none 0 0) := (HL_W2.out.cell (p := ⟨wa.heap.size,2,none⟩) hl_P).trans k_P_2
  replace f_P : ∀ o,W2.frozen? ⟨wa.heap.size,o,none⟩ = false := fun o => (HL_W2.out.frozen (p := ⟨wa.heap.size,o,none⟩) hl_P).trans (f_P o)
  replace HX_P := Lib.hid (show Bn W2 (wa.heap.size) by rw [← hW];exact KpA)
  have k_Q_0 : W2.cell? ⟨wb.heap.size,0,none⟩ = some (.bool false) := by rw [← hW];(first | (go_simp;done) | (simp;done) | (simp [go_sem];done) | (simp [go_sem,k_T_0,k_T_1,k_T_2,k_T_3,k_P_0,k_P_1,k_P_2,f_T,f_P,hl_T,hl_P];done))
  have k_Q_1 : W2.cell? ⟨wb.heap.size,1,none⟩ = some (.slice none 0 0) := by rw [← hW];(first | (go_simp;done) | (simp;done) | (simp [go_sem];done) | (simp [go_sem,k_T_0,k_T_1,k_T_2,k_T_3,k_P_0,k_P_1,k_P_2,f_T,f_P,hl_T,hl_P];done))
  have k_Q_2 : W2.cell? ⟨wb.heap.size,2,none⟩ = some (.slice none 0 0) := by rw [← hW];(first | (go_simp;done) | (simp;done) | (simp [go_sem];done) | (simp [go_sem,k_T_0,k_T_1,k_T_2,k_T_3,k_P_0,k_P_1,k_P_2,f_T,f_P,hl_T,hl_P];done))
  have f_Q : ∀ o,W2.frozen? ⟨wb.heap.size,o,none⟩ = false := by intro o;rw [← hW];(first | (go_simp;done) | (simp;done) | (simp [go_sem];done) | (simp [go_sem,k_T_0,k_T_1,k_T_2,k_T_3,k_P_0,k_P_1,k_P_2,f_T,f_P,hl_T,hl_P];done))
  have HX_Q := Lib.hid (show Bn W2 (wb.heap.size) by rw [← hW];exact KpA)
  replace HB := Lib.hid (show Below w.heap.size w W2 by rw [← hW];exact BlA)
  replace hN : N ≤ W2.heap.size := by rw [← hW];(first | omega | (simp;done) | (simp;omega))
  replace hs0 : w.heap.size ≤ W2.heap.size := by rw [← hW];(first | omega | (simp;done) | (simp;omega))
  replace hl_T : w.heap.size < W2.heap.size := by rw [← hW];(first | omega | (simp;done) | (simp;omega))
  replace hl_P : wa.heap.size < W2.heap.size := by rw [← hW];(first | omega | (simp;done) | (simp;omega))
  have hl_Q : wb.heap.size < W2.heap.size := by rw [← hW];(first | omega | (simp;done) | (simp;omega))
  clear HL_W2
  clear hW
  go_region_held3 (fun w' => w'.cell? ⟨w.heap.size,0,none⟩ = some (.int .i64 a) ∧ w'.cell? ⟨w.heap.size,1,none⟩ = some (.int .i64 b) ∧ w'.cell? ⟨w.heap.size,2,none⟩ = some (.int .i64 c) ∧ w'.cell? ⟨w.heap.size,3,none⟩ = some (.int .i64 d) ∧ w'.cell? ⟨wa.heap.size,0,none⟩ = some (.bool false) ∧ w'.cell? ⟨wa.heap.size,1,none⟩ = some (.slice none 0 0) ∧ w'.cell? ⟨wa.heap.size,2,none⟩ = some (.slice none 0 0) ∧ w'.cell? ⟨wb.heap.size,0,none⟩ = some (.bool false) ∧ w'.cell? ⟨wb.heap.size,1,none⟩ = some (.slice none 0 0) ∧ w'.cell? ⟨wb.heap.size,2,none⟩ = some (.slice none 0 0))
    (first | (go_keep;done) | ((try dsimp only);(repeat' apply And.intro) <;> (first | (go_keep;done) | (exact cell_keep_alloc_drew (by first | omega | (simp;omega)) (by first | assumption | go_simp)) | (exact cell_keep_alloc (by first | omega | (simp;omega)) (by first | assumption | go_simp)) | (rw [cell_set2 _ _ _ _ _ _ _ _ (by omega)];assumption) | (rw [cell_set3 _ _ _ _ _ _ _ _ _ _ (by omega)];assumption))))
    (first
      | (go_at_call 8;refine (dvalid_any _ _ _ _ _ false HV.out).mono ?_;rintro e wc ⟨rfl,hb⟩;replace hb : Below W2.heap.size W2 wc := (by first | exact hb | exact bel_of_drew hb);have hs_wc : W2.heap.size ≤ wc.heap.size := hb.size;replace k_T_0 : wc.cell? ⟨w.heap.size,0,none⟩ = some (.int .i64 a) := (hb.cell (p := ⟨w.heap.size,0,none⟩) hl_T).trans k_T_0;replace k_T_1 : wc.cell? ⟨w.heap.size,1,none⟩ = some (.int .i64 b) := (hb.cell (p := ⟨w.heap.size,1,none⟩) hl_T).trans k_T_1;replace k_T_2 : wc.cell? ⟨w.heap.size,2,none⟩ = some (.int .i64 c) := (hb.cell (p := ⟨w.heap.size,2,none⟩) hl_T).trans k_T_2;replace k_T_3 : wc.cell? ⟨w.heap.size,3,none⟩ = some (.int .i64 d) := (hb.cell (p := ⟨w.heap.size,3,none⟩) hl_T).trans k_T_3;replace f_T : ∀ o,wc.frozen? ⟨w.heap.size,o,none⟩ = false := fun o => (hb.frozen (p := ⟨w.heap.size,o,none⟩) hl_T).trans (f_T o);replace HX_T := Lib.hid (HX_T.out.below hb);replace k_P_0 : wc.cell? ⟨wa.heap.size,0,none⟩ = some (.bool false) := (hb.cell (p := ⟨wa.heap.size,0,none⟩) hl_P).trans k_P_0;replace k_P_1 : wc.cell? ⟨wa.heap.size,1,none⟩ = some (.slice none 0 0) := (hb.cell (p := ⟨wa.heap.size,1,none⟩) hl_P).trans k_P_1;replace k_P_2 : wc.cell? ⟨wa.heap.size,2,none⟩ = some (.slice none 0 0) := (hb.cell (p := ⟨wa.heap.size,2,none⟩) hl_P).trans k_P_2;replace f_P : ∀ o,wc.frozen? ⟨wa.heap.size,o,none⟩ = false := fun o => (hb.frozen (p := ⟨wa.heap.size,o,none⟩) hl_P).trans (f_P o);replace HX_P := Lib.hid (HX_P.out.below hb);replace k_Q_0 : wc.cell? ⟨wb.heap.size,0,none⟩ = some (.bool false) := (hb.cell (p := ⟨wb.heap.size,0,none⟩) hl_Q).trans k_Q_0;replace k_Q_1 : wc.cell? ⟨wb.heap.size,1,none⟩ = some (.slice none 0 0) := (hb.cell (p := ⟨wb.heap.size,1,none⟩) hl_Q).trans k_Q_1;replace k_Q_2 : wc.cell? ⟨wb.heap.size,2,none⟩ = some (.slice none 0 0) := (hb.cell (p := ⟨wb.heap.size,2,none⟩) hl_Q).trans k_Q_2;replace f_Q : ∀ o,wc.frozen? ⟨wb.heap.size,o,none⟩ = false := fun o => (hb.frozen (p := ⟨wb.heap.size,o,none⟩) hl_Q).trans (f_Q o);replace HX_Q := Lib.hid (HX_Q.out.below hb);replace HP1 := Lib.hid (HP1.out.below hb);replace HP2 := Lib.hid (HP2.out.below hb);replace HQ1 := Lib.hid (HQ1.out.below hb);replace HQ2 := Lib.hid (HQ2.out.below hb);replace HB := Lib.hid (HB.out.trans (hb.mono hs0));replace hN : N ≤ wc.heap.size := Nat.le_trans hN hb.size;replace hs0 : w.heap.size ≤ wc.heap.size := Nat.le_trans hs0 hb.size;replace hl_T : w.heap.size < wc.heap.size := Nat.lt_of_lt_of_le hl_T hb.size;replace hl_P : wa.heap.size < wc.heap.size := Nat.lt_of_lt_of_le hl_P hb.size;replace hl_Q : wb.heap.size < wc.heap.size := Nat.lt_of_lt_of_le hl_Q hb.size;clear hb;skip)
      | (go_at_call 9;refine (xtvalid_any _ _ _ _ _ false HV.out).mono ?_;rintro e wd ⟨rfl,hb⟩;replace hb : Below wc.heap.size wc wd := (by first | exact hb | exact bel_of_drew hb);have hs_wd : wc.heap.size ≤ wd.heap.size := hb.size;replace k_T_0 : wd.cell? ⟨w.heap.size,0,none⟩ = some (.int .i64 a) := (hb.cell (p := ⟨w.heap.size,0,none⟩) hl_T).trans k_T_0;replace k_T_1 : wd.cell? ⟨w.heap.size,1,none⟩ = some (.int .i64 b) := (hb.cell (p := ⟨w.heap.size,1,none⟩) hl_T).trans k_T_1;replace k_T_2 : wd.cell? ⟨w.heap.size,2,none⟩ = some (.int .i64 c) := (hb.cell (p := ⟨w.heap.size,2,none⟩) hl_T).trans k_T_2;replace k_T_3 : wd.cell? ⟨w.heap.size,3,none⟩ = some (.int .i64 d) := (hb.cell (p := ⟨w.heap.size,3,none⟩) hl_T).trans k_T_3;replace f_T : ∀ o,wd.frozen? ⟨w.heap.size,o,none⟩ = false := fun o => (hb.frozen (p := ⟨w.heap.size,o,none⟩) hl_T).trans (f_T o);replace HX_T := Lib.hid (HX_T.out.below hb);replace k_P_0 : wd.cell? ⟨wa.heap.size,0,none⟩ = some (.bool false) := (hb.cell (p := ⟨wa.heap.size,0,none⟩) hl_P).trans k_P_0;replace k_P_1 : wd.cell? ⟨wa.heap.size,1,none⟩ = some (.slice none 0 0) := (hb.cell (p := ⟨wa.heap.size,1,none⟩) hl_P).trans k_P_1;replace k_P_2 : wd.cell? ⟨wa.heap.size,2,none⟩ = some (.slice none 0 0) := (hb.cell (p := ⟨wa.heap.size,2,none⟩) hl_P).trans k_P_2;replace f_P : ∀ o,wd.frozen? ⟨wa.heap.size,o,none⟩ = false := fun o => (hb.frozen (p := ⟨wa.heap.size,o,none⟩) hl_P).trans (f_P o);replace HX_P := Lib.hid (HX_P.out.below hb);replace k_Q_0 : wd.cell? ⟨wb.heap.size,0,none⟩ = some (.bool false) := (hb.cell (p := ⟨wb.heap.size,0,none⟩) hl_Q).trans k_Q_0;replace k_Q_1 : wd.cell? ⟨wb.heap.size,1,none⟩ = some (.slice none 0 0) := (hb.cell (p := ⟨wb.heap.size,1,none⟩) hl_Q).trans k_Q_1;replace k_Q_2 : wd.cell? ⟨wb.heap.size,2,none⟩ = some (.slice none 0 0) := (hb.cell (p := ⟨wb.heap.size,2,none⟩) hl_Q).trans k_Q_2;replace f_Q : ∀ o,wd.frozen? ⟨wb.heap.size,o,none⟩ = false := fun o => (hb.frozen (p := ⟨wb.heap.size,o,none⟩) hl_Q).trans (f_Q o);replace HX_Q := Lib.hid (HX_Q.out.below hb);replace HP1 := Lib.hid (HP1.out.below hb);replace HP2 := Lib.hid (HP2.out.below hb);replace HQ1 := Lib.hid (HQ1.out.below hb);replace HQ2 := Lib.hid (HQ2.out.below hb);replace HB := Lib.hid (HB.out.trans (hb.mono hs0));replace hN : N ≤ wd.heap.size := Nat.le_trans hN hb.size;replace hs0 : w.heap.size ≤ wd.heap.size := Nat.le_trans hs0 hb.size;replace hl_T : w.heap.size < wd.heap.size := Nat.lt_of_lt_of_le hl_T hb.size;replace hl_P : wa.heap.size < wd.heap.size := Nat.lt_of_lt_of_le hl_P hb.size;replace hl_Q : wb.heap.size < wd.heap.size := Nat.lt_of_lt_of_le hl_Q hb.size;clear hb;skip)
      | (go_at_call 10;refine (SameRatio_any (N := N) _ _ _ _ _ _ _ _ _ _ _ _ _ _ (by exact hN) (by exact HP1.out) (by exact HQ1.out) (by exact HP2.out) (by exact HQ2.out)).mono ?_;rintro e we ⟨rfl,hb⟩;replace hb : Below wd.heap.size wd we := (by first | exact hb | exact bel_of_drew hb);have hs_we : wd.heap.size ≤ we.heap.size := hb.size;replace k_T_0 : we.cell? ⟨w.heap.size,0,none⟩ = some (.int .i64 a) := (hb.cell (p := ⟨w.heap.size,0,none⟩) hl_T).trans k_T_0;replace k_T_1 : we.cell? ⟨w.heap.size,1,none⟩ = some (.int .i64 b) := (hb.cell (p := ⟨w.heap.size,1,none⟩) hl_T).trans k_T_1;replace k_T_2 : we.cell? ⟨w.heap.size,2,none⟩ = some (.int .i64 c) := (hb.cell (p := ⟨w.heap.size,2,none⟩) hl_T).trans k_T_2;replace k_T_3 : we.cell? ⟨w.heap.size,3,none⟩ = some (.int .i64 d) := (hb.cell (p := ⟨w.heap.size,3,none⟩) hl_T).trans k_T_3;replace f_T : ∀ o,we.frozen? ⟨w.heap.size,o,none⟩ = false := fun o => (hb.frozen (p := ⟨w.heap.size,o,none⟩) hl_T).trans (f_T o);replace HX_T := Lib.hid (HX_T.out.below hb);replace k_P_0 : we.cell? ⟨wa.heap.size,0,none⟩ = some (.bool false) := (hb.cell (p := ⟨wa.heap.size,0,none⟩) hl_P).trans k_P_0;replace k_P_1 : we.cell? ⟨wa.heap.size,1,none⟩ = some (.slice none 0 0) := (hb.cell (p := ⟨wa.heap.size,1,none⟩) hl_P).trans k_P_1;replace k_P_2 : we.cell? ⟨wa.heap.size,2,none⟩ = some (.slice none 0 0) := (hb.cell (p := ⟨wa.heap.size,2,none⟩) hl_P).trans k_P_2;replace f_P : ∀ o,we.frozen? ⟨wa.heap.size,o,none⟩ = false := fun o => (hb.frozen (p := ⟨wa.heap.size,o,none⟩) hl_P).trans (f_P o);replace HX_P := Lib.hid (HX_P.out.below hb);replace k_Q_0 : we.cell? ⟨wb.heap.size,0,none⟩ = some (.bool false) := (hb.cell (p := ⟨wb.heap.size,0,none⟩) hl_Q).trans k_Q_0;replace k_Q_1 : we.cell? ⟨wb.heap.size,1,none⟩ = some (.slice none 0 0) := (hb.cell (p := ⟨wb.heap.size,1,none⟩) hl_Q).trans k_Q_1;replace k_Q_2 : we.cell? ⟨wb.heap.size,2,none⟩ = some (.slice none 0 0) := (hb.cell (p := ⟨wb.heap.size,2,none⟩) hl_Q).trans k_Q_2;replace f_Q : ∀ o,we.frozen? ⟨wb.heap.size,o,none⟩ = false := fun o => (hb.frozen (p := ⟨wb.heap.size,o,none⟩) hl_Q).trans (f_Q o);replace HX_Q := Lib.hid (HX_Q.out.below hb);replace HP1 := Lib.hid (HP1.out.below hb);replace HP2 := Lib.hid (HP2.out.below hb);replace HQ1 := Lib.hid (HQ1.out.below hb);replace HQ2 := Lib.hid (HQ2.out.below hb);replace HB := Lib.hid (HB.out.trans (hb.mono hs0));replace hN : N ≤ we.heap.size := Nat.le_trans hN hb.size;replace hs0 : w.heap.size ≤ we.heap.size := Nat.le_trans hs0 hb.size;replace hl_T : w.heap.size < we.heap.size := Nat.lt_of_lt_of_le hl_T hb.size;replace hl_P : wa.heap.size < we.heap.size := Nat.lt_of_lt_of_le hl_P hb.size;replace hl_Q : wb.heap.size < we.heap.size := Nat.lt_of_lt_of_le hl_Q hb.size;clear hb;skip))
  go_wp2_with fail
  clear hl_T f_T HX_T k_T_0 k_T_1 k_T_2 k_T_3
  clear HP1
  clear HP2
  clear HQ1
  clear HQ2
  refine calls_name fun W3 hW => ?_
  have HL_W3 := Lib.hid (show Below we.heap.size we W3 by rw [← hW];exact BlA)
  have hs_W3 : we.heap.size ≤ W3.heap.size := by rw [← hW];(first | omega | (simp;done) | (simp;omega))
  replace k_P_0 : W3.cell? ⟨wa.heap.size,0,none⟩ = some (.bool false) := (HL_W3.out.cell (p := ⟨wa.heap.size,0,none⟩) hl_P).trans k_P_0
  replace k_P_1 : W3.cell? ⟨wa.heap.size,1,none⟩ = some (.slice none 0 0) := (HL_W3.out.cell (p := ⟨wa.heap.size,1,none⟩) hl_P).trans k_P_1
  replace k_P_2 : W3.cell? ⟨wa.heap.size,2,none⟩ = some (.slice none 0 0) := (HL_W3.out.cell (p := ⟨wa.heap.size,2,none⟩) hl_P).trans k_P_2
  replace f_P : ∀ o,W3.frozen? ⟨wa.heap.size,o,none⟩ = false := fun o => (HL_W3.out.frozen (p := ⟨wa.heap.size,o,none⟩) hl_P).trans (f_P o)
  replace HX_P := Lib.hid (show Bn W3 (wa.heap.size) by rw [← hW];exact KpA)
  replace k_Q_0 : W3.cell? ⟨wb.heap.size,0,none⟩ = some (.bool false) := (HL_W3.out.cell (p := ⟨wb.heap.size,0,none⟩) hl_Q).trans k_Q_0
  replace k_Q_1 : W3.cell? ⟨wb.heap.size,1,none⟩ = some (.slice none 0 0) := (HL_W3.out.cell (p := ⟨wb.heap.size,1,none⟩) hl_Q).trans k_Q_1
  replace k_Q_2 : W3.cell? ⟨wb.heap.size,2,none⟩ = some (.slice none 0 0) := (HL_W3.out.cell (p := ⟨wb.heap.size,2,none⟩) hl_Q).trans k_Q_2
  replace f_Q : ∀ o,W3.frozen? ⟨wb.heap.size,o,none⟩ = false := fun o => (HL_W3.out.frozen (p := ⟨wb.heap.size,o,none⟩) hl_Q).trans (f_Q o)
  replace HX_Q := Lib.hid (show Bn W3 (wb.heap.size) by rw [← hW];exact KpA)
  replace HB := Lib.hid (show Below w.heap.size w W3 by rw [← hW];exact BlA)
  replace hN : N ≤ W3.heap.size := by rw [← hW];(first | omega | (simp;done) | (simp;omega))
  replace hs0 : w.heap.size ≤ W3.heap.size := by rw [← hW];(first | omega | (simp;done) | (simp;omega))
  replace hl_P : wa.heap.size < W3.heap.size := by rw [← hW];(first | omega | (simp;done) | (simp;omega))
  replace hl_Q : wb.heap.size < W3.heap.size := by rw [← hW];(first | omega | (simp;done) | (simp;omega))
  clear HL_W3
  clear hW
  refine (sign_bad x y _ hbad).mono ?_
  rintro e wf ⟨rfl,hb⟩
  have hs_wf : W3.heap.size ≤ wf.heap.size := hb.size
  replace k_P_0 : wf.cell? ⟨wa.heap.size,0,none⟩ = some (.bool false) := (hb.cell (p := ⟨wa.heap.size,0,none⟩) hl_P).trans k_P_0
  replace k_P_1 : wf.cell? ⟨wa.heap.size,1,none⟩ = some (.slice none 0 0) := (hb.cell (p := ⟨wa.heap.size,1,none⟩) hl_P).trans k_P_1
  replace k_P_2 : wf.cell? ⟨wa.heap.size,2,none⟩ = some (.slice none 0 0) := (hb.cell (p := ⟨wa.heap.size,2,none⟩) hl_P).trans k_P_2
  replace f_P : ∀ o,wf.frozen? ⟨wa.heap.size,o,none⟩ = false := fun o => (hb.frozen (p := ⟨wa.heap.size,o,none⟩) hl_P).trans (f_P o)
  replace HX_P := Lib.hid (HX_P.out.below hb)
  replace k_Q_0 : wf.cell? ⟨wb.heap.size,0,none⟩ = some (.bool false) := (hb.cell (p := ⟨wb.heap.size,0,none⟩) hl_Q).trans k_Q_0
  replace k_Q_1 : wf.cell? ⟨wb.heap.size,1,none⟩ = some (.slice none 0 0) := (hb.cell (p := ⟨wb.heap.size,1,none⟩) hl_Q).trans k_Q_1
  replace k_Q_2 : wf.cell? ⟨wb.heap.size,2,none⟩ = some (.slice none 0 0) := (hb.cell (p := ⟨wb.heap.size,2,none⟩) hl_Q).trans k_Q_2
  replace f_Q : ∀ o,wf.frozen? ⟨wb.heap.size,o,none⟩ = false := fun o => (hb.frozen (p := ⟨wb.heap.size,o,none⟩) hl_Q).trans (f_Q o)
  replace HX_Q := Lib.hid (HX_Q.out.below hb)
  replace HB := Lib.hid (HB.out.trans (hb.mono hs0))
  replace hN : N ≤ wf.heap.size := Nat.le_trans hN hb.size
  replace hs0 : w.heap.size ≤ wf.heap.size := Nat.le_trans hs0 hb.size
  replace hl_P : wa.heap.size < wf.heap.size := Nat.lt_of_lt_of_le hl_P hb.size
  replace hl_Q : wb.heap.size < wf.heap.size := Nat.lt_of_lt_of_le hl_Q hb.size
  clear hb
  go_wp2_with fail
  refine calls_name fun W4 hW => ?_
  have hs_W4 : wf.heap.size ≤ W4.heap.size := by rw [← hW];(first | omega | (simp;done) | (simp;omega))
  replace k_P_0 : W4.cell? ⟨wa.heap.size,0,none⟩ = some (.bool false) := by rw [← hW];(first | (go_simp;done) | (simp [go_sem,k_P_0];done) | (simp [go_sem,k_P_0,k_P_1,k_P_2];done) | (simp [go_sem,k_P_0,k_P_1,k_P_2,k_Q_0,k_Q_1,k_Q_2,f_P,f_Q,hl_P,hl_Q];done))
  replace k_P_1 : W4.cell? ⟨wa.heap.size,1,none⟩ = some (.slice none 0 0) := by rw [← hW];(first | (go_simp;done) | (simp [go_sem,k_P_1];done) | (simp [go_sem,k_P_0,k_P_1,k_P_2];done) | (simp [go_sem,k_P_0,k_P_1,k_P_2,k_Q_0,k_Q_1,k_Q_2,f_P,f_Q,hl_P,hl_Q];done))
  replace k_P_2 : W4.cell? ⟨wa.heap.size,2,none⟩ = some (.slice none 0 0) := by rw [← hW];(first | (go_simp;done) | (simp [go_sem,k_P_2];done) | (simp [go_sem,k_P_0,k_P_1,k_P_2];done) | (simp [go_sem,k_P_0,k_P_1,k_P_2,k_Q_0,k_Q_1,k_Q_2,f_P,f_Q,hl_P,hl_Q];done))
  replace f_P : ∀ o,W4.frozen? ⟨wa.heap.size,o,none⟩ = false := by intro o;rw [← hW];(first | with_reducible exact f_P o | (simp [go_sem,f_P];done) | (simp [go_sem,f_P,hl_P];done) | (go_simp;done) | (simp [go_sem,k_P_0,k_P_1,k_P_2,k_Q_0,k_Q_1,k_Q_2,f_P,f_Q,hl_P,hl_Q];done))
  replace HX_P := Lib.hid (show Bn W4 (wa.heap.size) by rw [← hW];exact KpA)
  replace k_Q_0 : W4.cell? ⟨wb.heap.size,0,none⟩ = some (.bool false) := by rw [← hW];(first | with_reducible exact k_Q_0 | (simp [go_sem,k_Q_0];done) | (simp [go_sem,k_Q_0,hl_Q];done) | (go_simp;done) | (simp [go_sem,k_P_0,k_P_1,k_P_2,k_Q_0,k_Q_1,k_Q_2,f_P,f_Q,hl_P,hl_Q];done))
  replace k_Q_1 : W4.cell? ⟨wb.heap.size,1,none⟩ = some (.slice none 0 0) := by rw [← hW];(first | with_reducible exact k_Q_1 | (simp [go_sem,k_Q_1];done) | (simp [go_sem,k_Q_1,hl_Q];done) | (go_simp;done) | (simp [go_sem,k_P_0,k_P_1,k_P_2,k_Q_0,k_Q_1,k_Q_2,f_P,f_Q,hl_P,hl_Q];done))
  replace k_Q_2 : W4.cell? ⟨wb.heap.size,2,none⟩ = some (.slice none 0 0) := by rw [← hW];(first | with_reducible exact k_Q_2 | (simp [go_sem,k_Q_2];done) | (simp [go_sem,k_Q_2,hl_Q];done) | (go_simp;done) | (simp [go_sem,k_P_0,k_P_1,k_P_2,k_Q_0,k_Q_1,k_Q_2,f_P,f_Q,hl_P,hl_Q];done))
  replace f_Q : ∀ o,W4.frozen? ⟨wb.heap.size,o,none⟩ = false := by intro o;rw [← hW];(first | with_reducible exact f_Q o | (simp [go_sem,f_Q];done) | (simp [go_sem,f_Q,hl_Q];done) | (go_simp;done) | (simp [go_sem,k_P_0,k_P_1,k_P_2,k_Q_0,k_Q_1,k_Q_2,f_P,f_Q,hl_P,hl_Q];done))
  replace HX_Q := Lib.hid (show Bn W4 (wb.heap.size) by rw [← hW];exact KpA)
  replace HB := Lib.hid (show Below w.heap.size w W4 by rw [← hW];exact BlA)
  replace hN : N ≤ W4.heap.size := by rw [← hW];(first | omega | (simp;done) | (simp;omega))
  replace hs0 : w.heap.size ≤ W4.heap.size := by rw [← hW];(first | omega | (simp;done) | (simp;omega))
  replace hl_P : wa.heap.size < W4.heap.size := by rw [← hW];(first | omega | (simp;done) | (simp;omega))
  replace hl_Q : wb.heap.size < W4.heap.size := by rw [← hW];(first | omega | (simp;done) | (simp;omega))
  clear hW
  refine (xsign_bad x y _ hbad).mono ?_
  rintro e wg ⟨rfl,hb⟩
  have hs_wg : W4.heap.size ≤ wg.heap.size := hb.size
  replace k_P_0 : wg.cell? ⟨wa.heap.size,0,none⟩ = some (.bool false) := (hb.cell (p := ⟨wa.heap.size,0,none⟩) hl_P).trans k_P_0
  replace k_P_1 : wg.cell? ⟨wa.heap.size,1,none⟩ = some (.slice none 0 0) := (hb.cell (p := ⟨wa.heap.size,1,none⟩) hl_P).trans k_P_1
  replace k_P_2 : wg.cell? ⟨wa.heap.size,2,none⟩ = some (.slice none 0 0) := (hb.cell (p := ⟨wa.heap.size,2,none⟩) hl_P).trans k_P_2
  replace f_P : ∀ o,wg.frozen? ⟨wa.heap.size,o,none⟩ = false := fun o => (hb.frozen (p := ⟨wa.heap.size,o,none⟩) hl_P).trans (f_P o)
  replace HX_P := Lib.hid (HX_P.out.below hb)
  replace k_Q_0 : wg.cell? ⟨wb.heap.size,0,none⟩ = some (.bool false) := (hb.cell (p := ⟨wb.heap.size,0,none⟩) hl_Q).trans k_Q_0
  replace k_Q_1 : wg.cell? ⟨wb.heap.size,1,none⟩ = some (.slice none 0 0) := (hb.cell (p := ⟨wb.heap.size,1,none⟩) hl_Q).trans k_Q_1
  replace k_Q_2 : wg.cell? ⟨wb.heap.size,2,none⟩ = some (.slice none 0 0) := (hb.cell (p := ⟨wb.heap.size,2,none⟩) hl_Q).trans k_Q_2
  replace f_Q : ∀ o,wg.frozen? ⟨wb.heap.size,o,none⟩ = false := fun o => (hb.frozen (p := ⟨wb.heap.size,o,none⟩) hl_Q).trans (f_Q o)
  replace HX_Q := Lib.hid (HX_Q.out.below hb)
  replace HB := Lib.hid (HB.out.trans (hb.mono hs0))
  replace hN : N ≤ wg.heap.size := Nat.le_trans hN hb.size
  replace hs0 : w.heap.size ≤ wg.heap.size := Nat.le_trans hs0 hb.size
  replace hl_P : wa.heap.size < wg.heap.size := Nat.lt_of_lt_of_le hl_P hb.size
  replace hl_Q : wb.heap.size < wg.heap.size := Nat.lt_of_lt_of_le hl_Q hb.size
  clear hb
  go_wp2_with fail
  refine calls_name fun W5 hW => ?_
  have hs_W5 : wg.heap.size ≤ W5.heap.size := by rw [← hW];(first | omega | (simp;done) | (simp;omega))
  have HU1 := Lib.hid (Nt.zero N W5)
  have HU2 := Lib.hid (Nt.zero N W5)
  have HV1 := Lib.hid (Nt.zero N W5)
  have HV2 := Lib.hid (Nt.zero N W5)
  replace k_P_0 : W5.cell? ⟨wa.heap.size,0,none⟩ = some (.bool false) := by rw [← hW];(first | with_reducible exact k_P_0 | (simp [go_sem,k_P_0];done) | (simp [go_sem,k_P_0,hl_P];done) | (go_simp;done) | (simp [go_sem,k_P_0,k_P_1,k_P_2,k_Q_0,k_Q_1,k_Q_2,f_P,f_Q,hl_P,hl_Q];done))
  replace k_P_1 : W5.cell? ⟨wa.heap.size,1,none⟩ = some (.slice none 0 0) := by rw [← hW];(first | with_reducible exact k_P_1 | (simp [go_sem,k_P_1];done) | (simp [go_sem,k_P_1,hl_P];done) | (go_simp;done) | (simp [go_sem,k_P_0,k_P_1,k_P_2,k_Q_0,k_Q_1,k_Q_2,f_P,f_Q,hl_P,hl_Q];done))
  replace k_P_2 : W5.cell? ⟨wa.heap.size,2,none⟩ = some (.slice none 0 0) := by rw [← hW];(first | with_reducible exact k_P_2 | (simp [go_sem,k_P_2];done) | (simp [go_sem,k_P_2,hl_P];done) | (go_simp;done) | (simp [go_sem,k_P_0,k_P_1,k_P_2,k_Q_0,k_Q_1,k_Q_2,f_P,f_Q,hl_P,hl_Q];done))
  replace f_P : ∀ o,W5.frozen? ⟨wa.heap.size,o,none⟩ = false := by intro o;rw [← hW];(first | with_reducible exact f_P o | (simp [go_sem,f_P];done) | (simp [go_sem,f_P,hl_P];done) | (go_simp;done) | (simp [go_sem,k_P_0,k_P_1,k_P_2,k_Q_0,k_Q_1,k_Q_2,f_P,f_Q,hl_P,hl_Q];done))
  replace HX_P := Lib.hid (show Bn W5 (wa.heap.size) by rw [← hW];exact KpA)
  replace k_Q_0 : W5.cell? ⟨wb.heap.size,0,none⟩ = some (.bool false) := by rw [← hW];(first | (go_simp;done) | (simp [go_sem,k_Q_0];done) | (simp [go_sem,k_Q_0,k_Q_1,k_Q_2];done) | (simp [go_sem,k_P_0,k_P_1,k_P_2,k_Q_0,k_Q_1,k_Q_2,f_P,f_Q,hl_P,hl_Q];done))
  replace k_Q_1 : W5.cell? ⟨wb.heap.size,1,none⟩ = some (.slice none 0 0) := by rw [← hW];(first | (go_simp;done) | (simp [go_sem,k_Q_1];done) | (simp [go_sem,k_Q_0,k_Q_1,k_Q_2];done) | (simp [go_sem,k_P_0,k_P_1,k_P_2,k_Q_0,k_Q_1,k_Q_2,f_P,f_Q,hl_P,hl_Q];done))
  replace k_Q_2 : W5.cell? ⟨wb.heap.size,2,none⟩ = some (.slice none 0 0) := by rw [← hW];(first | (go_simp;done) | (simp [go_sem,k_Q_2];done) | (simp [go_sem,k_Q_0,k_Q_1,k_Q_2];done) | (simp [go_sem,k_P_0,k_P_1,k_P_2,k_Q_0,k_Q_1,k_Q_2,f_P,f_Q,hl_P,hl_Q];done))
  replace f_Q : ∀ o,W5.frozen? ⟨wb.heap.size,o,none⟩ = false := by intro o;rw [← hW];(first | with_reducible exact f_Q o | (simp [go_sem,f_Q];done) | (simp [go_sem,f_Q,hl_Q];done) | (go_simp;done) | (simp [go_sem,k_P_0,k_P_1,k_P_2,k_Q_0,k_Q_1,k_Q_2,f_P,f_Q,hl_P,hl_Q];done))
  replace HX_Q := Lib.hid (show Bn W5 (wb.heap.size) by rw [← hW];exact KpA)
  replace HB := Lib.hid (show Below w.heap.size w W5 by rw [← hW];exact BlA)
  replace hN : N ≤ W5.heap.size := by rw [← hW];(first | omega | (simp;done) | (simp;omega))
  replace hs0 : w.heap.size ≤ W5.heap.size := by rw [← hW];(first | omega | (simp;done) | (simp;omega))
  replace hl_P : wa.heap.size < W5.heap.size := by rw [← hW];(first | omega | (simp;done) | (simp;omega))
  replace hl_Q : wb.heap.size < W5.heap.size := by rw [← hW];(first | omega | (simp;done) | (simp;omega))
  clear hW
  refine (SameRatio_any (N := N) _ _ _ _ _ _ _ _ _ _ _ _ _ _ (hN) (HU1.out) (HV1.out) (HU2.out) (HV2.out)).mono ?_
  rintro e wh ⟨rfl,hb⟩
  have hs_wh : W5.heap.size ≤ wh.heap.size := hb.size
  replace k_P_0 : wh.cell? ⟨wa.heap.size,0,none⟩ = some (.bool false) := (hb.cell (p := ⟨wa.heap.size,0,none⟩) hl_P).trans k_P_0
  replace k_P_1 : wh.cell? ⟨wa.heap.size,1,none⟩ = some (.slice none 0 0) := (hb.cell (p := ⟨wa.heap.size,1,none⟩) hl_P).trans k_P_1
  replace k_P_2 : wh.cell? ⟨wa.heap.size,2,none⟩ = some (.slice none 0 0) := (hb.cell (p := ⟨wa.heap.size,2,none⟩) hl_P).trans k_P_2
  replace f_P : ∀ o,wh.frozen? ⟨wa.heap.size,o,none⟩ = false := fun o => (hb.frozen (p := ⟨wa.heap.size,o,none⟩) hl_P).trans (f_P o)
  replace HX_P := Lib.hid (HX_P.out.below hb)
  replace k_Q_0 : wh.cell? ⟨wb.heap.size,0,none⟩ = some (.bool false) := (hb.cell (p := ⟨wb.heap.size,0,none⟩) hl_Q).trans k_Q_0
  replace k_Q_1 : wh.cell? ⟨wb.heap.size,1,none⟩ = some (.slice none 0 0) := (hb.cell (p := ⟨wb.heap.size,1,none⟩) hl_Q).trans k_Q_1
  replace k_Q_2 : wh.cell? ⟨wb.heap.size,2,none⟩ = some (.slice none 0 0) := (hb.cell (p := ⟨wb.heap.size,2,none⟩) hl_Q).trans k_Q_2
  replace f_Q : ∀ o,wh.frozen? ⟨wb.heap.size,o,none⟩ = false := fun o => (hb.frozen (p := ⟨wb.heap.size,o,none⟩) hl_Q).trans (f_Q o)
  replace HX_Q := Lib.hid (HX_Q.out.below hb)
  replace HB := Lib.hid (HB.out.trans (hb.mono hs0))
  replace hN : N ≤ wh.heap.size := Nat.le_trans hN hb.size
  replace hs0 : w.heap.size ≤ wh.heap.size := Nat.le_trans hs0 hb.size
  replace hl_P : wa.heap.size < wh.heap.size := Nat.lt_of_lt_of_le hl_P hb.size
  replace hl_Q : wb.heap.size < wh.heap.size := Nat.lt_of_lt_of_le hl_Q hb.size
  clear hb
  go_wp2_with fail
  refine calls_name fun W6 hW => ?_
  have HL_W6 := Lib.hid (show Below wh.heap.size wh W6 by rw [← hW];exact BlA)
  have hs_W6 : wh.heap.size ≤ W6.heap.size := by rw [← hW];(first | omega | (simp;done) | (simp;omega))
  replace k_P_0 : W6.cell? ⟨wa.heap.size,0,none⟩ = some (.bool false) := (HL_W6.out.cell (p := ⟨wa.heap.size,0,none⟩) hl_P).trans k_P_0
  replace k_P_1 : W6.cell? ⟨wa.heap.size,1,none⟩ = some (.slice none 0 0) := (HL_W6.out.cell (p := ⟨wa.heap.size,1,none⟩) hl_P).trans k_P_1
  replace k_P_2 : W6.cell? ⟨wa.heap.size,2,none⟩ = some (.slice none 0 0) := (HL_W6.out.cell (p := ⟨wa.heap.size,2,none⟩) hl_P).trans k_P_2
  replace f_P : ∀ o,W6.frozen? ⟨wa.heap.size,o,none⟩ = false := fun o => (HL_W6.out.frozen (p := ⟨wa.heap.size,o,none⟩) hl_P).trans (f_P o)
  replace HX_P := Lib.hid (show Bn W6 (wa.heap.size) by rw [← hW];exact KpA)
  replace k_Q_0 : W6.cell? ⟨wb.heap.size,0,none⟩ = some (.bool false) := (HL_W6.out.cell (p := ⟨wb.heap.size,0,none⟩) hl_Q).trans k_Q_0
  replace k_Q_1 : W6.cell? ⟨wb.heap.size,1,none⟩ = some (.slice none 0 0) := (HL_W6.out.cell (p := ⟨wb.heap.size,1,none⟩) hl_Q).trans k_Q_1
  replace k_Q_2 : W6.cell? ⟨wb.heap.size,2,none⟩ = some (.slice none 0 0) := (HL_W6.out.cell (p := ⟨wb.heap.size,2,none⟩) hl_Q).trans k_Q_2
  replace f_Q : ∀ o,W6.frozen? ⟨wb.heap.size,o,none⟩ = false := fun o => (HL_W6.out.frozen (p := ⟨wb.heap.size,o,none⟩) hl_Q).trans (f_Q o)
  replace HX_Q := Lib.hid (show Bn W6 (wb.heap.size) by rw [← hW];exact KpA)
  replace HB := Lib.hid (show Below w.heap.size w W6 by rw [← hW];exact BlA)
  replace hN : N ≤ W6.heap.size := by rw [← hW];(first | omega | (simp;done) | (simp;omega))
  replace hs0 : w.heap.size ≤ W6.heap.size := by rw [← hW];(first | omega | (simp;done) | (simp;omega))
  replace hl_P : wa.heap.size < W6.heap.size := by rw [← hW];(first | omega | (simp;done) | (simp;omega))
  replace hl_Q : wb.heap.size < W6.heap.size := by rw [← hW];(first | omega | (simp;done) | (simp;omega))
  clear HL_W6
  clear hW
  refine (dawake_any (N := N) _ hN (HTw.out.below HB.out)).mono ?_
  rintro e wi ⟨rfl,hb⟩
  have hs_wi : W6.heap.size ≤ wi.heap.size := hb.size
  replace k_P_0 : wi.cell? ⟨wa.heap.size,0,none⟩ = some (.bool false) := (hb.cell (p := ⟨wa.heap.size,0,none⟩) hl_P).trans k_P_0
  replace k_P_1 : wi.cell? ⟨wa.heap.size,1,none⟩ = some (.slice none 0 0) := (hb.cell (p := ⟨wa.heap.size,1,none⟩) hl_P).trans k_P_1
  replace k_P_2 : wi.cell? ⟨wa.heap.size,2,none⟩ = some (.slice none 0 0) := (hb.cell (p := ⟨wa.heap.size,2,none⟩) hl_P).trans k_P_2
  replace f_P : ∀ o,wi.frozen? ⟨wa.heap.size,o,none⟩ = false := fun o => (hb.frozen (p := ⟨wa.heap.size,o,none⟩) hl_P).trans (f_P o)
  replace HX_P := Lib.hid (HX_P.out.below hb)
  replace k_Q_0 : wi.cell? ⟨wb.heap.size,0,none⟩ = some (.bool false) := (hb.cell (p := ⟨wb.heap.size,0,none⟩) hl_Q).trans k_Q_0
  replace k_Q_1 : wi.cell? ⟨wb.heap.size,1,none⟩ = some (.slice none 0 0) := (hb.cell (p := ⟨wb.heap.size,1,none⟩) hl_Q).trans k_Q_1
  replace k_Q_2 : wi.cell? ⟨wb.heap.size,2,none⟩ = some (.slice none 0 0) := (hb.cell (p := ⟨wb.heap.size,2,none⟩) hl_Q).trans k_Q_2
  replace f_Q : ∀ o,wi.frozen? ⟨wb.heap.size,o,none⟩ = false := fun o => (hb.frozen (p := ⟨wb.heap.size,o,none⟩) hl_Q).trans (f_Q o)
  replace HX_Q := Lib.hid (HX_Q.out.below hb)
  replace HB := Lib.hid (HB.out.trans (hb.mono hs0))
  replace hN : N ≤ wi.heap.size := Nat.le_trans hN hb.size
  replace hs0 : w.heap.size ≤ wi.heap.size := Nat.le_trans hs0 hb.size
  replace hl_P : wa.heap.size < wi.heap.size := Nat.lt_of_lt_of_le hl_P hb.size
  replace hl_Q : wb.heap.size < wi.heap.size := Nat.lt_of_lt_of_le hl_Q hb.size
  clear hb
  go_wp2_with fail
  go_ret
  exact ⟨rfl,HB.out⟩
end Go.Proofs.YtnillajhhimeiaaGreatDoor
