import Derived.Test.YtnillajhhimeiaaGreatDoorJoH
namespace Go.Proofs.YtnillajhhimeiaaGreatDoor
open Go.RowKit
def sel4 {α : Type} (a b c d : α) (i : Nat) : α := if i = 0 then a else if i = 1 then b else if i = 2 then c else d
def vldT (a b c d : Int) : Bool := (List.range 4).all fun j => decide (0 ≤ sel4 a b c d j ∧ sel4 a b c d j ≤ 30)
theorem vldT_all {a b c d : Int} : vldT a b c d = true ↔ ∀ j,j < 4 → 0 ≤ sel4 a b c d j ∧ sel4 a b c d j ≤ 30 := by
  unfold vldT
  simp only [List.all_eq_true,List.mem_range,decide_eq_true_eq]
theorem vldT_no {a b c d : Int} {k : Nat} (hk : k < 4) (h : ¬ (0 ≤ sel4 a b c d k ∧ sel4 a b c d k ≤ 30)) : vldT a b c d = false := by
  cases e : vldT a b c d
  · rfl
  · exact absurd (vldT_all.1 e k hk) h
theorem vldT_iff {a b c d : Int} : vldT a b c d = true ↔ (0 ≤ a ∧ a ≤ 30) ∧ (0 ≤ b ∧ b ≤ 30) ∧ (0 ≤ c ∧ c ≤ 30) ∧ (0 ≤ d ∧ d ≤ 30) := by
  rw [vldT_all]
  constructor
  · intro h
    exact ⟨h 0 (by omega),h 1 (by omega),h 2 (by omega),h 3 (by omega)⟩
  · rintro ⟨h0,h1,h2,h3⟩ j hj
    obtain rfl | rfl | rfl | rfl : j = 0 ∨ j = 1 ∨ j = 2 ∨ j = 3 := by omega
    · exact h0
    · exact h1
    · exact h2
    · exact h3
set_option maxHeartbeats 2000000 in
theorem dvalid_any (a b c d : Int) (w : World) (v : Bool) (hv : vldT a b c d = v) :
    Calls Tryz.prog 8 #[.agg #[.int .i64 a,.int .i64 b,.int .i64 c,.int .i64 d]] w fun e w' => e = .returned (.bool v) ∧ Below w.heap.size w w' := by
  have HV := Lib.hid hv
  clear hv
  go_enter Tryz.func8,Tryz.ntmps8
  go_wp2_with fail
  go_loopw [4,15] (fun _ i wr => ∃ k : Nat,k ≤ 4 ∧ i = .int .i64 k ∧ (∀ j,j < 4 → wr.cell? ⟨w.heap.size + 1,j,none⟩ = some (.int .i64 (sel4 a b c d j))) ∧ Hid (∀ j,j < k → 0 ≤ sel4 a b c d j ∧ sel4 a b c d j ≤ 30) ∧ Below w.heap.size w wr) (fun _ i _ => 4 - (intOf i).toNat)
  case atStart =>
    refine ⟨0,by omega,rfl,fun j hj => ?_,Lib.hid (fun j hj => by omega),bel2 w _ _⟩
    obtain rfl | rfl | rfl | rfl : j = 0 ∨ j = 1 ∨ j = 2 ∨ j = 3 := by omega
    all_goals simp [sel4]
  case round =>
    obtain ⟨k,hk,rfl,hc,hin,hbel⟩ := hrel
    have HB := Lib.hid hbel
    clear hbel
    by_cases hk4 : k < 4
    · have c1 := hc k hk4
      have HC := Lib.hid hc
      obtain ⟨x,ex⟩ : ∃ x,sel4 a b c d k = x := ⟨_,rfl⟩
      rw [ex] at c1
      have EX := Lib.hid ex
      clear hc ex
      have hkz : (k : Int) < 4 := by omega
      by_cases x0 : x < 0
      · go_wp2_with fail
        go_ret
        have ev : v = false := by rw [← HV.out];exact vldT_no hk4 (fun h => by rw [EX.out] at h;omega)
        exact ⟨by rw [ev];rfl,HB.out⟩
      · by_cases x1 : 30 < x
        · go_wp2_with fail
          go_ret
          have ev : v = false := by rw [← HV.out];exact vldT_no hk4 (fun h => by rw [EX.out] at h;omega)
          exact ⟨by rw [ev];rfl,HB.out⟩
        · go_wp2_with fail
          go_roundw
          case rel => exact ⟨k + 1,by omega,by go_num,HC.out,Lib.hid (all_succ hin.out (by rw [EX.out];omega)),HB.out⟩
          case measure => simp [intOf];omega
    · obtain rfl : k = 4 := by omega
      go_wp2_with fail
      go_ret
      have ev : v = true := by rw [← HV.out];exact vldT_all.2 hin.out
      exact ⟨by rw [ev];rfl,HB.out⟩
set_option maxHeartbeats 2000000 in
theorem fisher_bad {N : Nat} (a b c d : Int) (w : World) (hN : N ≤ w.heap.size) (hv : vldT a b c d = false) :
    Calls Tryz.prog 6 #[.agg #[.int .i64 a,.int .i64 b,.int .i64 c,.int .i64 d]] w (RatErr w 3) := by
  have HV := Lib.hid hv
  clear hv
  have hN0 := hN
  have HB := Lib.hid (Below.refl w.heap.size w)
  go_enter Tryz.func6,Tryz.ntmps6
  go_wp2_with fail
  refine calls_name fun W0 hW => ?_
  have hs_W0 : w.heap.size ≤ W0.heap.size := by rw [← hW];(first | omega | (simp;done) | (simp;omega))
  have k_T_0 : W0.cell? ⟨w.heap.size,0,none⟩ = some (.int .i64 a) := by rw [← hW];(first | (go_simp;done) | (simp;done) | (simp [go_sem];done) | (simp [go_sem];done))
  have k_T_1 : W0.cell? ⟨w.heap.size,1,none⟩ = some (.int .i64 b) := by rw [← hW];(first | (go_simp;done) | (simp;done) | (simp [go_sem];done) | (simp [go_sem];done))
  have k_T_2 : W0.cell? ⟨w.heap.size,2,none⟩ = some (.int .i64 c) := by rw [← hW];(first | (go_simp;done) | (simp;done) | (simp [go_sem];done) | (simp [go_sem];done))
  have k_T_3 : W0.cell? ⟨w.heap.size,3,none⟩ = some (.int .i64 d) := by rw [← hW];(first | (go_simp;done) | (simp;done) | (simp [go_sem];done) | (simp [go_sem];done))
  have f_T : ∀ o,W0.frozen? ⟨w.heap.size,o,none⟩ = false := by intro o;rw [← hW];(first | (go_simp;done) | (simp;done) | (simp [go_sem];done) | (simp [go_sem];done))
  have HX_T := Lib.hid (show Bn W0 (w.heap.size) by rw [← hW];exact KpA)
  have k_R_0 : W0.cell? ⟨w.heap.size + 1,0,none⟩ = some (.bool false) := by rw [← hW];(first | (go_simp;done) | (simp;done) | (simp [go_sem];done) | (simp [go_sem];done))
  have k_R_1 : W0.cell? ⟨w.heap.size + 1,1,none⟩ = some (.slice none 0 0) := by rw [← hW];(first | (go_simp;done) | (simp;done) | (simp [go_sem];done) | (simp [go_sem];done))
  have k_R_2 : W0.cell? ⟨w.heap.size + 1,2,none⟩ = some (.slice none 0 0) := by rw [← hW];(first | (go_simp;done) | (simp;done) | (simp [go_sem];done) | (simp [go_sem];done))
  have f_R : ∀ o,W0.frozen? ⟨w.heap.size + 1,o,none⟩ = false := by intro o;rw [← hW];(first | (go_simp;done) | (simp;done) | (simp [go_sem];done) | (simp [go_sem];done))
  have HX_R := Lib.hid (show Bn W0 (w.heap.size + 1) by rw [← hW];exact KpA)
  replace HB := Lib.hid (show Below w.heap.size w W0 by rw [← hW];exact BlA)
  replace hN : N ≤ W0.heap.size := by rw [← hW];(first | omega | (simp;done) | (simp;omega))
  have hs0 : w.heap.size ≤ W0.heap.size := by rw [← hW];(first | omega | (simp;done) | (simp;omega))
  have hl_T : w.heap.size < W0.heap.size := by rw [← hW];(first | omega | (simp;done) | (simp;omega))
  have hl_R : w.heap.size + 1 < W0.heap.size := by rw [← hW];(first | omega | (simp;done) | (simp;omega))
  clear hW
  refine (dvalid_any _ _ _ _ _ false HV.out).mono ?_
  rintro e wa ⟨rfl,hb⟩
  have hs_wa : W0.heap.size ≤ wa.heap.size := hb.size
  replace k_T_0 : wa.cell? ⟨w.heap.size,0,none⟩ = some (.int .i64 a) := (hb.cell (p := ⟨w.heap.size,0,none⟩) hl_T).trans k_T_0
  replace k_T_1 : wa.cell? ⟨w.heap.size,1,none⟩ = some (.int .i64 b) := (hb.cell (p := ⟨w.heap.size,1,none⟩) hl_T).trans k_T_1
  replace k_T_2 : wa.cell? ⟨w.heap.size,2,none⟩ = some (.int .i64 c) := (hb.cell (p := ⟨w.heap.size,2,none⟩) hl_T).trans k_T_2
  replace k_T_3 : wa.cell? ⟨w.heap.size,3,none⟩ = some (.int .i64 d) := (hb.cell (p := ⟨w.heap.size,3,none⟩) hl_T).trans k_T_3
  replace f_T : ∀ o,wa.frozen? ⟨w.heap.size,o,none⟩ = false := fun o => (hb.frozen (p := ⟨w.heap.size,o,none⟩) hl_T).trans (f_T o)
  replace HX_T := Lib.hid (HX_T.out.below hb)
  replace k_R_0 : wa.cell? ⟨w.heap.size + 1,0,none⟩ = some (.bool false) := (hb.cell (p := ⟨w.heap.size + 1,0,none⟩) hl_R).trans k_R_0
  replace k_R_1 : wa.cell? ⟨w.heap.size + 1,1,none⟩ = some (.slice none 0 0) := (hb.cell (p := ⟨w.heap.size + 1,1,none⟩) hl_R).trans k_R_1
  replace k_R_2 : wa.cell? ⟨w.heap.size + 1,2,none⟩ = some (.slice none 0 0) := (hb.cell (p := ⟨w.heap.size + 1,2,none⟩) hl_R).trans k_R_2
  replace f_R : ∀ o,wa.frozen? ⟨w.heap.size + 1,o,none⟩ = false := fun o => (hb.frozen (p := ⟨w.heap.size + 1,o,none⟩) hl_R).trans (f_R o)
  replace HX_R := Lib.hid (HX_R.out.below hb)
  replace HB := Lib.hid (HB.out.trans (hb.mono hs0))
  replace hN : N ≤ wa.heap.size := Nat.le_trans hN hb.size
  replace hs0 : w.heap.size ≤ wa.heap.size := Nat.le_trans hs0 hb.size
  replace hl_T : w.heap.size < wa.heap.size := Nat.lt_of_lt_of_le hl_T hb.size
  replace hl_R : w.heap.size + 1 < wa.heap.size := Nat.lt_of_lt_of_le hl_R hb.size
  clear hb
  go_wp2_with fail
  refine bodyPost_ret (v := .tuple #[.agg #[.bool false,.slice none 0 0,.slice none 0 0],.int .i64 3]) (by simp [results,Tryz.results6,go_sem,k_R_0,k_R_1,k_R_2]) rfl ⟨rfl,?_⟩
  all_goals exact KBA
set_option maxHeartbeats 4000000 in
theorem fisher_ok {N : Nat} (a b c d : Nat) (w : World) (hN : N ≤ w.heap.size) (ha : a ≤ 30) (hb : b ≤ 30) (hc : c ≤ 30) (hd : d ≤ 30) (p : Rat) (hp : fishQ a b c d = p) :
    Calls Tryz.prog 6 #[.agg #[.int .i64 (a : Nat),.int .i64 (b : Nat),.int .i64 (c : Nat),.int .i64 (d : Nat)]] w (RatOk N w p) := by
  have HV := Lib.hid (show vldT a b c d = true from vldT_iff.2 ⟨by omega,by omega,by omega,by omega⟩)
  obtain ⟨r,hr⟩ : ∃ r,a + b = r := ⟨_,rfl⟩
  obtain ⟨m,hm⟩ : ∃ m,a + c = m := ⟨_,rfl⟩
  obtain ⟨t,ht⟩ : ∃ t,a + b + c + d = t := ⟨_,rfl⟩
  obtain ⟨n,hn⟩ : ∃ n,min m r + 1 = n := ⟨_,rfl⟩
  have HNN := Lib.hid hn
  have HP := Lib.hid (show bothQ (hyQ t m r) n a = p by rw [← hn,← hm,← hr,← ht];exact hp)
  have HVV := Lib.hid (show valid (hyQ t m r) n = true by rw [← hn];exact hyQ_valid t m r (by omega) (by omega) (by omega))
  have han : a < n := by omega
  have hnn : n ≤ 61 := by omega
  have e1 : (a : Int) + (b : Int) = (r : Int) := by omega
  have e2 : (r : Int) + (c : Int) + (d : Int) = (t : Int) := by omega
  have e3 : (a : Int) + (c : Int) = (m : Int) := by omega
  have t1 : t ≤ 120 := by omega
  have t2 : m ≤ t := by omega
  have t3 : r ≤ t := by omega
  have t4 : (r : Int) + (c : Int) ≤ 120 := by omega
  clear hp hr hm ht hn
  have hN0 := hN
  have HB := Lib.hid (Below.refl w.heap.size w)
  go_enter Tryz.func6,Tryz.ntmps6
  go_wp2_with fail
  refine calls_name fun W0 hW => ?_
  have hs_W0 : w.heap.size ≤ W0.heap.size := by rw [← hW];(first | omega | (simp;done) | (simp;omega))
  have k_T_0 : W0.cell? ⟨w.heap.size,0,none⟩ = some (.int .i64 (a : Nat)) := by rw [← hW];(first | (go_simp;done) | (simp;done) | (simp [go_sem];done) | (simp [go_sem];done))
  have k_T_1 : W0.cell? ⟨w.heap.size,1,none⟩ = some (.int .i64 (b : Nat)) := by rw [← hW];(first | (go_simp;done) | (simp;done) | (simp [go_sem];done) | (simp [go_sem];done))
  have k_T_2 : W0.cell? ⟨w.heap.size,2,none⟩ = some (.int .i64 (c : Nat)) := by rw [← hW];(first | (go_simp;done) | (simp;done) | (simp [go_sem];done) | (simp [go_sem];done))
  have k_T_3 : W0.cell? ⟨w.heap.size,3,none⟩ = some (.int .i64 (d : Nat)) := by rw [← hW];(first | (go_simp;done) | (simp;done) | (simp [go_sem];done) | (simp [go_sem];done))
  have f_T : ∀ o,W0.frozen? ⟨w.heap.size,o,none⟩ = false := by intro o;rw [← hW];(first | (go_simp;done) | (simp;done) | (simp [go_sem];done) | (simp [go_sem];done))
  have HX_T := Lib.hid (show Bn W0 (w.heap.size) by rw [← hW];exact KpA)
  have k_R_0 : W0.cell? ⟨w.heap.size + 1,0,none⟩ = some (.bool false) := by rw [← hW];(first | (go_simp;done) | (simp;done) | (simp [go_sem];done) | (simp [go_sem];done))
  have k_R_1 : W0.cell? ⟨w.heap.size + 1,1,none⟩ = some (.slice none 0 0) := by rw [← hW];(first | (go_simp;done) | (simp;done) | (simp [go_sem];done) | (simp [go_sem];done))
  have k_R_2 : W0.cell? ⟨w.heap.size + 1,2,none⟩ = some (.slice none 0 0) := by rw [← hW];(first | (go_simp;done) | (simp;done) | (simp [go_sem];done) | (simp [go_sem];done))
  have f_R : ∀ o,W0.frozen? ⟨w.heap.size + 1,o,none⟩ = false := by intro o;rw [← hW];(first | (go_simp;done) | (simp;done) | (simp [go_sem];done) | (simp [go_sem];done))
  have HX_R := Lib.hid (show Bn W0 (w.heap.size + 1) by rw [← hW];exact KpA)
  replace HB := Lib.hid (show Below w.heap.size w W0 by rw [← hW];exact BlA)
  replace hN : N ≤ W0.heap.size := by rw [← hW];(first | omega | (simp;done) | (simp;omega))
  have hs0 : w.heap.size ≤ W0.heap.size := by rw [← hW];(first | omega | (simp;done) | (simp;omega))
  have hl_T : w.heap.size < W0.heap.size := by rw [← hW];(first | omega | (simp;done) | (simp;omega))
  have hl_R : w.heap.size + 1 < W0.heap.size := by rw [← hW];(first | omega | (simp;done) | (simp;omega))
  clear hW
  refine (dvalid_any _ _ _ _ _ true HV.out).mono ?_
  rintro e wa ⟨rfl,hb⟩
  have hs_wa : W0.heap.size ≤ wa.heap.size := hb.size
  replace k_T_0 : wa.cell? ⟨w.heap.size,0,none⟩ = some (.int .i64 (a : Nat)) := (hb.cell (p := ⟨w.heap.size,0,none⟩) hl_T).trans k_T_0
  replace k_T_1 : wa.cell? ⟨w.heap.size,1,none⟩ = some (.int .i64 (b : Nat)) := (hb.cell (p := ⟨w.heap.size,1,none⟩) hl_T).trans k_T_1
  replace k_T_2 : wa.cell? ⟨w.heap.size,2,none⟩ = some (.int .i64 (c : Nat)) := (hb.cell (p := ⟨w.heap.size,2,none⟩) hl_T).trans k_T_2
  replace k_T_3 : wa.cell? ⟨w.heap.size,3,none⟩ = some (.int .i64 (d : Nat)) := (hb.cell (p := ⟨w.heap.size,3,none⟩) hl_T).trans k_T_3
  replace f_T : ∀ o,wa.frozen? ⟨w.heap.size,o,none⟩ = false := fun o => (hb.frozen (p := ⟨w.heap.size,o,none⟩) hl_T).trans (f_T o)
  replace HX_T := Lib.hid (HX_T.out.below hb)
  replace k_R_0 : wa.cell? ⟨w.heap.size + 1,0,none⟩ = some (.bool false) := (hb.cell (p := ⟨w.heap.size + 1,0,none⟩) hl_R).trans k_R_0
  replace k_R_1 : wa.cell? ⟨w.heap.size + 1,1,none⟩ = some (.slice none 0 0) := (hb.cell (p := ⟨w.heap.size + 1,1,none⟩) hl_R).trans k_R_1
  replace k_R_2 : wa.cell? ⟨w.heap.size + 1,2,none⟩ = some (.slice none 0 0) := (hb.cell (p := ⟨w.heap.size + 1,2,none⟩) hl_R).trans k_R_2
  replace f_R : ∀ o,wa.frozen? ⟨w.heap.size + 1,o,none⟩ = false := fun o => (hb.frozen (p := ⟨w.heap.size + 1,o,none⟩) hl_R).trans (f_R o)
  replace HX_R := Lib.hid (HX_R.out.below hb)
  replace HB := Lib.hid (HB.out.trans (hb.mono hs0))
  replace hN : N ≤ wa.heap.size := Nat.le_trans hN hb.size
  replace hs0 : w.heap.size ≤ wa.heap.size := Nat.le_trans hs0 hb.size
  replace hl_T : w.heap.size < wa.heap.size := Nat.lt_of_lt_of_le hl_T hb.size
  replace hl_R : w.heap.size + 1 < wa.heap.size := Nat.lt_of_lt_of_le hl_R hb.size
  clear hb
  go_wp2_with fail
  refine calls_name fun W1 hW => ?_
  have HL_W1 := Lib.hid (show Below wa.heap.size wa W1 by rw [← hW];exact BlA)
  have hs_W1 : wa.heap.size ≤ W1.heap.size := by rw [← hW];(first | omega | (simp;done) | (simp;omega))
  replace k_T_0 : W1.cell? ⟨w.heap.size,0,none⟩ = some (.int .i64 (a : Nat)) := (HL_W1.out.cell (p := ⟨w.heap.size,0,none⟩) hl_T).trans k_T_0
  replace k_T_1 : W1.cell? ⟨w.heap.size,1,none⟩ = some (.int .i64 (b : Nat)) := (HL_W1.out.cell (p := ⟨w.heap.size,1,none⟩) hl_T).trans k_T_1
  replace k_T_2 : W1.cell? ⟨w.heap.size,2,none⟩ = some (.int .i64 (c : Nat)) := (HL_W1.out.cell (p := ⟨w.heap.size,2,none⟩) hl_T).trans k_T_2
  replace k_T_3 : W1.cell? ⟨w.heap.size,3,none⟩ = some (.int .i64 (d : Nat)) := (HL_W1.out.cell (p := ⟨w.heap.size,3,none⟩) hl_T).trans k_T_3
  replace f_T : ∀ o,W1.frozen? ⟨w.heap.size,o,none⟩ = false := fun o => (HL_W1.out.frozen (p := ⟨w.heap.size,o,none⟩) hl_T).trans (f_T o)
  replace HX_T := Lib.hid (show Bn W1 (w.heap.size) by rw [← hW];exact KpA)
  replace k_R_0 : W1.cell? ⟨w.heap.size + 1,0,none⟩ = some (.bool false) := (HL_W1.out.cell (p := ⟨w.heap.size + 1,0,none⟩) hl_R).trans k_R_0
  replace k_R_1 : W1.cell? ⟨w.heap.size + 1,1,none⟩ = some (.slice none 0 0) := (HL_W1.out.cell (p := ⟨w.heap.size + 1,1,none⟩) hl_R).trans k_R_1
  replace k_R_2 : W1.cell? ⟨w.heap.size + 1,2,none⟩ = some (.slice none 0 0) := (HL_W1.out.cell (p := ⟨w.heap.size + 1,2,none⟩) hl_R).trans k_R_2
  replace f_R : ∀ o,W1.frozen? ⟨w.heap.size + 1,o,none⟩ = false := fun o => (HL_W1.out.frozen (p := ⟨w.heap.size + 1,o,none⟩) hl_R).trans (f_R o)
  replace HX_R := Lib.hid (show Bn W1 (w.heap.size + 1) by rw [← hW];exact KpA)
  replace HB := Lib.hid (show Below w.heap.size w W1 by rw [← hW];exact BlA)
  replace hN : N ≤ W1.heap.size := by rw [← hW];(first | omega | (simp;done) | (simp;omega))
  replace hs0 : w.heap.size ≤ W1.heap.size := by rw [← hW];(first | omega | (simp;done) | (simp;omega))
  replace hl_T : w.heap.size < W1.heap.size := by rw [← hW];(first | omega | (simp;done) | (simp;omega))
  replace hl_R : w.heap.size + 1 < W1.heap.size := by rw [← hW];(first | omega | (simp;done) | (simp;omega))
  clear HL_W1
  clear hW
  refine (hyper_ok (N := N) t m r n _ hN (by omega) (by omega) (by omega) HNN.out (hyQ t m r) (fun i _ => rfl)).mono ?_
  rintro e wb ⟨bb,rfl,hb1,hb2,hl,hb⟩
  have hs_wb : W1.heap.size ≤ wb.heap.size := hb.size
  replace k_T_0 : wb.cell? ⟨w.heap.size,0,none⟩ = some (.int .i64 (a : Nat)) := (hb.cell (p := ⟨w.heap.size,0,none⟩) hl_T).trans k_T_0
  replace k_T_1 : wb.cell? ⟨w.heap.size,1,none⟩ = some (.int .i64 (b : Nat)) := (hb.cell (p := ⟨w.heap.size,1,none⟩) hl_T).trans k_T_1
  replace k_T_2 : wb.cell? ⟨w.heap.size,2,none⟩ = some (.int .i64 (c : Nat)) := (hb.cell (p := ⟨w.heap.size,2,none⟩) hl_T).trans k_T_2
  replace k_T_3 : wb.cell? ⟨w.heap.size,3,none⟩ = some (.int .i64 (d : Nat)) := (hb.cell (p := ⟨w.heap.size,3,none⟩) hl_T).trans k_T_3
  replace f_T : ∀ o,wb.frozen? ⟨w.heap.size,o,none⟩ = false := fun o => (hb.frozen (p := ⟨w.heap.size,o,none⟩) hl_T).trans (f_T o)
  replace HX_T := Lib.hid (HX_T.out.below hb)
  replace k_R_0 : wb.cell? ⟨w.heap.size + 1,0,none⟩ = some (.bool false) := (hb.cell (p := ⟨w.heap.size + 1,0,none⟩) hl_R).trans k_R_0
  replace k_R_1 : wb.cell? ⟨w.heap.size + 1,1,none⟩ = some (.slice none 0 0) := (hb.cell (p := ⟨w.heap.size + 1,1,none⟩) hl_R).trans k_R_1
  replace k_R_2 : wb.cell? ⟨w.heap.size + 1,2,none⟩ = some (.slice none 0 0) := (hb.cell (p := ⟨w.heap.size + 1,2,none⟩) hl_R).trans k_R_2
  replace f_R : ∀ o,wb.frozen? ⟨w.heap.size + 1,o,none⟩ = false := fun o => (hb.frozen (p := ⟨w.heap.size + 1,o,none⟩) hl_R).trans (f_R o)
  replace HX_R := Lib.hid (HX_R.out.below hb)
  replace HB := Lib.hid (HB.out.trans (hb.mono hs0))
  replace hN : N ≤ wb.heap.size := Nat.le_trans hN hb.size
  replace hs0 : w.heap.size ≤ wb.heap.size := Nat.le_trans hs0 hb.size
  replace hl_T : w.heap.size < wb.heap.size := Nat.lt_of_lt_of_le hl_T hb.size
  replace hl_R : w.heap.size + 1 < wb.heap.size := Nat.lt_of_lt_of_le hl_R hb.size
  clear hb
  have HD := Lib.hid hl
  clear hl
  go_wp2_with fail
  refine (Both_in (N := N) _ n n (hyQ t m r) 14 _ hN ((HD.out).rs (by unfold maxLen;omega) 14 (fun i hi => hyQ_len t m r i (by omega) (by omega))) (by omega) HVV.out a (by omega) p HP.out).mono ?_
  rintro e wc ⟨ru,cu,ru2,cu2,rfl,hn,hn',hb⟩
  have hs_wc : wb.heap.size ≤ wc.heap.size := hb.size
  replace k_T_0 : wc.cell? ⟨w.heap.size,0,none⟩ = some (.int .i64 (a : Nat)) := (hb.cell (p := ⟨w.heap.size,0,none⟩) hl_T).trans k_T_0
  replace k_T_1 : wc.cell? ⟨w.heap.size,1,none⟩ = some (.int .i64 (b : Nat)) := (hb.cell (p := ⟨w.heap.size,1,none⟩) hl_T).trans k_T_1
  replace k_T_2 : wc.cell? ⟨w.heap.size,2,none⟩ = some (.int .i64 (c : Nat)) := (hb.cell (p := ⟨w.heap.size,2,none⟩) hl_T).trans k_T_2
  replace k_T_3 : wc.cell? ⟨w.heap.size,3,none⟩ = some (.int .i64 (d : Nat)) := (hb.cell (p := ⟨w.heap.size,3,none⟩) hl_T).trans k_T_3
  replace f_T : ∀ o,wc.frozen? ⟨w.heap.size,o,none⟩ = false := fun o => (hb.frozen (p := ⟨w.heap.size,o,none⟩) hl_T).trans (f_T o)
  replace HX_T := Lib.hid (HX_T.out.below hb)
  replace k_R_0 : wc.cell? ⟨w.heap.size + 1,0,none⟩ = some (.bool false) := (hb.cell (p := ⟨w.heap.size + 1,0,none⟩) hl_R).trans k_R_0
  replace k_R_1 : wc.cell? ⟨w.heap.size + 1,1,none⟩ = some (.slice none 0 0) := (hb.cell (p := ⟨w.heap.size + 1,1,none⟩) hl_R).trans k_R_1
  replace k_R_2 : wc.cell? ⟨w.heap.size + 1,2,none⟩ = some (.slice none 0 0) := (hb.cell (p := ⟨w.heap.size + 1,2,none⟩) hl_R).trans k_R_2
  replace f_R : ∀ o,wc.frozen? ⟨w.heap.size + 1,o,none⟩ = false := fun o => (hb.frozen (p := ⟨w.heap.size + 1,o,none⟩) hl_R).trans (f_R o)
  replace HX_R := Lib.hid (HX_R.out.below hb)
  replace HB := Lib.hid (HB.out.trans (hb.mono hs0))
  replace hN : N ≤ wc.heap.size := Nat.le_trans hN hb.size
  replace hs0 : w.heap.size ≤ wc.heap.size := Nat.le_trans hs0 hb.size
  replace hl_T : w.heap.size < wc.heap.size := Nat.lt_of_lt_of_le hl_T hb.size
  replace hl_R : w.heap.size + 1 < wc.heap.size := Nat.lt_of_lt_of_le hl_R hb.size
  replace HD := Lib.hid (HD.out.below hb)
  clear hb
  have HP1 := Lib.hid hn
  clear hn
  have HQ1 := Lib.hid hn'
  clear hn'
  go_wp2_with fail
  refine bodyPost_ret (v := .tuple #[.agg #[.bool (decide ((p).num < 0)),.slice ru (nlen (p).num.natAbs) cu,.slice ru2 (nlen (p).den) cu2],.int .i64 0]) (by simp [results,Tryz.results6,go_sem,k_R_0,k_R_1,k_R_2]) rfl ⟨_,_,_,_,rfl,HP1.out.keep ?_,HQ1.out.keep ?_,?_⟩
  all_goals exact KBA
set_option maxHeartbeats 2000000 in
theorem sign_bad (x y : Int) (w : World) (hbad : x < 0 ∨ 60 < x ∨ y < 0 ∨ 60 < y) :
    Calls Tryz.prog 11 #[.int .i64 x,.int .i64 y] w (RatErr w 3) := by
  by_cases x0 : x < 0
  · clear hbad
    go_enter Tryz.func11,Tryz.ntmps11
    go_wp2_with fail
    refine bodyPost_ret (v := .tuple #[.agg #[.bool false,.slice none 0 0,.slice none 0 0],.int .i64 3]) (by simp [results,Tryz.results11,go_sem]) rfl ⟨rfl,?_⟩
    exact BlA
  by_cases x1 : 60 < x
  · clear hbad
    go_enter Tryz.func11,Tryz.ntmps11
    go_wp2_with fail
    refine bodyPost_ret (v := .tuple #[.agg #[.bool false,.slice none 0 0,.slice none 0 0],.int .i64 3]) (by simp [results,Tryz.results11,go_sem]) rfl ⟨rfl,?_⟩
    exact BlA
  by_cases y0 : y < 0
  · clear hbad
    go_enter Tryz.func11,Tryz.ntmps11
    go_wp2_with fail
    refine bodyPost_ret (v := .tuple #[.agg #[.bool false,.slice none 0 0,.slice none 0 0],.int .i64 3]) (by simp [results,Tryz.results11,go_sem]) rfl ⟨rfl,?_⟩
    exact BlA
  have y1 : 60 < y := by omega
  clear hbad
  go_enter Tryz.func11,Tryz.ntmps11
  go_wp2_with fail
  refine bodyPost_ret (v := .tuple #[.agg #[.bool false,.slice none 0 0,.slice none 0 0],.int .i64 3]) (by simp [results,Tryz.results11,go_sem]) rfl ⟨rfl,?_⟩
  exact BlA
theorem half_num : (1 / 2 : Rat).num = 1 ∧ (1 / 2 : Rat).den = 2 := by decide +kernel
theorem siQ_len (n i : Nat) (h : n ≤ 120) : rsz (siQ n i) ≤ 122 := by
  have h1 := chs_len n i (by omega)
  have h2 := nlen_pow 2 1 (nlen_small (by decide)) n
  exact frq_len _ _ _ (by omega) (by omega) (by omega)
theorem half_bin (h : Rat) (hh : ((1 : Int) : Rat) / ((2 : Int) : Rat) = h) (n i : Nat) : frq (binN (nuQ1 h) (faQ1 h) n i) (h.den ^ n) = siQ n i := by
  obtain ⟨e1,e2⟩ := half_num
  have e : h = 1 / 2 := by rw [← hh];rfl
  unfold binN nuQ1 faQ1 siQ
  rw [e,e1,e2]
  simp
set_option maxHeartbeats 4000000 in
theorem sign_ok {N : Nat} (x y : Nat) (w : World) (hN : N ≤ w.heap.size) (hx : x ≤ 60) (hy : y ≤ 60) (p : Rat) (hp : signQ (x + y) x = p) :
    Calls Tryz.prog 11 #[.int .i64 (x : Nat),.int .i64 (y : Nat)] w (RatOk N w p) := by
  obtain ⟨n,hn⟩ : ∃ n,x + y = n := ⟨_,rfl⟩
  rw [hn] at hp
  have HP := Lib.hid (show bothQ (siQ n) (n + 1) x = p from hp)
  have HVV := Lib.hid (siQ_valid n (by omega))
  obtain ⟨h,hh⟩ : ∃ h : Rat,((1 : Int) : Rat) / ((2 : Int) : Rat) = h := ⟨_,rfl⟩
  have eh : h = 1 / 2 := by rw [← hh];rfl
  have HH := Lib.hid hh
  have HHS := Lib.hid (show rsz h ≤ 1 by rw [eh];exact rsz_small _ (by rw [half_num.1];decide) (by rw [half_num.2];decide))
  have HHP := Lib.hid (show prb h = true by rw [eh];decide +kernel)
  have HHQ := Lib.hid (fun i (_ : i < n + 1) => half_bin h hh n i)
  have e1 : (x : Int) + (y : Int) = (n : Int) := by omega
  have n1 : n ≤ 120 := by omega
  have x1 : x < n + 1 := by omega
  have x2 : ¬ 60 < (x : Int) := by omega
  have y2 : ¬ 60 < (y : Int) := by omega
  clear hp hn hh eh
  have hN0 := hN
  have HB := Lib.hid (Below.refl w.heap.size w)
  go_enter Tryz.func11,Tryz.ntmps11
  go_wp2_with fail
  refine calls_name fun W0 hW => ?_
  have hs_W0 : w.heap.size ≤ W0.heap.size := by rw [← hW];(first | omega | (simp;done) | (simp;omega))
  have k_R_0 : W0.cell? ⟨w.heap.size,0,none⟩ = some (.bool false) := by rw [← hW];(first | (go_simp;done) | (simp;done) | (simp [go_sem];done) | (simp [go_sem];done))
  have k_R_1 : W0.cell? ⟨w.heap.size,1,none⟩ = some (.slice none 0 0) := by rw [← hW];(first | (go_simp;done) | (simp;done) | (simp [go_sem];done) | (simp [go_sem];done))
  have k_R_2 : W0.cell? ⟨w.heap.size,2,none⟩ = some (.slice none 0 0) := by rw [← hW];(first | (go_simp;done) | (simp;done) | (simp [go_sem];done) | (simp [go_sem];done))
  have f_R : ∀ o,W0.frozen? ⟨w.heap.size,o,none⟩ = false := by intro o;rw [← hW];(first | (go_simp;done) | (simp;done) | (simp [go_sem];done) | (simp [go_sem];done))
  have HX_R := Lib.hid (show Bn W0 (w.heap.size) by rw [← hW];exact KpA)
  replace HB := Lib.hid (show Below w.heap.size w W0 by rw [← hW];exact BlA)
  replace hN : N ≤ W0.heap.size := by rw [← hW];(first | omega | (simp;done) | (simp;omega))
  have hs0 : w.heap.size ≤ W0.heap.size := by rw [← hW];(first | omega | (simp;done) | (simp;omega))
  have hl_R : w.heap.size < W0.heap.size := by rw [← hW];(first | omega | (simp;done) | (simp;omega))
  clear hW
  refine (dof_any (N := N) 1 2 _ hN (by omega) (by omega) (by omega) (by omega) h HH.out).mono ?_
  rintro e wa ⟨rh,ch,rh2,ch2,rfl,hn,hn',hb⟩
  have hs_wa : W0.heap.size ≤ wa.heap.size := hb.size
  replace k_R_0 : wa.cell? ⟨w.heap.size,0,none⟩ = some (.bool false) := (hb.cell (p := ⟨w.heap.size,0,none⟩) hl_R).trans k_R_0
  replace k_R_1 : wa.cell? ⟨w.heap.size,1,none⟩ = some (.slice none 0 0) := (hb.cell (p := ⟨w.heap.size,1,none⟩) hl_R).trans k_R_1
  replace k_R_2 : wa.cell? ⟨w.heap.size,2,none⟩ = some (.slice none 0 0) := (hb.cell (p := ⟨w.heap.size,2,none⟩) hl_R).trans k_R_2
  replace f_R : ∀ o,wa.frozen? ⟨w.heap.size,o,none⟩ = false := fun o => (hb.frozen (p := ⟨w.heap.size,o,none⟩) hl_R).trans (f_R o)
  replace HX_R := Lib.hid (HX_R.out.below hb)
  replace HB := Lib.hid (HB.out.trans (hb.mono hs0))
  replace hN : N ≤ wa.heap.size := Nat.le_trans hN hb.size
  replace hs0 : w.heap.size ≤ wa.heap.size := Nat.le_trans hs0 hb.size
  replace hl_R : w.heap.size < wa.heap.size := Nat.lt_of_lt_of_le hl_R hb.size
  clear hb
  have HX1 := Lib.hid hn
  clear hn
  have HX2 := Lib.hid hn'
  clear hn'
  go_wp2_with fail
  refine (binomial_ok (N := N) n _ _ _ _ _ _ _ 1 h _ hN (Rt.of_norm HX1.out HX2.out 1 HHS.out) (by omega) HHP.out (by omega) (siQ n) HHQ.out).mono ?_
  rintro e wb ⟨bb,rfl,hb1,hb2,hl,hb⟩
  have hs_wb : wa.heap.size ≤ wb.heap.size := hb.size
  replace k_R_0 : wb.cell? ⟨w.heap.size,0,none⟩ = some (.bool false) := (hb.cell (p := ⟨w.heap.size,0,none⟩) hl_R).trans k_R_0
  replace k_R_1 : wb.cell? ⟨w.heap.size,1,none⟩ = some (.slice none 0 0) := (hb.cell (p := ⟨w.heap.size,1,none⟩) hl_R).trans k_R_1
  replace k_R_2 : wb.cell? ⟨w.heap.size,2,none⟩ = some (.slice none 0 0) := (hb.cell (p := ⟨w.heap.size,2,none⟩) hl_R).trans k_R_2
  replace f_R : ∀ o,wb.frozen? ⟨w.heap.size,o,none⟩ = false := fun o => (hb.frozen (p := ⟨w.heap.size,o,none⟩) hl_R).trans (f_R o)
  replace HX_R := Lib.hid (HX_R.out.below hb)
  replace HX1 := Lib.hid (HX1.out.below hb)
  replace HX2 := Lib.hid (HX2.out.below hb)
  replace HB := Lib.hid (HB.out.trans (hb.mono hs0))
  replace hN : N ≤ wb.heap.size := Nat.le_trans hN hb.size
  replace hs0 : w.heap.size ≤ wb.heap.size := Nat.le_trans hs0 hb.size
  replace hl_R : w.heap.size < wb.heap.size := Nat.lt_of_lt_of_le hl_R hb.size
  clear hb
  have HD := Lib.hid hl
  clear hl
  clear HX1
  clear HX2
  go_wp2_with fail
  refine (Both_in (N := N) _ (n + 1) (n + 1) (siQ n) 122 _ hN ((HD.out).rs (by unfold maxLen;omega) 122 (fun i hi => siQ_len n i (by omega))) (by omega) HVV.out x (by omega) p HP.out).mono ?_
  rintro e wc ⟨ru,cu,ru2,cu2,rfl,hn,hn',hb⟩
  have hs_wc : wb.heap.size ≤ wc.heap.size := hb.size
  replace k_R_0 : wc.cell? ⟨w.heap.size,0,none⟩ = some (.bool false) := (hb.cell (p := ⟨w.heap.size,0,none⟩) hl_R).trans k_R_0
  replace k_R_1 : wc.cell? ⟨w.heap.size,1,none⟩ = some (.slice none 0 0) := (hb.cell (p := ⟨w.heap.size,1,none⟩) hl_R).trans k_R_1
  replace k_R_2 : wc.cell? ⟨w.heap.size,2,none⟩ = some (.slice none 0 0) := (hb.cell (p := ⟨w.heap.size,2,none⟩) hl_R).trans k_R_2
  replace f_R : ∀ o,wc.frozen? ⟨w.heap.size,o,none⟩ = false := fun o => (hb.frozen (p := ⟨w.heap.size,o,none⟩) hl_R).trans (f_R o)
  replace HX_R := Lib.hid (HX_R.out.below hb)
  replace HB := Lib.hid (HB.out.trans (hb.mono hs0))
  replace hN : N ≤ wc.heap.size := Nat.le_trans hN hb.size
  replace hs0 : w.heap.size ≤ wc.heap.size := Nat.le_trans hs0 hb.size
  replace hl_R : w.heap.size < wc.heap.size := Nat.lt_of_lt_of_le hl_R hb.size
  replace HD := Lib.hid (HD.out.below hb)
  clear hb
  have HP1 := Lib.hid hn
  clear hn
  have HQ1 := Lib.hid hn'
  clear hn'
  go_wp2_with fail
  refine bodyPost_ret (v := .tuple #[.agg #[.bool (decide ((p).num < 0)),.slice ru (nlen (p).num.natAbs) cu,.slice ru2 (nlen (p).den) cu2],.int .i64 0]) (by simp [results,Tryz.results11,go_sem,k_R_0,k_R_1,k_R_2]) rfl ⟨_,_,_,_,rfl,HP1.out.keep ?_,HQ1.out.keep ?_,?_⟩
  all_goals exact KBA
end Go.Proofs.YtnillajhhimeiaaGreatDoor
namespace Go.Proofs.YtnillajhhimeiaaGreatDoor
open Go.RowKit
def Ts (w : World) (a : Option Addr) (n cap : Nat) (t : Nat → Nat → Int) : Prop :=
  n ≤ cap ∧ cap ≤ maxLen ∧ (0 < n → ∃ b off,a = some ⟨b,off,none⟩ ∧ ∀ i,i < n → w.cell? ⟨b,off + i * 4,none⟩ = some (.int .i64 (t i 0)) ∧ w.cell? ⟨b,off + i * 4 + 1,none⟩ = some (.int .i64 (t i 1)) ∧ w.cell? ⟨b,off + i * 4 + 2,none⟩ = some (.int .i64 (t i 2)) ∧ w.cell? ⟨b,off + i * 4 + 3,none⟩ = some (.int .i64 (t i 3)))
theorem cell_up {w w' : World} {p : Addr} {v : Value} (h : w.cell? p = some v) (hb : Below w.heap.size w w') : w'.cell? p = some v := (hb.cell (p := p) (World.block_lt_of_cell? w _ h)).trans h
theorem Ts.below {w w' : World} {a : Option Addr} {n cap : Nat} {t : Nat → Nat → Int} (h : Ts w a n cap t) (hb : Below w.heap.size w w') : Ts w' a n cap t := by
  obtain ⟨h0,h1,h2⟩ := h
  refine ⟨h0,h1,fun hn => ?_⟩
  obtain ⟨b,off,e,hc⟩ := h2 hn
  exact ⟨b,off,e,fun i hi => ⟨cell_up (hc i hi).1 hb,cell_up (hc i hi).2.1 hb,cell_up (hc i hi).2.2.1 hb,cell_up (hc i hi).2.2.2 hb⟩⟩
def vldR (t : Nat → Nat → Int) (i : Nat) : Bool := vldT (t i 0) (t i 1) (t i 2) (t i 3)
def flgC (t : Nat → Nat → Int) (n : Nat) (al : Rat) : Int := if 60 < n then 5 else if (∀ i,i < n → vldR t i = true) ∧ prb al = true then 0 else 3
def fsh (t : Nat → Nat → Int) (i : Nat) : Rat := fishQ (t i 0).toNat (t i 1).toNat (t i 2).toNat (t i 3).toNat
def flt (f : Nat → Bool) (n : Nat) : List Nat := (List.range n).filter f
theorem flt_yes {f : Nat → Bool} {n : Nat} (h : f n = true) : flt f (n + 1) = flt f n ++ [n] := by
  unfold flt;rw [List.range_succ,List.filter_append];simp [h]
theorem flt_no {f : Nat → Bool} {n : Nat} (h : f n = false) : flt f (n + 1) = flt f n := by
  unfold flt;rw [List.range_succ,List.filter_append];simp [h]
theorem flt_len (f : Nat → Bool) (n : Nat) : (flt f n).length ≤ n := by
  unfold flt;exact Nat.le_trans (List.length_filter_le _ _) (by simp)
def Lz (w : World) (p : Option Addr) (cap : Nat) (l : List Nat) : Prop :=
  l.length ≤ cap ∧ cap ≤ maxLen ∧ (0 < l.length → ∃ b off,p = some ⟨b,off,none⟩ ∧ ∀ i x,l[i]? = some x → w.cell? ⟨b,off + i,none⟩ = some (.int .i64 ((x : Nat) : Int)))
theorem Lz.below {w w' : World} {p : Option Addr} {cap : Nat} {l : List Nat} (h : Lz w p cap l) (hb : Below w.heap.size w w') : Lz w' p cap l := by
  obtain ⟨h0,h1,h2⟩ := h
  refine ⟨h0,h1,fun hn => ?_⟩
  obtain ⟨b,off,e,hc⟩ := h2 hn
  exact ⟨b,off,e,fun i x hx => cell_up (hc i x hx) hb⟩
def Oz (B : Nat) (w : World) (v : Value) (l : List Nat) : Prop := w.ownsRow B 3 1 v l.length (l.map fun x => .int .i64 ((x : Nat) : Int))
theorem Oz.start (B : Nat) (w : World) : Oz B w (.slice none 0 0) [] := ⟨rfl,.inl ⟨rfl,rfl⟩⟩
theorem Oz.open {B : Nat} {w : World} {v : Value} {l : List Nat} (h : Oz B w v l) : ∃ p cap,v = .slice p l.length cap ∧ Lz w p cap l := by
  obtain ⟨_,⟨rfl,h0⟩ | ⟨g,cap,cur,rfl,hg,hh,h1,h2,h3,h4⟩⟩ := h
  · have h5 : l.length = 0 := by simpa using h0
    exact ⟨none,0,by rw [h5],by omega,Nat.zero_le _,fun h => by omega⟩
  · refine ⟨_,cap,rfl,h1,h2,fun hn => ⟨g,0,rfl,fun i x hx => ?_⟩⟩
    have hi : i < l.length := (List.getElem?_eq_some_iff.1 hx).1
    have h5 : cur.toList[i]? = some (.int .i64 ((x : Nat) : Int)) := by
      have : (cur.toList.take (l.length * 1))[i]? = some (.int .i64 ((x : Nat) : Int)) := by rw [h4];simp [hx]
      rwa [List.getElem?_take_of_lt (by omega)] at this
    simp [World.cell?,hh]
    simpa using h5
theorem Oz.push {B : Nat} {w : World} {v : Value} {l : List Nat} {x : Nat} (h : w.ownsRow B 3 1 v (l.length + 1) ((l.map fun x => .int .i64 ((x : Nat) : Int)) ++ [.int .i64 ((x : Nat) : Int)])) : Oz B w v (l ++ [x]) := by
  unfold Oz;rw [List.length_append,List.map_append];exact h
def FlgPost (w : World) (l : List Nat) (e : Ending) (w' : World) : Prop := ∃ p cap,e = .returned (.tuple #[.slice p l.length cap,.int .i64 0]) ∧ Lz w' p cap l ∧ Below w.heap.size w w'
theorem fish_len (a b c d : Nat) (h : a + b + c + d ≤ 120) : rsz (fishQ a b c d) ≤ 14 := by
  unfold fishQ bothQ
  have e : sQ (fun i => if hyQ (a + b + c + d) (a + c) (a + b) i ≤ hyQ (a + b + c + d) (a + c) (a + b) a then hyQ (a + b + c + d) (a + c) (a + b) i else 0) (min (a + c) (a + b) + 1)
      = frq (sN (fun i => if hyQ (a + b + c + d) (a + c) (a + b) i ≤ hyQ (a + b + c + d) (a + c) (a + b) a then hyp (a + b + c + d) (a + c) (a + b) i else 0) (min (a + c) (a + b) + 1)) (chs (a + b + c + d) (a + b)) := by
    rw [← sQ_frq]
    refine sQ_congr (fun i _ => ?_)
    by_cases h1 : hyQ (a + b + c + d) (a + c) (a + b) i ≤ hyQ (a + b + c + d) (a + c) (a + b) a
    · rw [if_pos h1,if_pos h1];rfl
    · rw [if_neg h1,if_neg h1,frq_zero]
  rw [e]
  have h1 := chs_len (a + b + c + d) (a + b) (by omega)
  have h2 : ∀ m,sN (fun i => if hyQ (a + b + c + d) (a + c) (a + b) i ≤ hyQ (a + b + c + d) (a + c) (a + b) a then hyp (a + b + c + d) (a + c) (a + b) i else 0) m ≤ sN (hyp (a + b + c + d) (a + c) (a + b)) m := by
    intro m
    induction m with
    | zero => exact Nat.le_refl _
    | succ m ih =>
      simp only [sN]
      refine Nat.add_le_add ih ?_
      split
      · exact Nat.le_refl _
      · exact Nat.zero_le _
  have h3 := h2 (min (a + c) (a + b) + 1)
  rw [hyp_total _ _ _ (by omega)] at h3
  have h4 := nlen_mono h3
  exact frq_len _ _ _ (by omega) (by omega) (by omega)
theorem vld_nat {t : Nat → Nat → Int} {i : Nat} (h : vldR t i = true) (j : Nat) (hj : j < 4) : ∃ x : Nat,t i j = (x : Int) ∧ x ≤ 30 ∧ (t i j).toNat = x := by
  obtain ⟨h0,h1,h2,h3⟩ := vldT_iff.1 h
  obtain rfl | rfl | rfl | rfl : j = 0 ∨ j = 1 ∨ j = 2 ∨ j = 3 := by omega
  · exact ⟨(t i 0).toNat,by omega,by omega,rfl⟩
  · exact ⟨(t i 1).toNat,by omega,by omega,rfl⟩
  · exact ⟨(t i 2).toNat,by omega,by omega,rfl⟩
  · exact ⟨(t i 3).toNat,by omega,by omega,rfl⟩
set_option maxHeartbeats 8000000 in
set_option maxRecDepth 100000 in
theorem flags_ok {N : Nat} (a : Option Addr) (n cap : Nat) (t : Nat → Nat → Int) (s2 : Bool) (a2 d2 : Option Addr) (na2 ca2 nd2 cd2 L : Nat) (al : Rat) (w : World) (hN : N ≤ w.heap.size) (h : Ts w a n cap t) (h2 : Rt N w s2 a2 na2 ca2 d2 nd2 cd2 al L) (hL : L ≤ 2097152) (hc : flgC t n al = 0) :
    Calls Tryz.prog 19 #[.slice a n cap,.agg #[.bool s2,.slice a2 na2 ca2,.slice d2 nd2 cd2]] w (FlgPost w (flt (holQ (fsh t) n al) n)) := by
  have h60 : n ≤ 60 := by
    unfold flgC at hc
    rcases Nat.lt_or_ge 60 n with h | h
    · rw [if_pos h] at hc;omega
    · exact h
  unfold flgC at hc
  rw [if_neg (by omega)] at hc
  have hcc : (∀ i,i < n → vldR t i = true) ∧ prb al = true := Classical.byContradiction fun hh => by rw [if_neg hh] at hc;omega
  have HVL := Lib.hid hcc.1
  have HPA := Lib.hid hcc.2
  have hmk := make_rats n (by omega)
  clear hc hcc
  have HA := Lib.hid h
  have HAA := Lib.hid h2
  have bc := h.1
  have bm := h.2.1
  unfold maxLen at bm
  clear h h2
  have hN0 := hN
  have HB := Lib.hid (Below.refl w.heap.size w)
  go_enter Tryz.func19,Tryz.ntmps19
  go_wp2_with fail
  go_loopw [23] (fun i wr => ∃ k : Nat,k ≤ n ∧ i = .int .i64 k ∧ Hid (∀ j,j < k → vldR t j = true) ∧ Below w.heap.size w wr ∧ Box3 wr w.heap.size (.bool s2) (.slice a2 na2 ca2) (.slice d2 nd2 cd2)) (fun i _ => n - (intOf i).toNat)
  case atStart => exact ⟨0,Nat.zero_le _,rfl,(fun j hj => by omega),bel1 _ _,⟨by first | omega | (simp;done) | (simp;omega),by exact KpA,fun o => by first | (go_simp;done) | (simp;done) | (simp [go_sem];done) | (simp [go_sem];done),by first | with_reducible assumption | (go_simp;done) | (simp;done) | (simp [go_sem];done) | (simp [go_sem];done),by first | with_reducible assumption | (go_simp;done) | (simp;done) | (simp [go_sem];done) | (simp [go_sem];done),by first | with_reducible assumption | (go_simp;done) | (simp;done) | (simp [go_sem];done) | (simp [go_sem];done)⟩⟩
  case round =>
    obtain ⟨k,hk,rfl,hin,hbel,hbx⟩ := hrel
    have hsz : w.heap.size ≤ wr.heap.size := hbel.size
    have HAA2 := Lib.hid (HAA.out.below hbel)
    clear HAA
    have HAA := HAA2
    clear HAA2
    have HA2 := Lib.hid (HA.out.below hbel)
    have HB := Lib.hid hbel
    have hs0 : w.heap.size ≤ wr.heap.size := by omega
    have hN2 : N ≤ wr.heap.size := by omega
    clear hbel
    clear hN
    have hN := hN2
    clear hN2
    obtain ⟨hl_A,bn_A,f_A,k_A_0,k_A_1,k_A_2⟩ := hbx
    have HX_A := Lib.hid bn_A
    clear bn_A
    by_cases hkn : k < n
    · obtain ⟨b,off,rfl,hc⟩ := HA2.out.2.2 (by omega)
      obtain ⟨g0,g1,g2,g3⟩ := hc k hkn
      clear hc HA2
      have HVK := Lib.hid (HVL.out k hkn)
      go_wp2_with fail
      refine calls_name fun W1 hW => ?_
      have HL_W1 := Lib.hid (show Below wr.heap.size wr W1 by rw [← hW];exact BlA)
      have hs_W1 : wr.heap.size ≤ W1.heap.size := by rw [← hW];(first | omega | (simp;done) | (simp;omega))
      have hd_A_T : w.heap.size < wr.heap.size := by omega
      replace k_A_0 : W1.cell? ⟨w.heap.size,0,none⟩ = some (.bool s2) := (HL_W1.out.cell (p := ⟨w.heap.size,0,none⟩) hl_A).trans k_A_0
      replace k_A_1 : W1.cell? ⟨w.heap.size,1,none⟩ = some (.slice a2 na2 ca2) := (HL_W1.out.cell (p := ⟨w.heap.size,1,none⟩) hl_A).trans k_A_1
      replace k_A_2 : W1.cell? ⟨w.heap.size,2,none⟩ = some (.slice d2 nd2 cd2) := (HL_W1.out.cell (p := ⟨w.heap.size,2,none⟩) hl_A).trans k_A_2
      replace f_A : ∀ o,W1.frozen? ⟨w.heap.size,o,none⟩ = false := fun o => (HL_W1.out.frozen (p := ⟨w.heap.size,o,none⟩) hl_A).trans (f_A o)
      replace HX_A := Lib.hid (show Bn W1 (w.heap.size) by rw [← hW];exact KpA)
      have k_T_0 : W1.cell? ⟨wr.heap.size,0,none⟩ = some (.int .i64 (t k 0)) := by rw [← hW];(first | (go_simp;done) | (simp;done) | (simp [go_sem];done) | (simp [go_sem,k_A_0,k_A_1,k_A_2,f_A,hl_A];done))
      have k_T_1 : W1.cell? ⟨wr.heap.size,1,none⟩ = some (.int .i64 (t k 1)) := by rw [← hW];(first | (go_simp;done) | (simp;done) | (simp [go_sem];done) | (simp [go_sem,k_A_0,k_A_1,k_A_2,f_A,hl_A];done))
      have k_T_2 : W1.cell? ⟨wr.heap.size,2,none⟩ = some (.int .i64 (t k 2)) := by rw [← hW];(first | (go_simp;done) | (simp;done) | (simp [go_sem];done) | (simp [go_sem,k_A_0,k_A_1,k_A_2,f_A,hl_A];done))
      have k_T_3 : W1.cell? ⟨wr.heap.size,3,none⟩ = some (.int .i64 (t k 3)) := by rw [← hW];(first | (go_simp;done) | (simp;done) | (simp [go_sem];done) | (simp [go_sem,k_A_0,k_A_1,k_A_2,f_A,hl_A];done))
      have f_T : ∀ o,W1.frozen? ⟨wr.heap.size,o,none⟩ = false := by intro o;rw [← hW];(first | (go_simp;done) | (simp;done) | (simp [go_sem];done) | (simp [go_sem,k_A_0,k_A_1,k_A_2,f_A,hl_A];done))
      have HX_T := Lib.hid (show Bn W1 (wr.heap.size) by rw [← hW];exact KpA)
      replace HB := Lib.hid (show Below w.heap.size w W1 by rw [← hW];exact BlA)
      replace hN : N ≤ W1.heap.size := by rw [← hW];(first | omega | (simp;done) | (simp;omega))
      replace hs0 : w.heap.size ≤ W1.heap.size := by rw [← hW];(first | omega | (simp;done) | (simp;omega))
      replace hl_A : w.heap.size < W1.heap.size := by rw [← hW];(first | omega | (simp;done) | (simp;omega))
      have hl_T : wr.heap.size < W1.heap.size := by rw [← hW];(first | omega | (simp;done) | (simp;omega))
      replace HAA := Lib.hid (HAA.out.below HL_W1.out)
      clear HL_W1
      clear hW
      refine (dvalid_any _ _ _ _ _ true HVK.out).mono ?_
      rintro e wa ⟨rfl,hb⟩
      have hs_wa : W1.heap.size ≤ wa.heap.size := hb.size
      replace k_A_0 : wa.cell? ⟨w.heap.size,0,none⟩ = some (.bool s2) := (hb.cell (p := ⟨w.heap.size,0,none⟩) hl_A).trans k_A_0
      replace k_A_1 : wa.cell? ⟨w.heap.size,1,none⟩ = some (.slice a2 na2 ca2) := (hb.cell (p := ⟨w.heap.size,1,none⟩) hl_A).trans k_A_1
      replace k_A_2 : wa.cell? ⟨w.heap.size,2,none⟩ = some (.slice d2 nd2 cd2) := (hb.cell (p := ⟨w.heap.size,2,none⟩) hl_A).trans k_A_2
      replace f_A : ∀ o,wa.frozen? ⟨w.heap.size,o,none⟩ = false := fun o => (hb.frozen (p := ⟨w.heap.size,o,none⟩) hl_A).trans (f_A o)
      replace HX_A := Lib.hid (HX_A.out.below hb)
      replace k_T_0 : wa.cell? ⟨wr.heap.size,0,none⟩ = some (.int .i64 (t k 0)) := (hb.cell (p := ⟨wr.heap.size,0,none⟩) hl_T).trans k_T_0
      replace k_T_1 : wa.cell? ⟨wr.heap.size,1,none⟩ = some (.int .i64 (t k 1)) := (hb.cell (p := ⟨wr.heap.size,1,none⟩) hl_T).trans k_T_1
      replace k_T_2 : wa.cell? ⟨wr.heap.size,2,none⟩ = some (.int .i64 (t k 2)) := (hb.cell (p := ⟨wr.heap.size,2,none⟩) hl_T).trans k_T_2
      replace k_T_3 : wa.cell? ⟨wr.heap.size,3,none⟩ = some (.int .i64 (t k 3)) := (hb.cell (p := ⟨wr.heap.size,3,none⟩) hl_T).trans k_T_3
      replace f_T : ∀ o,wa.frozen? ⟨wr.heap.size,o,none⟩ = false := fun o => (hb.frozen (p := ⟨wr.heap.size,o,none⟩) hl_T).trans (f_T o)
      replace HX_T := Lib.hid (HX_T.out.below hb)
      replace HB := Lib.hid (HB.out.trans (hb.mono hs0))
      replace hN : N ≤ wa.heap.size := Nat.le_trans hN hb.size
      replace hs0 : w.heap.size ≤ wa.heap.size := Nat.le_trans hs0 hb.size
      replace hl_A : w.heap.size < wa.heap.size := Nat.lt_of_lt_of_le hl_A hb.size
      replace hl_T : wr.heap.size < wa.heap.size := Nat.lt_of_lt_of_le hl_T hb.size
      replace HAA := Lib.hid (HAA.out.below hb)
      clear hb
      go_wp2_with fail
      go_roundw
      case rel => exact ⟨k + 1,by omega,by go_num,all_succ hin.out HVK.out,HB.out,hl_A,HX_A.out,f_A,k_A_0,k_A_1,k_A_2⟩
      case measure => simp [intOf];omega
    · obtain rfl : n = k := by omega
      go_wp2_with fail
      refine (dshare_any (N := N) _ _ _ _ _ _ _ L al _ hN HAA.out (by omega) true HPA.out).mono ?_
      rintro e wa ⟨rfl,hb⟩
      have hs_wa : wr.heap.size ≤ wa.heap.size := hb.size
      replace k_A_0 : wa.cell? ⟨w.heap.size,0,none⟩ = some (.bool s2) := (hb.cell (p := ⟨w.heap.size,0,none⟩) hl_A).trans k_A_0
      replace k_A_1 : wa.cell? ⟨w.heap.size,1,none⟩ = some (.slice a2 na2 ca2) := (hb.cell (p := ⟨w.heap.size,1,none⟩) hl_A).trans k_A_1
      replace k_A_2 : wa.cell? ⟨w.heap.size,2,none⟩ = some (.slice d2 nd2 cd2) := (hb.cell (p := ⟨w.heap.size,2,none⟩) hl_A).trans k_A_2
      replace f_A : ∀ o,wa.frozen? ⟨w.heap.size,o,none⟩ = false := fun o => (hb.frozen (p := ⟨w.heap.size,o,none⟩) hl_A).trans (f_A o)
      replace HX_A := Lib.hid (HX_A.out.below hb)
      replace HB := Lib.hid (HB.out.trans (hb.mono hs0))
      replace hN : N ≤ wa.heap.size := Nat.le_trans hN hb.size
      replace hs0 : w.heap.size ≤ wa.heap.size := Nat.le_trans hs0 hb.size
      replace hl_A : w.heap.size < wa.heap.size := Nat.lt_of_lt_of_le hl_A hb.size
      replace HAA := Lib.hid (HAA.out.below hb)
      replace HA2 := Lib.hid (HA2.out.below hb)
      clear hb
      go_wp2_with fail
      have hNa := hN
      go_loopw [9,12,39] (fun _ _ i wr => ∃ k : Nat,k ≤ n ∧ i = .int .i64 k ∧ Rl N wr wa.heap.size n k (fsh t) ∧ Below wa.heap.size wa wr) (fun _ _ i _ => n - (intOf i).toNat)
      case atStart => exact ⟨0,Nat.zero_le _,rfl,Rl.made N wa n _,bel1 _ _⟩
      case round =>
        obtain ⟨k,hk,rfl,hrl,hbel⟩ := hrel
        have HRL := Lib.hid hrl
        have HBZ := Lib.hid hbel
        have hsz2 := hbel.size
        clear hrl
        have hl_A' : w.heap.size < wr.heap.size := Nat.lt_of_lt_of_le hl_A hbel.size
        have k_A_0' : wr.cell? ⟨w.heap.size,0,none⟩ = some (.bool s2) := (hbel.cell (p := ⟨w.heap.size,0,none⟩) hl_A).trans k_A_0
        have k_A_1' : wr.cell? ⟨w.heap.size,1,none⟩ = some (.slice a2 na2 ca2) := (hbel.cell (p := ⟨w.heap.size,1,none⟩) hl_A).trans k_A_1
        have k_A_2' : wr.cell? ⟨w.heap.size,2,none⟩ = some (.slice d2 nd2 cd2) := (hbel.cell (p := ⟨w.heap.size,2,none⟩) hl_A).trans k_A_2
        have f_A' : ∀ o,wr.frozen? ⟨w.heap.size,o,none⟩ = false := fun o => (hbel.frozen (p := ⟨w.heap.size,o,none⟩) hl_A).trans (f_A o)
        have HX_A' := Lib.hid (HX_A.out.below hbel)
        clear hl_A f_A HX_A k_A_0 k_A_1 k_A_2
        have hl_A := hl_A'
        have f_A := f_A'
        have HX_A := HX_A'
        have k_A_0 := k_A_0'
        have k_A_1 := k_A_1'
        have k_A_2 := k_A_2'
        clear hl_A' f_A' HX_A' k_A_0' k_A_1' k_A_2'
        have HA2' := Lib.hid (HA2.out.below hbel)
        have HAA' := Lib.hid (HAA.out.below hbel)
        have HB' := Lib.hid (HB.out.trans (hbel.mono hs0))
        have hN' : N ≤ wr.heap.size := by have := hbel.size;omega
        have hs0' : w.heap.size ≤ wr.heap.size := by have := hbel.size;omega
        clear HB hN hs0 HA2 HAA
        have HA2 := HA2'
        have HAA := HAA'
        have HB := HB'
        have hN := hN'
        have hs0 := hs0'
        clear HA2' HAA' HB' hN' hs0'
        clear hbel
        by_cases hkn : k < n
        · obtain ⟨b,off,rfl,hc⟩ := HA2.out.2.2 (by omega)
          obtain ⟨g0,g1,g2,g3⟩ := hc k hkn
          clear hc HA2
          obtain ⟨x0,ex0,xl0,et0⟩ := vld_nat (HVL.out k hkn) 0 (by omega)
          obtain ⟨x1,ex1,xl1,et1⟩ := vld_nat (HVL.out k hkn) 1 (by omega)
          obtain ⟨x2,ex2,xl2,et2⟩ := vld_nat (HVL.out k hkn) 2 (by omega)
          obtain ⟨x3,ex3,xl3,et3⟩ := vld_nat (HVL.out k hkn) 3 (by omega)
          have HFS := Lib.hid (show fishQ x0 x1 x2 x3 = fsh t k by unfold fsh;rw [et0,et1,et2,et3])
          rw [ex0] at g0
          rw [ex1] at g1
          rw [ex2] at g2
          rw [ex3] at g3
          clear ex0 ex1 ex2 ex3 et0 et1 et2 et3
          go_wp2_with fail
          refine calls_name fun W1 hW => ?_
          have HL_W1 := Lib.hid (show Below wr.heap.size wr W1 by rw [← hW];exact BlA)
          have hs_W1 : wr.heap.size ≤ W1.heap.size := by rw [← hW];(first | omega | (simp;done) | (simp;omega))
          have hd_A_T : w.heap.size < wr.heap.size := by omega
          have HBZ_W1 := Lib.hid (show Below wa.heap.size wa W1 by rw [← hW];exact BlA)
          replace k_A_0 : W1.cell? ⟨w.heap.size,0,none⟩ = some (.bool s2) := (HL_W1.out.cell (p := ⟨w.heap.size,0,none⟩) hl_A).trans k_A_0
          replace k_A_1 : W1.cell? ⟨w.heap.size,1,none⟩ = some (.slice a2 na2 ca2) := (HL_W1.out.cell (p := ⟨w.heap.size,1,none⟩) hl_A).trans k_A_1
          replace k_A_2 : W1.cell? ⟨w.heap.size,2,none⟩ = some (.slice d2 nd2 cd2) := (HL_W1.out.cell (p := ⟨w.heap.size,2,none⟩) hl_A).trans k_A_2
          replace f_A : ∀ o,W1.frozen? ⟨w.heap.size,o,none⟩ = false := fun o => (HL_W1.out.frozen (p := ⟨w.heap.size,o,none⟩) hl_A).trans (f_A o)
          replace HX_A := Lib.hid (show Bn W1 (w.heap.size) by rw [← hW];exact KpA)
          have k_T_0 : W1.cell? ⟨wr.heap.size,0,none⟩ = some (.int .i64 ((x0 : Nat) : Int)) := by rw [← hW];(first | (go_simp;done) | (simp;done) | (simp [go_sem];done) | (simp [go_sem,k_A_0,k_A_1,k_A_2,f_A,hl_A];done))
          have k_T_1 : W1.cell? ⟨wr.heap.size,1,none⟩ = some (.int .i64 ((x1 : Nat) : Int)) := by rw [← hW];(first | (go_simp;done) | (simp;done) | (simp [go_sem];done) | (simp [go_sem,k_A_0,k_A_1,k_A_2,f_A,hl_A];done))
          have k_T_2 : W1.cell? ⟨wr.heap.size,2,none⟩ = some (.int .i64 ((x2 : Nat) : Int)) := by rw [← hW];(first | (go_simp;done) | (simp;done) | (simp [go_sem];done) | (simp [go_sem,k_A_0,k_A_1,k_A_2,f_A,hl_A];done))
          have k_T_3 : W1.cell? ⟨wr.heap.size,3,none⟩ = some (.int .i64 ((x3 : Nat) : Int)) := by rw [← hW];(first | (go_simp;done) | (simp;done) | (simp [go_sem];done) | (simp [go_sem,k_A_0,k_A_1,k_A_2,f_A,hl_A];done))
          have f_T : ∀ o,W1.frozen? ⟨wr.heap.size,o,none⟩ = false := by intro o;rw [← hW];(first | (go_simp;done) | (simp;done) | (simp [go_sem];done) | (simp [go_sem,k_A_0,k_A_1,k_A_2,f_A,hl_A];done))
          have HX_T := Lib.hid (show Bn W1 (wr.heap.size) by rw [← hW];exact KpA)
          replace HB := Lib.hid (show Below w.heap.size w W1 by rw [← hW];exact BlA)
          replace hN : N ≤ W1.heap.size := by rw [← hW];(first | omega | (simp;done) | (simp;omega))
          replace hs0 : w.heap.size ≤ W1.heap.size := by rw [← hW];(first | omega | (simp;done) | (simp;omega))
          replace hl_A : w.heap.size < W1.heap.size := by rw [← hW];(first | omega | (simp;done) | (simp;omega))
          have hl_T : wr.heap.size < W1.heap.size := by rw [← hW];(first | omega | (simp;done) | (simp;omega))
          replace HRL := Lib.hid (HRL.out.below HL_W1.out)
          replace HAA := Lib.hid (HAA.out.below HL_W1.out)
          clear HL_W1
          clear hW
          have lt_HRL := HRL.out.lt
          clear HBZ
          refine (fisher_ok (N := N) x0 x1 x2 x3 _ hN xl0 xl1 xl2 xl3 (fsh t k) HFS.out).mono ?_
          rintro e wb ⟨rx,cx,rx2,cx2,rfl,hn,hn',hb⟩
          have HBZ := Lib.hid (HBZ_W1.out.trans (hb.mono (by omega)))
          have hs_wb : W1.heap.size ≤ wb.heap.size := hb.size
          replace k_A_0 : wb.cell? ⟨w.heap.size,0,none⟩ = some (.bool s2) := (hb.cell (p := ⟨w.heap.size,0,none⟩) hl_A).trans k_A_0
          replace k_A_1 : wb.cell? ⟨w.heap.size,1,none⟩ = some (.slice a2 na2 ca2) := (hb.cell (p := ⟨w.heap.size,1,none⟩) hl_A).trans k_A_1
          replace k_A_2 : wb.cell? ⟨w.heap.size,2,none⟩ = some (.slice d2 nd2 cd2) := (hb.cell (p := ⟨w.heap.size,2,none⟩) hl_A).trans k_A_2
          replace f_A : ∀ o,wb.frozen? ⟨w.heap.size,o,none⟩ = false := fun o => (hb.frozen (p := ⟨w.heap.size,o,none⟩) hl_A).trans (f_A o)
          replace HX_A := Lib.hid (HX_A.out.below hb)
          replace k_T_0 : wb.cell? ⟨wr.heap.size,0,none⟩ = some (.int .i64 ((x0 : Nat) : Int)) := (hb.cell (p := ⟨wr.heap.size,0,none⟩) hl_T).trans k_T_0
          replace k_T_1 : wb.cell? ⟨wr.heap.size,1,none⟩ = some (.int .i64 ((x1 : Nat) : Int)) := (hb.cell (p := ⟨wr.heap.size,1,none⟩) hl_T).trans k_T_1
          replace k_T_2 : wb.cell? ⟨wr.heap.size,2,none⟩ = some (.int .i64 ((x2 : Nat) : Int)) := (hb.cell (p := ⟨wr.heap.size,2,none⟩) hl_T).trans k_T_2
          replace k_T_3 : wb.cell? ⟨wr.heap.size,3,none⟩ = some (.int .i64 ((x3 : Nat) : Int)) := (hb.cell (p := ⟨wr.heap.size,3,none⟩) hl_T).trans k_T_3
          replace f_T : ∀ o,wb.frozen? ⟨wr.heap.size,o,none⟩ = false := fun o => (hb.frozen (p := ⟨wr.heap.size,o,none⟩) hl_T).trans (f_T o)
          replace HX_T := Lib.hid (HX_T.out.below hb)
          replace HB := Lib.hid (HB.out.trans (hb.mono hs0))
          replace hN : N ≤ wb.heap.size := Nat.le_trans hN hb.size
          replace hs0 : w.heap.size ≤ wb.heap.size := Nat.le_trans hs0 hb.size
          replace hl_A : w.heap.size < wb.heap.size := Nat.lt_of_lt_of_le hl_A hb.size
          replace hl_T : wr.heap.size < wb.heap.size := Nat.lt_of_lt_of_le hl_T hb.size
          replace HRL := Lib.hid (HRL.out.below hb)
          replace HAA := Lib.hid (HAA.out.below hb)
          clear hb
          have HX1 := Lib.hid hn
          clear hn
          have HX2 := Lib.hid hn'
          clear hn'
          obtain ⟨v0,p0⟩ := HRL.out.1.cell (o := k * 3) (by omega)
          obtain ⟨v1,p1⟩ := HRL.out.1.cell (o := k * 3 + 1) (by omega)
          obtain ⟨v2,p2⟩ := HRL.out.1.cell (o := k * 3 + 2) (by omega)
          have fz := HRL.out.1.frozen
          have hlw := HRL.out.lt
          go_wp2_with fail
          go_roundw
          case rel => exact ⟨k + 1,by omega,by go_num,(HRL.out.step hNa hkn HX1.out HX2.out).below (bel1 _ _),by exact BlA⟩
          case measure => simp [intOf];omega
        · obtain rfl : n = k := by omega
          have HCK0 : Hid (∀ j,j < n → prb (fsh t j) = true) := Lib.hid (fun j hj => by
            obtain ⟨x0,_,xl0,et0⟩ := vld_nat (HVL.out j hj) 0 (by omega)
            obtain ⟨x1,_,xl1,et1⟩ := vld_nat (HVL.out j hj) 1 (by omega)
            obtain ⟨x2,_,xl2,et2⟩ := vld_nat (HVL.out j hj) 2 (by omega)
            obtain ⟨x3,_,xl3,et3⟩ := vld_nat (HVL.out j hj) 3 (by omega)
            have := fish_range x0 x1 x2 x3 (by omega)
            unfold prb fsh
            rw [et0,et1,et2,et3]
            exact decide_eq_true ⟨Rat.le_of_lt this.1,this.2⟩)
          have HCK := Lib.hid (show chkC (fsh t) n al = 0 by unfold chkC;rw [if_neg (by omega),if_pos ⟨HCK0.out,HPA.out⟩])
          have HLN := Lib.hid (show ∀ j,j < n → rsz (fsh t j) ≤ max L 14 from fun j hj => by
            obtain ⟨x0,_,xl0,et0⟩ := vld_nat (HVL.out j hj) 0 (by omega)
            obtain ⟨x1,_,xl1,et1⟩ := vld_nat (HVL.out j hj) 1 (by omega)
            obtain ⟨x2,_,xl2,et2⟩ := vld_nat (HVL.out j hj) 2 (by omega)
            obtain ⟨x3,_,xl3,et3⟩ := vld_nat (HVL.out j hj) 3 (by omega)
            have := fish_len x0 x1 x2 x3 (by omega)
            unfold fsh
            rw [et0,et1,et2,et3]
            omega)
          go_wp2_with fail
          refine (holm_ok (N := N) _ n n (fsh t) _ _ _ _ _ _ _ (max L 14) al _ hN ((HRL.out).rs (by unfold maxLen;omega) (max L 14) HLN.out) (HAA.out.mono (by omega)) (by omega) HCK.out).mono ?_
          rintro e w9 ⟨br,rfl,hb1,hb2,hl,hb⟩
          have hs_w9 : wr.heap.size ≤ w9.heap.size := hb.size
          replace k_A_0 : w9.cell? ⟨w.heap.size,0,none⟩ = some (.bool s2) := (hb.cell (p := ⟨w.heap.size,0,none⟩) hl_A).trans k_A_0
          replace k_A_1 : w9.cell? ⟨w.heap.size,1,none⟩ = some (.slice a2 na2 ca2) := (hb.cell (p := ⟨w.heap.size,1,none⟩) hl_A).trans k_A_1
          replace k_A_2 : w9.cell? ⟨w.heap.size,2,none⟩ = some (.slice d2 nd2 cd2) := (hb.cell (p := ⟨w.heap.size,2,none⟩) hl_A).trans k_A_2
          replace f_A : ∀ o,w9.frozen? ⟨w.heap.size,o,none⟩ = false := fun o => (hb.frozen (p := ⟨w.heap.size,o,none⟩) hl_A).trans (f_A o)
          replace HX_A := Lib.hid (HX_A.out.below hb)
          replace HB := Lib.hid (HB.out.trans (hb.mono hs0))
          replace hN : N ≤ w9.heap.size := Nat.le_trans hN hb.size
          replace hs0 : w.heap.size ≤ w9.heap.size := Nat.le_trans hs0 hb.size
          replace hl_A : w.heap.size < w9.heap.size := Nat.lt_of_lt_of_le hl_A hb.size
          replace HRL := Lib.hid (HRL.out.below hb)
          replace HAA := Lib.hid (HAA.out.below hb)
          clear hb
          have HRJ := Lib.hid hl
          clear hl
          obtain ⟨i0,hi,hzz⟩ := Option.map_eq_some_iff.1 Tryz.infoIntD
          simp only [Prod.mk.injEq] at hzz
          obtain ⟨hz0,hz1,hz2⟩ := hzz
          go_wp2_with fail
          go_loopw [15,16,17,68] (fun out _ _ i wr => ∃ k : Nat,k ≤ n ∧ i = .int .i64 k ∧ Oz w9.heap.size wr out (flt (holQ (fsh t) n al) k) ∧ Below w9.heap.size w9 wr) (fun _ _ _ i _ => n - (intOf i).toNat)
          case atStart => exact ⟨0,Nat.zero_le _,rfl,Oz.start _ _,Below.refl _ _⟩
          case round =>
            obtain ⟨k,hk,rfl,hoz,hbel⟩ := hrel
            have HOZ := Lib.hid hoz
            have HBZ := Lib.hid hbel
            have hszz := hbel.size
            clear hoz
            by_cases hkn : k < n
            · have c1 := World.rowIs.cell (Rw.below HRJ.out hbel) hkn
              clear hbel
              obtain ⟨v,hv⟩ : ∃ v,holQ (fsh t) n al k = v := ⟨_,rfl⟩
              rw [hv] at c1
              have HV := Lib.hid hv
              clear hv
              have hfl := flt_len (holQ (fsh t) n al) k
              cases v
              · go_wp2_with fail
                go_roundw
                case rel => exact ⟨k + 1,by omega,by go_num,by rw [flt_no HV.out];exact HOZ.out,HBZ.out⟩
                case measure => simp [intOf];omega
              · obtain ⟨l,hl⟩ : ∃ l,flt (holQ (fsh t) n al) k = l := ⟨_,rfl⟩
                rw [hl] at HOZ hfl
                have HFL := Lib.hid hl
                clear hl
                go_wp2_with (at_builtin;refine wpList_append_own_at _ rfl (.tmp 74) (.tmp 76) 45 rfl w9.heap.size 3 i0 (.int .i64 0) 1 8 Tryz.underIntsD hi hz0 hz1 hz2 rfl (by decide) _ l.length (l.map fun x => .int .i64 ((x : Nat) : Int)) rfl (World.ownsRow.alloc HOZ.out _) ⟨wr.heap.size,0,none⟩ 1 1 [.int .i64 k] (by first | rfl | simp) rfl (by intro j u hj;rcases j with _ | j;(· simp at hj;subst hj;simp [Addr.add]);(· simp at hj)) (by intro u hu;simp at hu;subst hu;rfl) (by unfold maxLen;omega) (by omega) (by simp;omega) ?_;intro v2 w2 hm2 hg2 _ hat2;have HO2 := Lib.hid (Oz.push hm2);have HB2 := Lib.hid ((HBZ.out.alloc hszz _).grown hg2 (by simp;omega) (fun k hk => (World.ownsRow.lt HOZ.out k hk).1));clear hm2 hg2 hat2)
                go_roundw
                case rel => exact ⟨k + 1,by omega,by go_num,by rw [flt_yes HV.out,HFL.out];exact HO2.out,HB2.out⟩
                case measure => simp [intOf];omega
            · obtain rfl : n = k := by omega
              obtain ⟨p,cp,rfl,hlz⟩ := HOZ.out.open
              have HLZ := Lib.hid hlz
              have hcp := hlz.2.1
              have hcp2 := hlz.1
              unfold maxLen at hcp
              clear hlz hbel
              go_wp2_with fail
              go_ret2
              exact ⟨_,_,rfl,HLZ.out,HB.out.trans (HBZ.out.mono hs0)⟩
end Go.Proofs.YtnillajhhimeiaaGreatDoor
namespace Go.Proofs.YtnillajhhimeiaaGreatDoor
open Go.RowKit
def Bs (w : World) (a : Option Addr) (n cap : Nat) (f : Nat → Bool) : Prop :=
  n ≤ cap ∧ cap ≤ maxLen ∧ (0 < n → ∃ b off,a = some ⟨b,off,none⟩ ∧ ∀ i,i < n → w.cell? ⟨b,off + i,none⟩ = some (.bool (f i)))
theorem Bs.below {w w' : World} {a : Option Addr} {n cap : Nat} {f : Nat → Bool} (h : Bs w a n cap f) (hb : Below w.heap.size w w') : Bs w' a n cap f := by
  obtain ⟨h0,h1,h2⟩ := h
  refine ⟨h0,h1,fun hn => ?_⟩
  obtain ⟨b,off,e,hc⟩ := h2 hn
  exact ⟨b,off,e,fun i hi => cell_up (hc i hi) hb⟩
theorem Bs.congr {w : World} {a : Option Addr} {n cap : Nat} {f g : Nat → Bool} (h : Bs w a n cap f) (e : ∀ i,i < n → f i = g i) : Bs w a n cap g :=
  ⟨h.1,h.2.1,fun hn => by obtain ⟨b,off,e1,hc⟩ := h.2.2 hn;exact ⟨b,off,e1,fun i hi => by rw [← e i hi];exact hc i hi⟩⟩
theorem Rw.bs {w : World} {b n : Nat} {f : Nat → Bool} (h : Rw w b 4 n (fun i => .bool (f i))) (hn : n ≤ maxLen) : Bs w (some ⟨b,0,none⟩) n n f :=
  ⟨Nat.le_refl _,hn,fun _ => ⟨b,0,rfl,fun i hi => by rw [Nat.zero_add];exact World.rowIs.cell h hi⟩⟩
theorem Bs.three (w : World) (b : Nat) (hb : b = w.heap.size) (x y z : Bool) : Bs (w.alloc (.cells #[.bool x,.bool y,.bool z] 4)) (some ⟨b,0,none⟩) 3 3 (sel3 x y z) := by
  subst hb
  refine ⟨by decide,by decide,fun _ => ⟨_,_,rfl,fun i hi => ?_⟩⟩
  obtain rfl | rfl | rfl : i = 0 ∨ i = 1 ∨ i = 2 := by omega
  all_goals simp [sel3]
theorem Lz.one (w : World) (b : Nat) (hb : b = w.heap.size) (x : Nat) : Lz (w.alloc (.cells #[.int .i64 ((x : Nat) : Int)] 3)) (some ⟨b,0,none⟩) 1 [x] := by
  subst hb
  refine ⟨by simp,by decide,fun _ => ⟨_,_,rfl,fun i y hi => ?_⟩⟩
  have h0 : i = 0 := by have := (List.getElem?_eq_some_iff.1 hi).1;simp at this;omega
  subst h0
  simp at hi
  subst hi
  simp
set_option maxHeartbeats 1000000 in
theorem SameBools_any (a b : Option Addr) (n ca cb : Nat) (f : Nat → Bool) (w : World) (h : Bs w a n ca f) (h' : Bs w b n cb f) :
    Calls Tryz.prog 16 #[.slice a n ca,.slice b n cb] w fun e w' => e = .returned (.bool true) ∧ Below w.heap.size w w' := by
  have c1 := h.1
  have c2 := h.2.1
  have c3 := h'.1
  have c4 := h'.2.1
  unfold maxLen at c2 c4
  have HA := Lib.hid h
  have HB' := Lib.hid h'
  clear h h'
  go_enter Tryz.func16,Tryz.ntmps16
  go_wp2_with fail
  go_loopw [5] (fun i wr => ∃ k : Nat,k ≤ n ∧ i = .int .i64 k ∧ Below w.heap.size w wr) (fun i _ => n - (intOf i).toNat)
  case atStart => exact ⟨0,Nat.zero_le _,rfl,Below.refl _ _⟩
  case round =>
    obtain ⟨k,hk,rfl,hbel⟩ := hrel
    have HB := Lib.hid hbel
    by_cases hkn : k < n
    · obtain ⟨b1,o1,rfl,hc1⟩ := (HA.out.below hbel).2.2 (by omega)
      obtain ⟨b2,o2,rfl,hc2⟩ := (HB'.out.below hbel).2.2 (by omega)
      have g1 := hc1 k hkn
      have g2 := hc2 k hkn
      obtain ⟨v,hv⟩ : ∃ v,f k = v := ⟨_,rfl⟩
      rw [hv] at g1 g2
      clear hc1 hc2 hv
      have hix0 : (0 : Int) ≤ (k : Int) := by omega
      have hix1 : (k : Int) < (n : Int) := by omega
      clear hbel
      go_wp2_with fail
      go_quiet (fail)
      go_wp2_with fail
      go_roundw
      case rel => exact ⟨k + 1,by omega,by go_num,below_drewN HB.out _⟩
      case measure => simp [intOf];omega
    · obtain rfl : k = n := by omega
      clear hbel
      go_wp2_with fail
      go_ret
      exact ⟨rfl,HB.out⟩
set_option maxHeartbeats 1000000 in
theorem SameInts_len (a b : Option Addr) (n ca cb : Nat) (l : List Nat) (hl : l.length = n) (w : World) (h : Lz w a ca l) (h' : Lz w b cb l) :
    Calls Tryz.prog 21 #[.slice a n ca,.slice b n cb] w fun e w' => e = .returned (.bool true) ∧ Below w.heap.size w w' := by
  have c1 := h.1
  rw [hl] at c1
  have c2 := h.2.1
  have c3 := h'.1
  rw [hl] at c3
  have c4 := h'.2.1
  unfold maxLen at c2 c4
  have HA := Lib.hid h
  have HB' := Lib.hid h'
  clear h h'
  go_enter Tryz.func21,Tryz.ntmps21
  go_wp2_with fail
  go_loopw [5] (fun i wr => ∃ k : Nat,k ≤ n ∧ i = .int .i64 k ∧ Below w.heap.size w wr) (fun i _ => n - (intOf i).toNat)
  case atStart => exact ⟨0,Nat.zero_le _,rfl,Below.refl _ _⟩
  case round =>
    obtain ⟨k,hk,rfl,hbel⟩ := hrel
    have HB := Lib.hid hbel
    by_cases hkn : k < n
    · have hlx : k < l.length := by omega
      obtain ⟨b1,o1,rfl,hc1⟩ := (HA.out.below hbel).2.2 (by omega)
      obtain ⟨b2,o2,rfl,hc2⟩ := (HB'.out.below hbel).2.2 (by omega)
      have g1 := hc1 k _ (List.getElem?_eq_getElem hlx)
      have g2 := hc2 k _ (List.getElem?_eq_getElem hlx)
      obtain ⟨v,hv⟩ : ∃ v,l[k] = v := ⟨_,rfl⟩
      rw [hv] at g1 g2
      clear hc1 hc2 hv
      have hix0 : (0 : Int) ≤ (k : Int) := by omega
      have hix1 : (k : Int) < (n : Int) := by omega
      clear hbel
      go_wp2_with fail
      go_quiet (fail)
      go_wp2_with fail
      go_roundw
      case rel => exact ⟨k + 1,by omega,by go_num,below_drewN HB.out _⟩
      case measure => simp [intOf];omega
    · obtain rfl : k = n := by omega
      clear hbel
      go_wp2_with fail
      go_ret
      exact ⟨rfl,HB.out⟩
theorem dpart_any {N : Nat} (x y : Nat) (w : World) (_hN : N ≤ w.heap.size) (hx : x < 4294967296) (hy : y < 4294967296) (q : Rat) (hq : frq x y = q) :
    Calls Tryz.prog 33 #[.int .u32 x,.int .u32 y] w (PartPost N w q) := by
  have h1 := Lib.hid (Nt.lit (N := N) (w.alloc (.cells #[.bool false,.slice (some ⟨w.heap.size + 1,0,none⟩) 1 1,.slice (some ⟨w.heap.size + 1 + 1,0,none⟩) 1 1] 29)) x (w.heap.size + 1) (by simp) hx)
  have h2 := Lib.hid (Nt.lit (N := N) ((w.alloc (.cells #[.bool false,.slice (some ⟨w.heap.size + 1,0,none⟩) 1 1,.slice (some ⟨w.heap.size + 1 + 1,0,none⟩) 1 1] 29)).alloc (.cells #[.int .u32 x] 58)) y (w.heap.size + 1 + 1) (by simp) hy)
  have HQ := Lib.hid hq
  clear hq
  go_enter Tryz.func33,Tryz.ntmps33
  go_wp2_with fail
  exact bodyPost_ret (v := .agg #[.bool false,.slice (some ⟨w.heap.size + 1,0,none⟩) 1 1,.slice (some ⟨w.heap.size + 1 + 1,0,none⟩) 1 1]) (by simp [results,Tryz.results33,go_sem]) rfl ⟨_,_,rfl,⟨Nat.le_refl _,Nat.le_refl _,Nat.le_refl _,x,y,h1.out.below (bel1 _ _),h2.out,HQ.out⟩,bel3 w _ _ _⟩
theorem txt_110 : Tx (mkRat 1 10) ⟨#[49,47,49,48]⟩ := by
  refine ⟨by decide +kernel,by decide +kernel,by decide +kernel,?_⟩
  unfold txt
  rw [show (mkRat 1 10).num.natAbs = 1 by decide +kernel,show (mkRat 1 10).den = 10 by decide +kernel,if_neg (by decide),Lib.decDigits_one (by decide),Lib.decDigits_two (by decide) (by decide)];rfl
theorem txt_1 : Tx 1 ⟨#[49]⟩ := by
  refine ⟨by decide,by decide,by decide,?_⟩
  unfold txt
  rw [if_pos (show (1 : Rat).den = 1 from rfl),show (1 : Rat).num.natAbs = 1 from rfl,Lib.decDigits_one (by omega)];rfl
theorem txt_18 : Tx (mkRat 1 8) ⟨#[49,47,56]⟩ := txt_small _ 1 8 (by decide +kernel) (by decide +kernel) (by decide +kernel) (by decide) (by decide) (by decide)
theorem da_f1 : fishQ 3 0 0 3 = mkRat 1 10 := by decide +kernel
theorem da_f2 : fishQ 0 0 0 0 = 1 := by decide +kernel
theorem da_s1 : signQ (4 + 0) 4 = mkRat 1 8 := by decide +kernel
def daP : Nat → Rat := sel3 (frq 1 50) (frq 1 100) (frq 1 2)
theorem da_c1 : chkC daP 3 (frq 1 20) = 0 := by decide +kernel
theorem da_c2 : chkC daP 3 (frq 2 1) = 3 := by decide +kernel
theorem da_b : ∀ i,i < 3 → bonQ daP 3 (frq 1 20) i = sel3 false true false i := by decide +kernel
theorem da_h : ∀ i,i < 3 → holQ daP 3 (frq 1 20) i = sel3 true true false i := by decide +kernel
def daT (i j : Nat) : Int := if j = 0 ∨ j = 3 then (if i = 0 then 3 else 5) else 0
theorem da_g : flgC daT 2 (frq 1 50) = 0 := by decide +kernel
theorem da_l : flt (holQ (fsh daT) 2 (frq 1 50)) 2 = [1] := by decide +kernel
theorem da_v1 : vldT 31 0 0 0 = false := by decide +kernel
theorem da_v2 : vldT 30 0 0 0 = true := by decide +kernel
theorem da_v3 : vldT 0 0 0 (-1) = false := by decide +kernel
theorem Ts.daT (w : World) (b : Nat) (hb : b = w.heap.size) (T : TypeId) : Ts (w.alloc (.cells #[.int .i64 3,.int .i64 0,.int .i64 0,.int .i64 3,.int .i64 5,.int .i64 0,.int .i64 0,.int .i64 5] T)) (some ⟨b,0,none⟩) 2 2 daT := by
  subst hb
  refine ⟨by decide,by decide,fun _ => ⟨_,_,rfl,fun i hi => ?_⟩⟩
  obtain rfl | rfl : i = 0 ∨ i = 1 := by omega
  all_goals simp [Proofs.YtnillajhhimeiaaGreatDoor.daT]
theorem flags_is {N : Nat} (a : Option Addr) (n cap : Nat) (t : Nat → Nat → Int) (s2 : Bool) (a2 d2 : Option Addr) (na2 ca2 nd2 cd2 L : Nat) (al : Rat) (w : World) (hN : N ≤ w.heap.size) (h : Ts w a n cap t) (h2 : Rt N w s2 a2 na2 ca2 d2 nd2 cd2 al L) (hL : L ≤ 2097152) (hc : flgC t n al = 0) (l : List Nat) (hl : flt (holQ (fsh t) n al) n = l) (m : Nat) (hm : l.length = m) :
    Calls Tryz.prog 19 #[.slice a n cap,.agg #[.bool s2,.slice a2 na2 ca2,.slice d2 nd2 cd2]] w fun e w' => ∃ p cap,e = .returned (.tuple #[.slice p m cap,.int .i64 0]) ∧ Lz w' p cap l ∧ Below w.heap.size w w' := by
  subst hl hm
  exact flags_ok a n cap t s2 a2 d2 na2 ca2 nd2 cd2 L al w hN h h2 hL hc
set_option maxRecDepth 100000 in
set_option maxHeartbeats 40000000 in
theorem dawake_any {N : Nat} (w : World) (hN : N ≤ w.heap.size) (htab : TabW w) :
    Calls Tryz.prog 13 #[] w fun e w' => e = .returned (.bool true) ∧ Below w.heap.size w w' := by
  obtain ⟨px,hpx⟩ : ∃ p,fishQ 3 0 0 3 = p := ⟨_,rfl⟩
  have HPx := Lib.hid hpx
  have Hzx := Lib.hid (show rsz px ≤ 1 by rw [← hpx,da_f1];exact rsz_small _ (by decide +kernel) (by decide +kernel))
  have Htx := Lib.hid (show px = _ from hpx.symm.trans da_f1)
  clear hpx
  obtain ⟨py,hpy⟩ : ∃ p,fishQ 0 0 0 0 = p := ⟨_,rfl⟩
  have HPy := Lib.hid hpy
  have Hzy := Lib.hid (show rsz py ≤ 1 by rw [← hpy,da_f2];exact rsz_small _ (by decide +kernel) (by decide +kernel))
  have Hty := Lib.hid (show py = _ from hpy.symm.trans da_f2)
  clear hpy
  obtain ⟨pz,hpz⟩ : ∃ p,signQ (4 + 0) 4 = p := ⟨_,rfl⟩
  have HPz := Lib.hid hpz
  have Hzz := Lib.hid (show rsz pz ≤ 1 by rw [← hpz,da_s1];exact rsz_small _ (by decide +kernel) (by decide +kernel))
  have Htz := Lib.hid (show pz = _ from hpz.symm.trans da_s1)
  clear hpz
  have hN0 := hN
  have HT := Lib.hid htab
  clear htab
  have HB := Lib.hid (Below.refl w.heap.size w)
  go_enter Tryz.func13,Tryz.ntmps13
  go_wp2_with fail
  refine calls_name fun W0 hW => ?_
  have hs_W0 : w.heap.size ≤ W0.heap.size := by rw [← hW];(first | omega | (simp;done) | (simp;omega))
  have HL_W0 := Lib.hid (show Below w.heap.size w W0 by rw [← hW];exact BlA)
  replace HB := Lib.hid (show Below w.heap.size w W0 by rw [← hW];exact BlA)
  replace hN : N ≤ W0.heap.size := by rw [← hW];(first | omega | (simp;done) | (simp;omega))
  have hs0 : w.heap.size ≤ W0.heap.size := by rw [← hW];(first | omega | (simp;done) | (simp;omega))
  replace HT := Lib.hid (HT.out.below HL_W0.out)
  clear HL_W0
  clear hW
  refine (fisher_ok (N := N) 3 0 0 3 _ hN (by decide) (by decide) (by decide) (by decide) px HPx.out).mono ?_
  rintro e w1 ⟨rx,cx,rx2,cx2,rfl,hn,hn',hb⟩
  have hs_w1 : W0.heap.size ≤ w1.heap.size := hb.size
  replace HB := Lib.hid (HB.out.trans (hb.mono hs0))
  replace hN : N ≤ w1.heap.size := Nat.le_trans hN hb.size
  replace hs0 : w.heap.size ≤ w1.heap.size := Nat.le_trans hs0 hb.size
  replace HT := Lib.hid (HT.out.below hb)
  clear hb
  have HX1 := Lib.hid hn
  clear hn
  have HX2 := Lib.hid hn'
  clear hn'
  go_wp2_with fail
  refine calls_name fun W2 hW => ?_
  have hs_W2 : w1.heap.size ≤ W2.heap.size := by rw [← hW];(first | omega | (simp;done) | (simp;omega))
  have HK_W2 := Lib.hid (show Kp N w1 W2 by rw [← hW];exact KpA)
  have HL_W2 := Lib.hid (show Below w1.heap.size w1 W2 by rw [← hW];exact BlA)
  have k_X_0 : W2.cell? ⟨w1.heap.size,0,none⟩ = some (.bool (decide ((px).num < 0))) := by rw [← hW];(first | (go_simp;done) | (simp;done) | (simp [go_sem];done) | (simp [go_sem];done))
  have k_X_1 : W2.cell? ⟨w1.heap.size,1,none⟩ = some (.slice rx (nlen (px).num.natAbs) cx) := by rw [← hW];(first | (go_simp;done) | (simp;done) | (simp [go_sem];done) | (simp [go_sem];done))
  have k_X_2 : W2.cell? ⟨w1.heap.size,2,none⟩ = some (.slice rx2 (nlen (px).den) cx2) := by rw [← hW];(first | (go_simp;done) | (simp;done) | (simp [go_sem];done) | (simp [go_sem];done))
  have f_X : ∀ o,W2.frozen? ⟨w1.heap.size,o,none⟩ = false := by intro o;rw [← hW];(first | (go_simp;done) | (simp;done) | (simp [go_sem];done) | (simp [go_sem];done))
  have HX_X := Lib.hid (show Bn W2 (w1.heap.size) by rw [← hW];exact KpA)
  replace HX1 := Lib.hid (HX1.out.keep HK_W2.out)
  replace HX2 := Lib.hid (HX2.out.keep HK_W2.out)
  replace HB := Lib.hid (show Below w.heap.size w W2 by rw [← hW];exact BlA)
  replace hN : N ≤ W2.heap.size := by rw [← hW];(first | omega | (simp;done) | (simp;omega))
  replace hs0 : w.heap.size ≤ W2.heap.size := by rw [← hW];(first | omega | (simp;done) | (simp;omega))
  have hl_X : w1.heap.size < W2.heap.size := by rw [← hW];(first | omega | (simp;done) | (simp;omega))
  replace HT := Lib.hid (HT.out.below HL_W2.out)
  clear HL_W2
  clear hW HK_W2
  refine (fisher_ok (N := N) 0 0 0 0 _ hN (by decide) (by decide) (by decide) (by decide) py HPy.out).mono ?_
  rintro e w3 ⟨ry,cy,ry2,cy2,rfl,hn,hn',hb⟩
  have hs_w3 : W2.heap.size ≤ w3.heap.size := hb.size
  replace k_X_0 : w3.cell? ⟨w1.heap.size,0,none⟩ = some (.bool (decide ((px).num < 0))) := (hb.cell (p := ⟨w1.heap.size,0,none⟩) hl_X).trans k_X_0
  replace k_X_1 : w3.cell? ⟨w1.heap.size,1,none⟩ = some (.slice rx (nlen (px).num.natAbs) cx) := (hb.cell (p := ⟨w1.heap.size,1,none⟩) hl_X).trans k_X_1
  replace k_X_2 : w3.cell? ⟨w1.heap.size,2,none⟩ = some (.slice rx2 (nlen (px).den) cx2) := (hb.cell (p := ⟨w1.heap.size,2,none⟩) hl_X).trans k_X_2
  replace f_X : ∀ o,w3.frozen? ⟨w1.heap.size,o,none⟩ = false := fun o => (hb.frozen (p := ⟨w1.heap.size,o,none⟩) hl_X).trans (f_X o)
  replace HX_X := Lib.hid (HX_X.out.below hb)
  replace HX1 := Lib.hid (HX1.out.below hb)
  replace HX2 := Lib.hid (HX2.out.below hb)
  replace HB := Lib.hid (HB.out.trans (hb.mono hs0))
  replace hN : N ≤ w3.heap.size := Nat.le_trans hN hb.size
  replace hs0 : w.heap.size ≤ w3.heap.size := Nat.le_trans hs0 hb.size
  replace hl_X : w1.heap.size < w3.heap.size := Nat.lt_of_lt_of_le hl_X hb.size
  replace HT := Lib.hid (HT.out.below hb)
  clear hb
  have HY1 := Lib.hid hn
  clear hn
  have HY2 := Lib.hid hn'
  clear hn'
  go_wp2_with fail
  refine calls_name fun W4 hW => ?_
  have HL_W4 := Lib.hid (show Below w3.heap.size w3 W4 by rw [← hW];exact BlA)
  have hs_W4 : w3.heap.size ≤ W4.heap.size := by rw [← hW];(first | omega | (simp;done) | (simp;omega))
  have hd_X_Y : w1.heap.size < w3.heap.size := by omega
  have HK_W4 := Lib.hid (show Kp N w3 W4 by rw [← hW];exact KpA)
  replace k_X_0 : W4.cell? ⟨w1.heap.size,0,none⟩ = some (.bool (decide ((px).num < 0))) := (HL_W4.out.cell (p := ⟨w1.heap.size,0,none⟩) hl_X).trans k_X_0
  replace k_X_1 : W4.cell? ⟨w1.heap.size,1,none⟩ = some (.slice rx (nlen (px).num.natAbs) cx) := (HL_W4.out.cell (p := ⟨w1.heap.size,1,none⟩) hl_X).trans k_X_1
  replace k_X_2 : W4.cell? ⟨w1.heap.size,2,none⟩ = some (.slice rx2 (nlen (px).den) cx2) := (HL_W4.out.cell (p := ⟨w1.heap.size,2,none⟩) hl_X).trans k_X_2
  replace f_X : ∀ o,W4.frozen? ⟨w1.heap.size,o,none⟩ = false := fun o => (HL_W4.out.frozen (p := ⟨w1.heap.size,o,none⟩) hl_X).trans (f_X o)
  replace HX_X := Lib.hid (show Bn W4 (w1.heap.size) by rw [← hW];exact KpA)
  have k_Y_0 : W4.cell? ⟨w3.heap.size,0,none⟩ = some (.bool (decide ((py).num < 0))) := by rw [← hW];(first | (go_simp;done) | (simp;done) | (simp [go_sem];done) | (simp [go_sem,k_X_0,k_X_1,k_X_2,f_X,hl_X];done))
  have k_Y_1 : W4.cell? ⟨w3.heap.size,1,none⟩ = some (.slice ry (nlen (py).num.natAbs) cy) := by rw [← hW];(first | (go_simp;done) | (simp;done) | (simp [go_sem];done) | (simp [go_sem,k_X_0,k_X_1,k_X_2,f_X,hl_X];done))
  have k_Y_2 : W4.cell? ⟨w3.heap.size,2,none⟩ = some (.slice ry2 (nlen (py).den) cy2) := by rw [← hW];(first | (go_simp;done) | (simp;done) | (simp [go_sem];done) | (simp [go_sem,k_X_0,k_X_1,k_X_2,f_X,hl_X];done))
  have f_Y : ∀ o,W4.frozen? ⟨w3.heap.size,o,none⟩ = false := by intro o;rw [← hW];(first | (go_simp;done) | (simp;done) | (simp [go_sem];done) | (simp [go_sem,k_X_0,k_X_1,k_X_2,f_X,hl_X];done))
  have HX_Y := Lib.hid (show Bn W4 (w3.heap.size) by rw [← hW];exact KpA)
  replace HX1 := Lib.hid (HX1.out.keep HK_W4.out)
  replace HX2 := Lib.hid (HX2.out.keep HK_W4.out)
  replace HY1 := Lib.hid (HY1.out.keep HK_W4.out)
  replace HY2 := Lib.hid (HY2.out.keep HK_W4.out)
  replace HB := Lib.hid (show Below w.heap.size w W4 by rw [← hW];exact BlA)
  replace hN : N ≤ W4.heap.size := by rw [← hW];(first | omega | (simp;done) | (simp;omega))
  replace hs0 : w.heap.size ≤ W4.heap.size := by rw [← hW];(first | omega | (simp;done) | (simp;omega))
  replace hl_X : w1.heap.size < W4.heap.size := by rw [← hW];(first | omega | (simp;done) | (simp;omega))
  have hl_Y : w3.heap.size < W4.heap.size := by rw [← hW];(first | omega | (simp;done) | (simp;omega))
  replace HT := Lib.hid (HT.out.below HL_W4.out)
  clear HL_W4
  clear hW HK_W4
  refine (sign_ok (N := N) 4 0 _ hN (by decide) (by decide) pz HPz.out).mono ?_
  rintro e w5 ⟨rz,cz,rz2,cz2,rfl,hn,hn',hb⟩
  have hs_w5 : W4.heap.size ≤ w5.heap.size := hb.size
  replace k_X_0 : w5.cell? ⟨w1.heap.size,0,none⟩ = some (.bool (decide ((px).num < 0))) := (hb.cell (p := ⟨w1.heap.size,0,none⟩) hl_X).trans k_X_0
  replace k_X_1 : w5.cell? ⟨w1.heap.size,1,none⟩ = some (.slice rx (nlen (px).num.natAbs) cx) := (hb.cell (p := ⟨w1.heap.size,1,none⟩) hl_X).trans k_X_1
  replace k_X_2 : w5.cell? ⟨w1.heap.size,2,none⟩ = some (.slice rx2 (nlen (px).den) cx2) := (hb.cell (p := ⟨w1.heap.size,2,none⟩) hl_X).trans k_X_2
  replace f_X : ∀ o,w5.frozen? ⟨w1.heap.size,o,none⟩ = false := fun o => (hb.frozen (p := ⟨w1.heap.size,o,none⟩) hl_X).trans (f_X o)
  replace HX_X := Lib.hid (HX_X.out.below hb)
  replace k_Y_0 : w5.cell? ⟨w3.heap.size,0,none⟩ = some (.bool (decide ((py).num < 0))) := (hb.cell (p := ⟨w3.heap.size,0,none⟩) hl_Y).trans k_Y_0
  replace k_Y_1 : w5.cell? ⟨w3.heap.size,1,none⟩ = some (.slice ry (nlen (py).num.natAbs) cy) := (hb.cell (p := ⟨w3.heap.size,1,none⟩) hl_Y).trans k_Y_1
  replace k_Y_2 : w5.cell? ⟨w3.heap.size,2,none⟩ = some (.slice ry2 (nlen (py).den) cy2) := (hb.cell (p := ⟨w3.heap.size,2,none⟩) hl_Y).trans k_Y_2
  replace f_Y : ∀ o,w5.frozen? ⟨w3.heap.size,o,none⟩ = false := fun o => (hb.frozen (p := ⟨w3.heap.size,o,none⟩) hl_Y).trans (f_Y o)
  replace HX_Y := Lib.hid (HX_Y.out.below hb)
  replace HX1 := Lib.hid (HX1.out.below hb)
  replace HX2 := Lib.hid (HX2.out.below hb)
  replace HY1 := Lib.hid (HY1.out.below hb)
  replace HY2 := Lib.hid (HY2.out.below hb)
  replace HB := Lib.hid (HB.out.trans (hb.mono hs0))
  replace hN : N ≤ w5.heap.size := Nat.le_trans hN hb.size
  replace hs0 : w.heap.size ≤ w5.heap.size := Nat.le_trans hs0 hb.size
  replace hl_X : w1.heap.size < w5.heap.size := Nat.lt_of_lt_of_le hl_X hb.size
  replace hl_Y : w3.heap.size < w5.heap.size := Nat.lt_of_lt_of_le hl_Y hb.size
  replace HT := Lib.hid (HT.out.below hb)
  clear hb
  have HZ1 := Lib.hid hn
  clear hn
  have HZ2 := Lib.hid hn'
  clear hn'
  go_wp2_with fail
  refine calls_name fun W6 hW => ?_
  have HL_W6 := Lib.hid (show Below w5.heap.size w5 W6 by rw [← hW];exact BlA)
  have hs_W6 : w5.heap.size ≤ W6.heap.size := by rw [← hW];(first | omega | (simp;done) | (simp;omega))
  have hd_X_Z : w1.heap.size < w5.heap.size := by omega
  have hd_Y_Z : w3.heap.size < w5.heap.size := by omega
  have HK_W6 := Lib.hid (show Kp N w5 W6 by rw [← hW];exact KpA)
  replace k_X_0 : W6.cell? ⟨w1.heap.size,0,none⟩ = some (.bool (decide ((px).num < 0))) := (HL_W6.out.cell (p := ⟨w1.heap.size,0,none⟩) hl_X).trans k_X_0
  replace k_X_1 : W6.cell? ⟨w1.heap.size,1,none⟩ = some (.slice rx (nlen (px).num.natAbs) cx) := (HL_W6.out.cell (p := ⟨w1.heap.size,1,none⟩) hl_X).trans k_X_1
  replace k_X_2 : W6.cell? ⟨w1.heap.size,2,none⟩ = some (.slice rx2 (nlen (px).den) cx2) := (HL_W6.out.cell (p := ⟨w1.heap.size,2,none⟩) hl_X).trans k_X_2
  replace f_X : ∀ o,W6.frozen? ⟨w1.heap.size,o,none⟩ = false := fun o => (HL_W6.out.frozen (p := ⟨w1.heap.size,o,none⟩) hl_X).trans (f_X o)
  replace HX_X := Lib.hid (show Bn W6 (w1.heap.size) by rw [← hW];exact KpA)
  replace k_Y_0 : W6.cell? ⟨w3.heap.size,0,none⟩ = some (.bool (decide ((py).num < 0))) := (HL_W6.out.cell (p := ⟨w3.heap.size,0,none⟩) hl_Y).trans k_Y_0
  replace k_Y_1 : W6.cell? ⟨w3.heap.size,1,none⟩ = some (.slice ry (nlen (py).num.natAbs) cy) := (HL_W6.out.cell (p := ⟨w3.heap.size,1,none⟩) hl_Y).trans k_Y_1
  replace k_Y_2 : W6.cell? ⟨w3.heap.size,2,none⟩ = some (.slice ry2 (nlen (py).den) cy2) := (HL_W6.out.cell (p := ⟨w3.heap.size,2,none⟩) hl_Y).trans k_Y_2
  replace f_Y : ∀ o,W6.frozen? ⟨w3.heap.size,o,none⟩ = false := fun o => (HL_W6.out.frozen (p := ⟨w3.heap.size,o,none⟩) hl_Y).trans (f_Y o)
  replace HX_Y := Lib.hid (show Bn W6 (w3.heap.size) by rw [← hW];exact KpA)
  have k_Z_0 : W6.cell? ⟨w5.heap.size,0,none⟩ = some (.bool (decide ((pz).num < 0))) := by rw [← hW];(first | (go_simp;done) | (simp;done) | (simp [go_sem];done) | (simp [go_sem,k_X_0,k_X_1,k_X_2,k_Y_0,k_Y_1,k_Y_2,f_X,f_Y,hl_X,hl_Y];done))
  have k_Z_1 : W6.cell? ⟨w5.heap.size,1,none⟩ = some (.slice rz (nlen (pz).num.natAbs) cz) := by rw [← hW];(first | (go_simp;done) | (simp;done) | (simp [go_sem];done) | (simp [go_sem,k_X_0,k_X_1,k_X_2,k_Y_0,k_Y_1,k_Y_2,f_X,f_Y,hl_X,hl_Y];done))
  have k_Z_2 : W6.cell? ⟨w5.heap.size,2,none⟩ = some (.slice rz2 (nlen (pz).den) cz2) := by rw [← hW];(first | (go_simp;done) | (simp;done) | (simp [go_sem];done) | (simp [go_sem,k_X_0,k_X_1,k_X_2,k_Y_0,k_Y_1,k_Y_2,f_X,f_Y,hl_X,hl_Y];done))
  have f_Z : ∀ o,W6.frozen? ⟨w5.heap.size,o,none⟩ = false := by intro o;rw [← hW];(first | (go_simp;done) | (simp;done) | (simp [go_sem];done) | (simp [go_sem,k_X_0,k_X_1,k_X_2,k_Y_0,k_Y_1,k_Y_2,f_X,f_Y,hl_X,hl_Y];done))
  have HX_Z := Lib.hid (show Bn W6 (w5.heap.size) by rw [← hW];exact KpA)
  replace HX1 := Lib.hid (HX1.out.keep HK_W6.out)
  replace HX2 := Lib.hid (HX2.out.keep HK_W6.out)
  replace HY1 := Lib.hid (HY1.out.keep HK_W6.out)
  replace HY2 := Lib.hid (HY2.out.keep HK_W6.out)
  replace HZ1 := Lib.hid (HZ1.out.keep HK_W6.out)
  replace HZ2 := Lib.hid (HZ2.out.keep HK_W6.out)
  replace HB := Lib.hid (show Below w.heap.size w W6 by rw [← hW];exact BlA)
  replace hN : N ≤ W6.heap.size := by rw [← hW];(first | omega | (simp;done) | (simp;omega))
  replace hs0 : w.heap.size ≤ W6.heap.size := by rw [← hW];(first | omega | (simp;done) | (simp;omega))
  replace hl_X : w1.heap.size < W6.heap.size := by rw [← hW];(first | omega | (simp;done) | (simp;omega))
  replace hl_Y : w3.heap.size < W6.heap.size := by rw [← hW];(first | omega | (simp;done) | (simp;omega))
  have hl_Z : w5.heap.size < W6.heap.size := by rw [← hW];(first | omega | (simp;done) | (simp;omega))
  replace HT := Lib.hid (HT.out.below HL_W6.out)
  clear HL_W6
  clear hW HK_W6
  refine (print_is (N := N) _ _ _ _ _ _ _ 1 px _ hN (Rt.of_norm HX1.out HX2.out 1 Hzx.out) (by decide) HT.out _ (by rw [Htx.out];exact txt_110)).mono ?_
  rintro e w7 ⟨rfl,hb⟩
  have hs_w7 : W6.heap.size ≤ w7.heap.size := hb.size
  replace k_X_0 : w7.cell? ⟨w1.heap.size,0,none⟩ = some (.bool (decide ((px).num < 0))) := (hb.cell (p := ⟨w1.heap.size,0,none⟩) hl_X).trans k_X_0
  replace k_X_1 : w7.cell? ⟨w1.heap.size,1,none⟩ = some (.slice rx (nlen (px).num.natAbs) cx) := (hb.cell (p := ⟨w1.heap.size,1,none⟩) hl_X).trans k_X_1
  replace k_X_2 : w7.cell? ⟨w1.heap.size,2,none⟩ = some (.slice rx2 (nlen (px).den) cx2) := (hb.cell (p := ⟨w1.heap.size,2,none⟩) hl_X).trans k_X_2
  replace f_X : ∀ o,w7.frozen? ⟨w1.heap.size,o,none⟩ = false := fun o => (hb.frozen (p := ⟨w1.heap.size,o,none⟩) hl_X).trans (f_X o)
  replace HX_X := Lib.hid (HX_X.out.below hb)
  replace k_Y_0 : w7.cell? ⟨w3.heap.size,0,none⟩ = some (.bool (decide ((py).num < 0))) := (hb.cell (p := ⟨w3.heap.size,0,none⟩) hl_Y).trans k_Y_0
  replace k_Y_1 : w7.cell? ⟨w3.heap.size,1,none⟩ = some (.slice ry (nlen (py).num.natAbs) cy) := (hb.cell (p := ⟨w3.heap.size,1,none⟩) hl_Y).trans k_Y_1
  replace k_Y_2 : w7.cell? ⟨w3.heap.size,2,none⟩ = some (.slice ry2 (nlen (py).den) cy2) := (hb.cell (p := ⟨w3.heap.size,2,none⟩) hl_Y).trans k_Y_2
  replace f_Y : ∀ o,w7.frozen? ⟨w3.heap.size,o,none⟩ = false := fun o => (hb.frozen (p := ⟨w3.heap.size,o,none⟩) hl_Y).trans (f_Y o)
  replace HX_Y := Lib.hid (HX_Y.out.below hb)
  replace k_Z_0 : w7.cell? ⟨w5.heap.size,0,none⟩ = some (.bool (decide ((pz).num < 0))) := (hb.cell (p := ⟨w5.heap.size,0,none⟩) hl_Z).trans k_Z_0
  replace k_Z_1 : w7.cell? ⟨w5.heap.size,1,none⟩ = some (.slice rz (nlen (pz).num.natAbs) cz) := (hb.cell (p := ⟨w5.heap.size,1,none⟩) hl_Z).trans k_Z_1
  replace k_Z_2 : w7.cell? ⟨w5.heap.size,2,none⟩ = some (.slice rz2 (nlen (pz).den) cz2) := (hb.cell (p := ⟨w5.heap.size,2,none⟩) hl_Z).trans k_Z_2
  replace f_Z : ∀ o,w7.frozen? ⟨w5.heap.size,o,none⟩ = false := fun o => (hb.frozen (p := ⟨w5.heap.size,o,none⟩) hl_Z).trans (f_Z o)
  replace HX_Z := Lib.hid (HX_Z.out.below hb)
  replace HX1 := Lib.hid (HX1.out.below hb)
  replace HX2 := Lib.hid (HX2.out.below hb)
  replace HY1 := Lib.hid (HY1.out.below hb)
  replace HY2 := Lib.hid (HY2.out.below hb)
  replace HZ1 := Lib.hid (HZ1.out.below hb)
  replace HZ2 := Lib.hid (HZ2.out.below hb)
  replace HB := Lib.hid (HB.out.trans (hb.mono hs0))
  replace hN : N ≤ w7.heap.size := Nat.le_trans hN hb.size
  replace hs0 : w.heap.size ≤ w7.heap.size := Nat.le_trans hs0 hb.size
  replace hl_X : w1.heap.size < w7.heap.size := Nat.lt_of_lt_of_le hl_X hb.size
  replace hl_Y : w3.heap.size < w7.heap.size := Nat.lt_of_lt_of_le hl_Y hb.size
  replace hl_Z : w5.heap.size < w7.heap.size := Nat.lt_of_lt_of_le hl_Z hb.size
  replace HT := Lib.hid (HT.out.below hb)
  clear hb
  clear hl_X f_X HX_X k_X_0 k_X_1 k_X_2
  clear HX1
  clear HX2
  go_wp2_with fail
  refine calls_name fun W8 hW => ?_
  have HL_W8 := Lib.hid (show Below w7.heap.size w7 W8 by rw [← hW];exact BlA)
  have hs_W8 : w7.heap.size ≤ W8.heap.size := by rw [← hW];(first | omega | (simp;done) | (simp;omega))
  have HK_W8 := Lib.hid (show Kp N w7 W8 by rw [← hW];exact KpA)
  replace k_Y_0 : W8.cell? ⟨w3.heap.size,0,none⟩ = some (.bool (decide ((py).num < 0))) := (HL_W8.out.cell (p := ⟨w3.heap.size,0,none⟩) hl_Y).trans k_Y_0
  replace k_Y_1 : W8.cell? ⟨w3.heap.size,1,none⟩ = some (.slice ry (nlen (py).num.natAbs) cy) := (HL_W8.out.cell (p := ⟨w3.heap.size,1,none⟩) hl_Y).trans k_Y_1
  replace k_Y_2 : W8.cell? ⟨w3.heap.size,2,none⟩ = some (.slice ry2 (nlen (py).den) cy2) := (HL_W8.out.cell (p := ⟨w3.heap.size,2,none⟩) hl_Y).trans k_Y_2
  replace f_Y : ∀ o,W8.frozen? ⟨w3.heap.size,o,none⟩ = false := fun o => (HL_W8.out.frozen (p := ⟨w3.heap.size,o,none⟩) hl_Y).trans (f_Y o)
  replace HX_Y := Lib.hid (show Bn W8 (w3.heap.size) by rw [← hW];exact KpA)
  replace k_Z_0 : W8.cell? ⟨w5.heap.size,0,none⟩ = some (.bool (decide ((pz).num < 0))) := (HL_W8.out.cell (p := ⟨w5.heap.size,0,none⟩) hl_Z).trans k_Z_0
  replace k_Z_1 : W8.cell? ⟨w5.heap.size,1,none⟩ = some (.slice rz (nlen (pz).num.natAbs) cz) := (HL_W8.out.cell (p := ⟨w5.heap.size,1,none⟩) hl_Z).trans k_Z_1
  replace k_Z_2 : W8.cell? ⟨w5.heap.size,2,none⟩ = some (.slice rz2 (nlen (pz).den) cz2) := (HL_W8.out.cell (p := ⟨w5.heap.size,2,none⟩) hl_Z).trans k_Z_2
  replace f_Z : ∀ o,W8.frozen? ⟨w5.heap.size,o,none⟩ = false := fun o => (HL_W8.out.frozen (p := ⟨w5.heap.size,o,none⟩) hl_Z).trans (f_Z o)
  replace HX_Z := Lib.hid (show Bn W8 (w5.heap.size) by rw [← hW];exact KpA)
  replace HY1 := Lib.hid (HY1.out.keep HK_W8.out)
  replace HY2 := Lib.hid (HY2.out.keep HK_W8.out)
  replace HZ1 := Lib.hid (HZ1.out.keep HK_W8.out)
  replace HZ2 := Lib.hid (HZ2.out.keep HK_W8.out)
  replace HB := Lib.hid (show Below w.heap.size w W8 by rw [← hW];exact BlA)
  replace hN : N ≤ W8.heap.size := by rw [← hW];(first | omega | (simp;done) | (simp;omega))
  replace hs0 : w.heap.size ≤ W8.heap.size := by rw [← hW];(first | omega | (simp;done) | (simp;omega))
  replace hl_Y : w3.heap.size < W8.heap.size := by rw [← hW];(first | omega | (simp;done) | (simp;omega))
  replace hl_Z : w5.heap.size < W8.heap.size := by rw [← hW];(first | omega | (simp;done) | (simp;omega))
  replace HT := Lib.hid (HT.out.below HL_W8.out)
  clear HL_W8
  clear hW HK_W8
  refine (print_is (N := N) _ _ _ _ _ _ _ 1 py _ hN (Rt.of_norm HY1.out HY2.out 1 Hzy.out) (by decide) HT.out _ (by rw [Hty.out];exact txt_1)).mono ?_
  rintro e w9 ⟨rfl,hb⟩
  have hs_w9 : W8.heap.size ≤ w9.heap.size := hb.size
  replace k_Y_0 : w9.cell? ⟨w3.heap.size,0,none⟩ = some (.bool (decide ((py).num < 0))) := (hb.cell (p := ⟨w3.heap.size,0,none⟩) hl_Y).trans k_Y_0
  replace k_Y_1 : w9.cell? ⟨w3.heap.size,1,none⟩ = some (.slice ry (nlen (py).num.natAbs) cy) := (hb.cell (p := ⟨w3.heap.size,1,none⟩) hl_Y).trans k_Y_1
  replace k_Y_2 : w9.cell? ⟨w3.heap.size,2,none⟩ = some (.slice ry2 (nlen (py).den) cy2) := (hb.cell (p := ⟨w3.heap.size,2,none⟩) hl_Y).trans k_Y_2
  replace f_Y : ∀ o,w9.frozen? ⟨w3.heap.size,o,none⟩ = false := fun o => (hb.frozen (p := ⟨w3.heap.size,o,none⟩) hl_Y).trans (f_Y o)
  replace HX_Y := Lib.hid (HX_Y.out.below hb)
  replace k_Z_0 : w9.cell? ⟨w5.heap.size,0,none⟩ = some (.bool (decide ((pz).num < 0))) := (hb.cell (p := ⟨w5.heap.size,0,none⟩) hl_Z).trans k_Z_0
  replace k_Z_1 : w9.cell? ⟨w5.heap.size,1,none⟩ = some (.slice rz (nlen (pz).num.natAbs) cz) := (hb.cell (p := ⟨w5.heap.size,1,none⟩) hl_Z).trans k_Z_1
  replace k_Z_2 : w9.cell? ⟨w5.heap.size,2,none⟩ = some (.slice rz2 (nlen (pz).den) cz2) := (hb.cell (p := ⟨w5.heap.size,2,none⟩) hl_Z).trans k_Z_2
  replace f_Z : ∀ o,w9.frozen? ⟨w5.heap.size,o,none⟩ = false := fun o => (hb.frozen (p := ⟨w5.heap.size,o,none⟩) hl_Z).trans (f_Z o)
  replace HX_Z := Lib.hid (HX_Z.out.below hb)
  replace HY1 := Lib.hid (HY1.out.below hb)
  replace HY2 := Lib.hid (HY2.out.below hb)
  replace HZ1 := Lib.hid (HZ1.out.below hb)
  replace HZ2 := Lib.hid (HZ2.out.below hb)
  replace HB := Lib.hid (HB.out.trans (hb.mono hs0))
  replace hN : N ≤ w9.heap.size := Nat.le_trans hN hb.size
  replace hs0 : w.heap.size ≤ w9.heap.size := Nat.le_trans hs0 hb.size
  replace hl_Y : w3.heap.size < w9.heap.size := Nat.lt_of_lt_of_le hl_Y hb.size
  replace hl_Z : w5.heap.size < w9.heap.size := Nat.lt_of_lt_of_le hl_Z hb.size
  replace HT := Lib.hid (HT.out.below hb)
  clear hb
  clear hl_Y f_Y HX_Y k_Y_0 k_Y_1 k_Y_2
  clear HY1
  clear HY2
  go_wp2_with fail
  refine calls_name fun W10 hW => ?_
  have HL_W10 := Lib.hid (show Below w9.heap.size w9 W10 by rw [← hW];exact BlA)
  have hs_W10 : w9.heap.size ≤ W10.heap.size := by rw [← hW];(first | omega | (simp;done) | (simp;omega))
  have HK_W10 := Lib.hid (show Kp N w9 W10 by rw [← hW];exact KpA)
  replace k_Z_0 : W10.cell? ⟨w5.heap.size,0,none⟩ = some (.bool (decide ((pz).num < 0))) := (HL_W10.out.cell (p := ⟨w5.heap.size,0,none⟩) hl_Z).trans k_Z_0
  replace k_Z_1 : W10.cell? ⟨w5.heap.size,1,none⟩ = some (.slice rz (nlen (pz).num.natAbs) cz) := (HL_W10.out.cell (p := ⟨w5.heap.size,1,none⟩) hl_Z).trans k_Z_1
  replace k_Z_2 : W10.cell? ⟨w5.heap.size,2,none⟩ = some (.slice rz2 (nlen (pz).den) cz2) := (HL_W10.out.cell (p := ⟨w5.heap.size,2,none⟩) hl_Z).trans k_Z_2
  replace f_Z : ∀ o,W10.frozen? ⟨w5.heap.size,o,none⟩ = false := fun o => (HL_W10.out.frozen (p := ⟨w5.heap.size,o,none⟩) hl_Z).trans (f_Z o)
  replace HX_Z := Lib.hid (show Bn W10 (w5.heap.size) by rw [← hW];exact KpA)
  replace HZ1 := Lib.hid (HZ1.out.keep HK_W10.out)
  replace HZ2 := Lib.hid (HZ2.out.keep HK_W10.out)
  replace HB := Lib.hid (show Below w.heap.size w W10 by rw [← hW];exact BlA)
  replace hN : N ≤ W10.heap.size := by rw [← hW];(first | omega | (simp;done) | (simp;omega))
  replace hs0 : w.heap.size ≤ W10.heap.size := by rw [← hW];(first | omega | (simp;done) | (simp;omega))
  replace hl_Z : w5.heap.size < W10.heap.size := by rw [← hW];(first | omega | (simp;done) | (simp;omega))
  replace HT := Lib.hid (HT.out.below HL_W10.out)
  clear HL_W10
  clear hW HK_W10
  refine (print_is (N := N) _ _ _ _ _ _ _ 1 pz _ hN (Rt.of_norm HZ1.out HZ2.out 1 Hzz.out) (by decide) HT.out _ (by rw [Htz.out];exact txt_18)).mono ?_
  rintro e w11 ⟨rfl,hb⟩
  have hs_w11 : W10.heap.size ≤ w11.heap.size := hb.size
  replace k_Z_0 : w11.cell? ⟨w5.heap.size,0,none⟩ = some (.bool (decide ((pz).num < 0))) := (hb.cell (p := ⟨w5.heap.size,0,none⟩) hl_Z).trans k_Z_0
  replace k_Z_1 : w11.cell? ⟨w5.heap.size,1,none⟩ = some (.slice rz (nlen (pz).num.natAbs) cz) := (hb.cell (p := ⟨w5.heap.size,1,none⟩) hl_Z).trans k_Z_1
  replace k_Z_2 : w11.cell? ⟨w5.heap.size,2,none⟩ = some (.slice rz2 (nlen (pz).den) cz2) := (hb.cell (p := ⟨w5.heap.size,2,none⟩) hl_Z).trans k_Z_2
  replace f_Z : ∀ o,w11.frozen? ⟨w5.heap.size,o,none⟩ = false := fun o => (hb.frozen (p := ⟨w5.heap.size,o,none⟩) hl_Z).trans (f_Z o)
  replace HX_Z := Lib.hid (HX_Z.out.below hb)
  replace HZ1 := Lib.hid (HZ1.out.below hb)
  replace HZ2 := Lib.hid (HZ2.out.below hb)
  replace HB := Lib.hid (HB.out.trans (hb.mono hs0))
  replace hN : N ≤ w11.heap.size := Nat.le_trans hN hb.size
  replace hs0 : w.heap.size ≤ w11.heap.size := Nat.le_trans hs0 hb.size
  replace hl_Z : w5.heap.size < w11.heap.size := Nat.lt_of_lt_of_le hl_Z hb.size
  replace HT := Lib.hid (HT.out.below hb)
  clear hb
  clear hl_Z f_Z HX_Z k_Z_0 k_Z_1 k_Z_2
  clear HZ1
  clear HZ2
  go_wp2_with fail
  refine calls_name fun W12 hW => ?_
  have hs_W12 : w11.heap.size ≤ W12.heap.size := by rw [← hW];(first | omega | (simp;done) | (simp;omega))
  have HL_W12 := Lib.hid (show Below w11.heap.size w11 W12 by rw [← hW];exact BlA)
  replace HB := Lib.hid (show Below w.heap.size w W12 by rw [← hW];exact BlA)
  replace hN : N ≤ W12.heap.size := by rw [← hW];(first | omega | (simp;done) | (simp;omega))
  replace hs0 : w.heap.size ≤ W12.heap.size := by rw [← hW];(first | omega | (simp;done) | (simp;omega))
  replace HT := Lib.hid (HT.out.below HL_W12.out)
  clear HL_W12
  clear hW
  refine (dpart_any (N := N) 1 50 _ hN (by decide) (by decide) _ rfl).mono ?_
  rintro e w13 ⟨aa,da,rfl,hn,hb⟩
  have hs_w13 : W12.heap.size ≤ w13.heap.size := hb.size
  replace HB := Lib.hid (HB.out.trans (hb.mono hs0))
  replace hN : N ≤ w13.heap.size := Nat.le_trans hN hb.size
  replace hs0 : w.heap.size ≤ w13.heap.size := Nat.le_trans hs0 hb.size
  replace HT := Lib.hid (HT.out.below hb)
  clear hb
  have HQa := Lib.hid hn
  clear hn
  go_wp2_with fail
  refine (dpart_any (N := N) 1 100 _ hN (by decide) (by decide) _ rfl).mono ?_
  rintro e w14 ⟨ab,db,rfl,hn,hb⟩
  have hs_w14 : w13.heap.size ≤ w14.heap.size := hb.size
  replace HQa := Lib.hid (HQa.out.below hb)
  replace HB := Lib.hid (HB.out.trans (hb.mono hs0))
  replace hN : N ≤ w14.heap.size := Nat.le_trans hN hb.size
  replace hs0 : w.heap.size ≤ w14.heap.size := Nat.le_trans hs0 hb.size
  replace HT := Lib.hid (HT.out.below hb)
  clear hb
  have HQb := Lib.hid hn
  clear hn
  go_wp2_with fail
  refine (dpart_any (N := N) 1 2 _ hN (by decide) (by decide) _ rfl).mono ?_
  rintro e w15 ⟨ac,dc,rfl,hn,hb⟩
  have hs_w15 : w14.heap.size ≤ w15.heap.size := hb.size
  replace HQa := Lib.hid (HQa.out.below hb)
  replace HQb := Lib.hid (HQb.out.below hb)
  replace HB := Lib.hid (HB.out.trans (hb.mono hs0))
  replace hN : N ≤ w15.heap.size := Nat.le_trans hN hb.size
  replace hs0 : w.heap.size ≤ w15.heap.size := Nat.le_trans hs0 hb.size
  replace HT := Lib.hid (HT.out.below hb)
  clear hb
  have HQc := Lib.hid hn
  clear hn
  go_wp2_with fail
  refine calls_name fun W16 hW => ?_
  have hs_W16 : w15.heap.size ≤ W16.heap.size := by rw [← hW];(first | omega | (simp;done) | (simp;omega))
  have HK_W16 := Lib.hid (show Kp N w15 W16 by rw [← hW];exact KpA)
  have RPS := Lib.hid (show Rs N W16 (some ⟨w15.heap.size,0,none⟩) 3 3 daP 1 by rw [← hW];exact Rs.three _ rfl HQa.out HQb.out HQc.out)
  have HL_W16 := Lib.hid (show Below w15.heap.size w15 W16 by rw [← hW];exact BlA)
  replace HQa := Lib.hid (HQa.out.keep HK_W16.out)
  replace HQb := Lib.hid (HQb.out.keep HK_W16.out)
  replace HQc := Lib.hid (HQc.out.keep HK_W16.out)
  replace HB := Lib.hid (show Below w.heap.size w W16 by rw [← hW];exact BlA)
  replace hN : N ≤ W16.heap.size := by rw [← hW];(first | omega | (simp;done) | (simp;omega))
  replace hs0 : w.heap.size ≤ W16.heap.size := by rw [← hW];(first | omega | (simp;done) | (simp;omega))
  replace HT := Lib.hid (HT.out.below HL_W16.out)
  clear HL_W16
  clear hW HK_W16
  clear HQa
  clear HQb
  clear HQc
  refine (dpart_any (N := N) 1 20 _ hN (by decide) (by decide) _ rfl).mono ?_
  rintro e w17 ⟨ad,dd,rfl,hn,hb⟩
  have hs_w17 : W16.heap.size ≤ w17.heap.size := hb.size
  replace HB := Lib.hid (HB.out.trans (hb.mono hs0))
  replace hN : N ≤ w17.heap.size := Nat.le_trans hN hb.size
  replace hs0 : w.heap.size ≤ w17.heap.size := Nat.le_trans hs0 hb.size
  replace HT := Lib.hid (HT.out.below hb)
  replace RPS := Lib.hid (RPS.out.below hb)
  clear hb
  have HQd := Lib.hid hn
  clear hn
  go_wp2_with fail
  refine (bonf_ok (N := N) _ 3 _ daP _ _ _ _ _ _ _ 1 (frq 1 20) _ hN RPS.out HQd.out (by decide) da_c1).mono ?_
  rintro e w18 ⟨bb,rfl,bb1,bb2,hl,hb⟩
  have hs_w18 : w17.heap.size ≤ w18.heap.size := hb.size
  replace HQd := Lib.hid (HQd.out.below hb)
  replace HB := Lib.hid (HB.out.trans (hb.mono hs0))
  replace hN : N ≤ w18.heap.size := Nat.le_trans hN hb.size
  replace hs0 : w.heap.size ≤ w18.heap.size := Nat.le_trans hs0 hb.size
  replace HT := Lib.hid (HT.out.below hb)
  replace RPS := Lib.hid (RPS.out.below hb)
  clear hb
  have HRB := Lib.hid ((Rw.bs hl (by decide)).congr da_b)
  clear hl
  clear HQd
  go_wp2_with fail
  refine calls_name fun W19 hW => ?_
  have hs_W19 : w18.heap.size ≤ W19.heap.size := by rw [← hW];(first | omega | (simp;done) | (simp;omega))
  have HL_W19 := Lib.hid (show Below w18.heap.size w18 W19 by rw [← hW];exact BlA)
  replace HB := Lib.hid (show Below w.heap.size w W19 by rw [← hW];exact BlA)
  replace hN : N ≤ W19.heap.size := by rw [← hW];(first | omega | (simp;done) | (simp;omega))
  replace hs0 : w.heap.size ≤ W19.heap.size := by rw [← hW];(first | omega | (simp;done) | (simp;omega))
  replace HT := Lib.hid (HT.out.below HL_W19.out)
  replace RPS := Lib.hid (RPS.out.below HL_W19.out)
  replace HRB := Lib.hid (HRB.out.below HL_W19.out)
  clear HL_W19
  clear hW
  refine (dpart_any (N := N) 1 20 _ hN (by decide) (by decide) _ rfl).mono ?_
  rintro e w20 ⟨ad,dd,rfl,hn,hb⟩
  have hs_w20 : W19.heap.size ≤ w20.heap.size := hb.size
  replace HB := Lib.hid (HB.out.trans (hb.mono hs0))
  replace hN : N ≤ w20.heap.size := Nat.le_trans hN hb.size
  replace hs0 : w.heap.size ≤ w20.heap.size := Nat.le_trans hs0 hb.size
  replace HT := Lib.hid (HT.out.below hb)
  replace RPS := Lib.hid (RPS.out.below hb)
  replace HRB := Lib.hid (HRB.out.below hb)
  clear hb
  have HQd := Lib.hid hn
  clear hn
  go_wp2_with fail
  refine (holm_ok (N := N) _ 3 _ daP _ _ _ _ _ _ _ 1 (frq 1 20) _ hN RPS.out HQd.out (by decide) da_c1).mono ?_
  rintro e w21 ⟨bh,rfl,bh1,bh2,hl,hb⟩
  have hs_w21 : w20.heap.size ≤ w21.heap.size := hb.size
  replace HQd := Lib.hid (HQd.out.below hb)
  replace HB := Lib.hid (HB.out.trans (hb.mono hs0))
  replace hN : N ≤ w21.heap.size := Nat.le_trans hN hb.size
  replace hs0 : w.heap.size ≤ w21.heap.size := Nat.le_trans hs0 hb.size
  replace HT := Lib.hid (HT.out.below hb)
  replace RPS := Lib.hid (RPS.out.below hb)
  replace HRB := Lib.hid (HRB.out.below hb)
  clear hb
  have HRH := Lib.hid ((Rw.bs hl (by decide)).congr da_h)
  clear hl
  clear HQd
  go_wp2_with fail
  refine calls_name fun W22 hW => ?_
  have hs_W22 : w21.heap.size ≤ W22.heap.size := by rw [← hW];(first | omega | (simp;done) | (simp;omega))
  have HS := Lib.hid (show Bs W22 (some ⟨w21.heap.size,0,none⟩) 3 3 (sel3 false true false) by rw [← hW];exact Bs.three _ _ rfl _ _ _)
  have HL_W22 := Lib.hid (show Below w21.heap.size w21 W22 by rw [← hW];exact BlA)
  replace HB := Lib.hid (show Below w.heap.size w W22 by rw [← hW];exact BlA)
  replace hN : N ≤ W22.heap.size := by rw [← hW];(first | omega | (simp;done) | (simp;omega))
  replace hs0 : w.heap.size ≤ W22.heap.size := by rw [← hW];(first | omega | (simp;done) | (simp;omega))
  replace HT := Lib.hid (HT.out.below HL_W22.out)
  replace RPS := Lib.hid (RPS.out.below HL_W22.out)
  replace HRB := Lib.hid (HRB.out.below HL_W22.out)
  replace HRH := Lib.hid (HRH.out.below HL_W22.out)
  clear HL_W22
  clear hW
  refine (SameBools_any _ _ 3 _ _ _ _ HRB.out HS.out).mono ?_
  rintro e w23 ⟨rfl,hb⟩
  have hs_w23 : W22.heap.size ≤ w23.heap.size := hb.size
  replace HB := Lib.hid (HB.out.trans (hb.mono hs0))
  replace hN : N ≤ w23.heap.size := Nat.le_trans hN hb.size
  replace hs0 : w.heap.size ≤ w23.heap.size := Nat.le_trans hs0 hb.size
  replace HT := Lib.hid (HT.out.below hb)
  replace RPS := Lib.hid (RPS.out.below hb)
  replace HRB := Lib.hid (HRB.out.below hb)
  replace HRH := Lib.hid (HRH.out.below hb)
  clear hb
  clear HS
  clear HRB
  go_wp2_with fail
  refine calls_name fun W24 hW => ?_
  have hs_W24 : w23.heap.size ≤ W24.heap.size := by rw [← hW];(first | omega | (simp;done) | (simp;omega))
  have HS := Lib.hid (show Bs W24 (some ⟨w23.heap.size,0,none⟩) 3 3 (sel3 true true false) by rw [← hW];exact Bs.three _ _ rfl _ _ _)
  have HL_W24 := Lib.hid (show Below w23.heap.size w23 W24 by rw [← hW];exact BlA)
  replace HB := Lib.hid (show Below w.heap.size w W24 by rw [← hW];exact BlA)
  replace hN : N ≤ W24.heap.size := by rw [← hW];(first | omega | (simp;done) | (simp;omega))
  replace hs0 : w.heap.size ≤ W24.heap.size := by rw [← hW];(first | omega | (simp;done) | (simp;omega))
  replace HT := Lib.hid (HT.out.below HL_W24.out)
  replace RPS := Lib.hid (RPS.out.below HL_W24.out)
  replace HRH := Lib.hid (HRH.out.below HL_W24.out)
  clear HL_W24
  clear hW
  refine (SameBools_any _ _ 3 _ _ _ _ HRH.out HS.out).mono ?_
  rintro e w25 ⟨rfl,hb⟩
  have hs_w25 : W24.heap.size ≤ w25.heap.size := hb.size
  replace HB := Lib.hid (HB.out.trans (hb.mono hs0))
  replace hN : N ≤ w25.heap.size := Nat.le_trans hN hb.size
  replace hs0 : w.heap.size ≤ w25.heap.size := Nat.le_trans hs0 hb.size
  replace HT := Lib.hid (HT.out.below hb)
  replace RPS := Lib.hid (RPS.out.below hb)
  replace HRH := Lib.hid (HRH.out.below hb)
  clear hb
  clear HS
  clear HRH
  go_wp2_with fail
  refine calls_name fun W26 hW => ?_
  have hs_W26 : w25.heap.size ≤ W26.heap.size := by rw [← hW];(first | omega | (simp;done) | (simp;omega))
  have HTS := Lib.hid (show Ts W26 (some ⟨w25.heap.size,0,none⟩) 2 2 daT by rw [← hW];exact Ts.daT _ _ rfl _)
  have HL_W26 := Lib.hid (show Below w25.heap.size w25 W26 by rw [← hW];exact BlA)
  replace HB := Lib.hid (show Below w.heap.size w W26 by rw [← hW];exact BlA)
  replace hN : N ≤ W26.heap.size := by rw [← hW];(first | omega | (simp;done) | (simp;omega))
  replace hs0 : w.heap.size ≤ W26.heap.size := by rw [← hW];(first | omega | (simp;done) | (simp;omega))
  replace HT := Lib.hid (HT.out.below HL_W26.out)
  replace RPS := Lib.hid (RPS.out.below HL_W26.out)
  clear HL_W26
  clear hW
  refine (dpart_any (N := N) 1 50 _ hN (by decide) (by decide) _ rfl).mono ?_
  rintro e w27 ⟨ae,de,rfl,hn,hb⟩
  have hs_w27 : W26.heap.size ≤ w27.heap.size := hb.size
  replace HB := Lib.hid (HB.out.trans (hb.mono hs0))
  replace hN : N ≤ w27.heap.size := Nat.le_trans hN hb.size
  replace hs0 : w.heap.size ≤ w27.heap.size := Nat.le_trans hs0 hb.size
  replace HT := Lib.hid (HT.out.below hb)
  replace RPS := Lib.hid (RPS.out.below hb)
  replace HTS := Lib.hid (HTS.out.below hb)
  clear hb
  have HQe := Lib.hid hn
  clear hn
  go_wp2_with fail
  refine (flags_is (N := N) _ 2 _ daT _ _ _ _ _ _ _ 1 (frq 1 50) _ hN HTS.out HQe.out (by decide) da_g [1] da_l 1 rfl).mono ?_
  rintro e w28 ⟨pl,cl,rfl,hl,hb⟩
  have hs_w28 : w27.heap.size ≤ w28.heap.size := hb.size
  replace HQe := Lib.hid (HQe.out.below hb)
  replace HB := Lib.hid (HB.out.trans (hb.mono hs0))
  replace hN : N ≤ w28.heap.size := Nat.le_trans hN hb.size
  replace hs0 : w.heap.size ≤ w28.heap.size := Nat.le_trans hs0 hb.size
  replace HT := Lib.hid (HT.out.below hb)
  replace RPS := Lib.hid (RPS.out.below hb)
  replace HTS := Lib.hid (HTS.out.below hb)
  clear hb
  have HLZ := Lib.hid hl
  clear hl
  clear HQe
  clear HTS
  go_wp2_with fail
  refine calls_name fun W29 hW => ?_
  have hs_W29 : w28.heap.size ≤ W29.heap.size := by rw [← hW];(first | omega | (simp;done) | (simp;omega))
  have HL_W29 := Lib.hid (show Below w28.heap.size w28 W29 by rw [← hW];exact BlA)
  replace HB := Lib.hid (show Below w.heap.size w W29 by rw [← hW];exact BlA)
  replace hN : N ≤ W29.heap.size := by rw [← hW];(first | omega | (simp;done) | (simp;omega))
  replace hs0 : w.heap.size ≤ W29.heap.size := by rw [← hW];(first | omega | (simp;done) | (simp;omega))
  replace HT := Lib.hid (HT.out.below HL_W29.out)
  replace RPS := Lib.hid (RPS.out.below HL_W29.out)
  replace HLZ := Lib.hid (HLZ.out.below HL_W29.out)
  clear HL_W29
  clear hW
  refine (fisher_bad (N := N) 31 0 0 0 _ hN da_v1).mono ?_
  rintro e w30 ⟨rfl,hb⟩
  have hs_w30 : W29.heap.size ≤ w30.heap.size := hb.size
  replace HB := Lib.hid (HB.out.trans (hb.mono hs0))
  replace hN : N ≤ w30.heap.size := Nat.le_trans hN hb.size
  replace hs0 : w.heap.size ≤ w30.heap.size := Nat.le_trans hs0 hb.size
  replace HT := Lib.hid (HT.out.below hb)
  replace RPS := Lib.hid (RPS.out.below hb)
  replace HLZ := Lib.hid (HLZ.out.below hb)
  clear hb
  go_wp2_with fail
  refine calls_name fun W31 hW => ?_
  have hs_W31 : w30.heap.size ≤ W31.heap.size := by rw [← hW];(first | omega | (simp;done) | (simp;omega))
  have HL_W31 := Lib.hid (show Below w30.heap.size w30 W31 by rw [← hW];exact BlA)
  replace HB := Lib.hid (show Below w.heap.size w W31 by rw [← hW];exact BlA)
  replace hN : N ≤ W31.heap.size := by rw [← hW];(first | omega | (simp;done) | (simp;omega))
  replace hs0 : w.heap.size ≤ W31.heap.size := by rw [← hW];(first | omega | (simp;done) | (simp;omega))
  replace HT := Lib.hid (HT.out.below HL_W31.out)
  replace RPS := Lib.hid (RPS.out.below HL_W31.out)
  replace HLZ := Lib.hid (HLZ.out.below HL_W31.out)
  clear HL_W31
  clear hW
  refine (dpart_any (N := N) 2 1 _ hN (by decide) (by decide) _ rfl).mono ?_
  rintro e w32 ⟨af,df,rfl,hn,hb⟩
  have hs_w32 : W31.heap.size ≤ w32.heap.size := hb.size
  replace HB := Lib.hid (HB.out.trans (hb.mono hs0))
  replace hN : N ≤ w32.heap.size := Nat.le_trans hN hb.size
  replace hs0 : w.heap.size ≤ w32.heap.size := Nat.le_trans hs0 hb.size
  replace HT := Lib.hid (HT.out.below hb)
  replace RPS := Lib.hid (RPS.out.below hb)
  replace HLZ := Lib.hid (HLZ.out.below hb)
  clear hb
  have HQf := Lib.hid hn
  clear hn
  go_wp2_with fail
  refine (holm_bad (N := N) _ 3 _ daP _ _ _ _ _ _ _ 1 (frq 2 1) _ hN RPS.out HQf.out (by decide) 3 da_c2 (by decide)).mono ?_
  rintro e w33 ⟨rfl,hb⟩
  have hs_w33 : w32.heap.size ≤ w33.heap.size := hb.size
  replace HQf := Lib.hid (HQf.out.below hb)
  replace HB := Lib.hid (HB.out.trans (hb.mono hs0))
  replace hN : N ≤ w33.heap.size := Nat.le_trans hN hb.size
  replace hs0 : w.heap.size ≤ w33.heap.size := Nat.le_trans hs0 hb.size
  replace HT := Lib.hid (HT.out.below hb)
  replace RPS := Lib.hid (RPS.out.below hb)
  replace HLZ := Lib.hid (HLZ.out.below hb)
  clear hb
  clear HQf
  clear RPS
  go_wp2_with fail
  refine calls_name fun W34 hW => ?_
  have hs_W34 : w33.heap.size ≤ W34.heap.size := by rw [← hW];(first | omega | (simp;done) | (simp;omega))
  have HS := Lib.hid (show Lz W34 (some ⟨w33.heap.size,0,none⟩) 1 [1] by rw [← hW];exact Lz.one _ _ rfl 1)
  have HL_W34 := Lib.hid (show Below w33.heap.size w33 W34 by rw [← hW];exact BlA)
  replace HB := Lib.hid (show Below w.heap.size w W34 by rw [← hW];exact BlA)
  replace hN : N ≤ W34.heap.size := by rw [← hW];(first | omega | (simp;done) | (simp;omega))
  replace hs0 : w.heap.size ≤ W34.heap.size := by rw [← hW];(first | omega | (simp;done) | (simp;omega))
  replace HT := Lib.hid (HT.out.below HL_W34.out)
  replace HLZ := Lib.hid (HLZ.out.below HL_W34.out)
  clear HL_W34
  clear hW
  refine (SameInts_len _ _ 1 _ _ [1] rfl _ HLZ.out HS.out).mono ?_
  rintro e w35 ⟨rfl,hb⟩
  have hs_w35 : W34.heap.size ≤ w35.heap.size := hb.size
  replace HB := Lib.hid (HB.out.trans (hb.mono hs0))
  replace hN : N ≤ w35.heap.size := Nat.le_trans hN hb.size
  replace hs0 : w.heap.size ≤ w35.heap.size := Nat.le_trans hs0 hb.size
  replace HT := Lib.hid (HT.out.below hb)
  replace HLZ := Lib.hid (HLZ.out.below hb)
  clear hb
  clear HS
  clear HLZ
  go_wp2_with fail
  refine calls_name fun W36 hW => ?_
  have hs_W36 : w35.heap.size ≤ W36.heap.size := by rw [← hW];(first | omega | (simp;done) | (simp;omega))
  have HL_W36 := Lib.hid (show Below w35.heap.size w35 W36 by rw [← hW];exact BlA)
  replace HB := Lib.hid (show Below w.heap.size w W36 by rw [← hW];exact BlA)
  replace hN : N ≤ W36.heap.size := by rw [← hW];(first | omega | (simp;done) | (simp;omega))
  replace hs0 : w.heap.size ≤ W36.heap.size := by rw [← hW];(first | omega | (simp;done) | (simp;omega))
  replace HT := Lib.hid (HT.out.below HL_W36.out)
  clear HL_W36
  clear hW
  refine (dvalid_any 30 0 0 0 _ true da_v2).mono ?_
  rintro e w37 ⟨rfl,hb⟩
  have hs_w37 : W36.heap.size ≤ w37.heap.size := hb.size
  replace HB := Lib.hid (HB.out.trans (hb.mono hs0))
  replace hN : N ≤ w37.heap.size := Nat.le_trans hN hb.size
  replace hs0 : w.heap.size ≤ w37.heap.size := Nat.le_trans hs0 hb.size
  replace HT := Lib.hid (HT.out.below hb)
  clear hb
  go_wp2_with fail
  refine calls_name fun W38 hW => ?_
  have hs_W38 : w37.heap.size ≤ W38.heap.size := by rw [← hW];(first | omega | (simp;done) | (simp;omega))
  have HL_W38 := Lib.hid (show Below w37.heap.size w37 W38 by rw [← hW];exact BlA)
  replace HB := Lib.hid (show Below w.heap.size w W38 by rw [← hW];exact BlA)
  replace hN : N ≤ W38.heap.size := by rw [← hW];(first | omega | (simp;done) | (simp;omega))
  replace hs0 : w.heap.size ≤ W38.heap.size := by rw [← hW];(first | omega | (simp;done) | (simp;omega))
  replace HT := Lib.hid (HT.out.below HL_W38.out)
  clear HL_W38
  clear hW
  refine (dvalid_any 0 0 0 (-1) _ false da_v3).mono ?_
  rintro e w39 ⟨rfl,hb⟩
  have hs_w39 : W38.heap.size ≤ w39.heap.size := hb.size
  replace HB := Lib.hid (HB.out.trans (hb.mono hs0))
  replace hN : N ≤ w39.heap.size := Nat.le_trans hN hb.size
  replace hs0 : w.heap.size ≤ w39.heap.size := Nat.le_trans hs0 hb.size
  replace HT := Lib.hid (HT.out.below hb)
  clear hb
  go_wp2_with fail
  go_ret
  exact ⟨rfl,HB.out⟩
end Go.Proofs.YtnillajhhimeiaaGreatDoor
