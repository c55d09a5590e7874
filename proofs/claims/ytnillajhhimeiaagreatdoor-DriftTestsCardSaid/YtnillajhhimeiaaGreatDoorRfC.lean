import Derived.Test.YtnillajhhimeiaaGreatDoorRfS
namespace Go.Proofs.YtnillajhhimeiaaGreatDoor
open Go.RowKit
theorem prd_len (l : Nat) : ∀ j,l + j ≤ 4294967296 → nlen (prd l j) ≤ j + 1
  | 0,_ => show nlen 1 ≤ 1 from nlen_small (by decide)
  | j + 1,h => by
    have h1 := prd_len l j (by omega)
    have h2 := nlen_mul (prd l j) (l + j)
    have h3 := nlen_small (show l + j < 4294967296 by omega)
    show nlen (prd l j * (l + j)) ≤ _
    omega
theorem cell_three (w : World) (x y z : Value) (t : TypeId) : ∀ j u,[x,y,z][j]? = some u → (w.alloc (.cells #[x,y,z] t)).cell? ((⟨w.heap.size,0,none⟩ : Addr).add j) = some u := by
  intro j u hj
  match j,hj with
  | 0,hj => simp at hj;subst hj;simp [Addr.add]
  | 1,hj => simp at hj;subst hj;simp [Addr.add]
  | 2,hj => simp at hj;subst hj;simp [Addr.add]
theorem Er.keep {N : Nat} {w w' : World} {q : Nat → Rat} {L i : Nat} {v0 v1 v2 : Value} (h : Er N w q L i v0 v1 v2) (hb : Kp N w w') : Er N w' q L i v0 v1 v2 := by
  obtain ⟨s,a,na,ca,d,nd,cd,e0,e1,e2,h⟩ := h
  exact ⟨s,a,na,ca,d,nd,cd,e0,e1,e2,h.keep hb⟩
theorem own_kp {N B : Nat} {w w1 : World} {x : Value} {n : Nat} {xs : List Value} (hx : w.ownsRow B 29 3 x n xs) (hN : N ≤ B) (hg : w.grownBy w1 x.ownBlock) : Kp N w w1 := by
  refine ⟨hg.size,fun b hb ho => hg.block b hb fun e => ?_⟩
  have h1 := hx.lt b e.symm
  rcases hx.2 with ⟨rfl,_⟩ | ⟨g,cap,cur,rfl,hbg,hgg,_⟩
  · simp [Value.ownBlock] at e
  · simp [Value.ownBlock] at e
    subst e
    rcases ho with ho | ⟨c,z,ho⟩
    · omega
    · rw [hgg] at ho;simp at ho
def Ol (N B : Nat) (w : World) (v : Value) (j : Nat) (q : Nat → Rat) : Prop := ∃ xs,w.ownsRow B 29 3 v j xs ∧ Cl j (En N w q) xs
theorem Ol.below {N B : Nat} {w w' : World} {v : Value} {j : Nat} {q : Nat → Rat} (h : Ol N B w v j q) (hb : Below w.heap.size w w') : Ol N B w' v j q := by
  obtain ⟨xs,ho,hc⟩ := h
  refine ⟨xs,⟨ho.1,?_⟩,hc.imp fun i v0 v1 v2 _ e => e.below hb⟩
  rcases ho.2 with e | ⟨g,cap,cur,rfl,hbg,hgg,rest⟩
  · exact Or.inl e
  · exact Or.inr ⟨g,cap,cur,rfl,hbg,(hb.block g (Array.getElem?_eq_some_iff.1 hgg).1).trans hgg,rest⟩
theorem Ol.start (N B : Nat) (w : World) (q : Nat → Rat) (hB : B ≤ w.heap.size) : Ol N B (w.alloc (.cells #[] 29)) (.slice (some ⟨w.heap.size,0,none⟩) 0 0) 0 q := ⟨[],World.ownsRow_made w #[] 0 hB (by decide) rfl,Cl.nil _⟩
theorem xone_any {N : Nat} (w : World) (hN : N ≤ w.heap.size) :
    Calls Tryz.prog 116 #[] w fun e w' => ∃ r cr,e = .returned (.slice r (nlen 1) cr) ∧ Nt N w' r (nlen 1) cr 1 ∧ Below w.heap.size w w' := by
  have HB := Lib.hid (Below.refl w.heap.size w)
  go_enter Tryz.func116,Tryz.ntmps116
  go_wp2_with fail
  refine calls_name fun W0 hW => ?_
  have hs_W0 : w.heap.size ≤ W0.heap.size := by rw [← hW];(first | omega | (simp;done) | (simp;omega))
  replace HB := Lib.hid (show Below w.heap.size w W0 by rw [← hW];exact BlA)
  replace hN : N ≤ W0.heap.size := by rw [← hW];(first | omega | (simp;done) | (simp;omega))
  have hs0 : w.heap.size ≤ W0.heap.size := by rw [← hW];(first | omega | (simp;done) | (simp;omega))
  clear hW
  refine (xof_any (N := N) 1 _ (by omega)).mono ?_
  rintro e wa ⟨rx,cx,rfl,hn,hb⟩
  have hs_wa : W0.heap.size ≤ wa.heap.size := hb.size
  replace HB := Lib.hid (HB.out.trans (hb.mono hs0))
  replace hN : N ≤ wa.heap.size := Nat.le_trans hN hb.size
  replace hs0 : w.heap.size ≤ wa.heap.size := Nat.le_trans hs0 hb.size
  clear hb
  have HX := Lib.hid hn
  clear hn
  go_wp2_with fail
  go_ret
  exact ⟨_,_,rfl,HX.out,HB.out⟩
set_option maxHeartbeats 2000000 in
theorem xproduct6_any {N : Nat} (lo hi : Int) (l m : Nat) (e1 : lo = (l : Int)) (e2 : hi + 1 = ((l + m : Nat) : Int)) (hm : l + m ≤ 1000) (w : World) (hN : N ≤ w.heap.size) :
    Calls Tryz.prog 86 #[.int .i64 lo,.int .i64 hi] w fun e w' => ∃ r cr,e = .returned (.slice r (nlen (prd l m)) cr) ∧ Nt N w' r (nlen (prd l m)) cr (prd l m) ∧ Below w.heap.size w w' := by
  subst e1
  have hN0 := hN
  have HB := Lib.hid (Below.refl w.heap.size w)
  go_enter Tryz.func86,Tryz.ntmps86
  go_wp2_with fail
  refine calls_name fun W0 hW => ?_
  have hs_W0 : w.heap.size ≤ W0.heap.size := by rw [← hW];(first | omega | (simp;done) | (simp;omega))
  replace HB := Lib.hid (show Below w.heap.size w W0 by rw [← hW];exact BlA)
  replace hN : N ≤ W0.heap.size := by rw [← hW];(first | omega | (simp;done) | (simp;omega))
  have hs0 : w.heap.size ≤ W0.heap.size := by rw [← hW];(first | omega | (simp;done) | (simp;omega))
  clear hW
  refine (xone_any (N := N) _ hN).mono ?_
  rintro e wa ⟨rx,cx,rfl,hn,hb⟩
  have hs_wa : W0.heap.size ≤ wa.heap.size := hb.size
  replace HB := Lib.hid (HB.out.trans (hb.mono hs0))
  replace hN : N ≤ wa.heap.size := Nat.le_trans hN hb.size
  replace hs0 : w.heap.size ≤ wa.heap.size := Nat.le_trans hs0 hb.size
  clear hb
  have HX := Lib.hid hn
  clear hn
  go_wp2_with fail
  go_loopw [5,6] (fun p i wr => ∃ j r c,j ≤ m ∧ i = .int .i64 ((l + j : Nat) : Int) ∧ p = .slice r (nlen (prd l j)) c ∧ Nt N wr r (nlen (prd l j)) c (prd l j) ∧ Below w.heap.size w wr ∧ w.heap.size ≤ wr.heap.size) (fun _ i _ => l + m - (intOf i).toNat)
  case atStart => exact ⟨0,rx,cx,Nat.zero_le _,rfl,rfl,HX.out,HB.out,hs0⟩
  case round =>
    obtain ⟨j,r,c,hj,rfl,rfl,hp,hbel,hsz⟩ := hrel
    clear HX HB hs0 hN
    have HP := Lib.hid hp
    have HB := Lib.hid hbel
    have hs0 := hsz
    have hN : N ≤ wr.heap.size := by omega
    have lp := prd_len l j (by omega)
    clear hp hbel
    by_cases hjm : j < m
    · have d1 : decide (((l + j : Nat) : Int) ≤ hi) = true := by simp;omega
      go_wp2_with fail
      refine calls_name fun W1 hW => ?_
      have hs_W1 : wr.heap.size ≤ W1.heap.size := by rw [← hW];(first | omega | (simp;done) | (simp;omega))
      have HK_W1 := Lib.hid (show Kp N wr W1 by rw [← hW];exact KpA)
      replace HP := Lib.hid (HP.out.keep HK_W1.out)
      replace HB := Lib.hid (show Below w.heap.size w W1 by rw [← hW];exact BlA)
      replace hN : N ≤ W1.heap.size := by rw [← hW];(first | omega | (simp;done) | (simp;omega))
      replace hs0 : w.heap.size ≤ W1.heap.size := by rw [← hW];(first | omega | (simp;done) | (simp;omega))
      clear hW HK_W1
      refine (xof_any (N := N) (l + j) _ (by omega)).mono ?_
      rintro e wb ⟨ro,co,rfl,hn,hb⟩
      have hs_wb : W1.heap.size ≤ wb.heap.size := hb.size
      replace HP := Lib.hid (HP.out.below hb)
      replace HB := Lib.hid (HB.out.trans (hb.mono hs0))
      replace hN : N ≤ wb.heap.size := Nat.le_trans hN hb.size
      replace hs0 : w.heap.size ≤ wb.heap.size := Nat.le_trans hs0 hb.size
      clear hb
      have HO := Lib.hid hn
      clear hn
      go_wp2_with fail
      refine calls_name fun W2 hW => ?_
      have hs_W2 : wb.heap.size ≤ W2.heap.size := by rw [← hW];(first | omega | (simp;done) | (simp;omega))
      have HK_W2 := Lib.hid (show Kp N wb W2 by rw [← hW];exact KpA)
      replace HP := Lib.hid (HP.out.keep HK_W2.out)
      replace HO := Lib.hid (HO.out.keep HK_W2.out)
      replace HB := Lib.hid (show Below w.heap.size w W2 by rw [← hW];exact BlA)
      replace hN : N ≤ W2.heap.size := by rw [← hW];(first | omega | (simp;done) | (simp;omega))
      replace hs0 : w.heap.size ≤ W2.heap.size := by rw [← hW];(first | omega | (simp;done) | (simp;omega))
      clear hW HK_W2
      have lo := nlen_small (show l + j < 4294967296 by omega)
      refine (xmul_any (N := N) _ _ _ _ (prd l j) _ _ (l + j) _ hN HP.out HO.out (by omega) (by omega)).mono ?_
      rintro e wc ⟨rm,cm,rfl,hn,hb⟩
      have hs_wc : W2.heap.size ≤ wc.heap.size := hb.size
      replace HP := Lib.hid (HP.out.below hb)
      replace HO := Lib.hid (HO.out.below hb)
      replace HB := Lib.hid (HB.out.trans (hb.mono hs0))
      replace hN : N ≤ wc.heap.size := Nat.le_trans hN hb.size
      replace hs0 : w.heap.size ≤ wc.heap.size := Nat.le_trans hs0 hb.size
      clear hb
      have HM := Lib.hid hn
      clear hn
      go_wp2_with fail
      go_roundw
      case rel => exact ⟨j + 1,_,_,by omega,by go_num,rfl,HM.out,HB.out,hs0⟩
      case measure => simp [intOf];omega
    · obtain rfl : j = m := by omega
      have d1 : decide (((l + j : Nat) : Int) ≤ hi) = false := by simp;omega
      go_wp2_with fail
      go_ret
      exact ⟨_,_,rfl,HP.out,HB.out⟩
set_option maxHeartbeats 2000000 in
theorem xChoose_any {N : Nat} (ni ki : Int) (n k : Nat) (e1 : ni = n) (e2 : ki = k) (w : World) (hN : N ≤ w.heap.size) (hn : n ≤ 200) :
    Calls Tryz.prog 50 #[.int .i64 ni,.int .i64 ki] w fun e w' => ∃ r cr,e = .returned (.tuple #[.slice r (nlen (chs n k)) cr,.bool true]) ∧ Nt N w' r (nlen (chs n k)) cr (chs n k) ∧ Below w.heap.size w w' := by
  by_cases hk : k ≤ n
  · have d4 : decide (ni < ki) = false := by simp;omega
    have d1 : decide (ni < 0) = false := by simp;omega
    have d2 : decide (200 < ni) = false := by simp;omega
    have d3 : decide (ki < 0) = false := by simp;omega
    have HE := Lib.hid (chs_quot n k hk)
    have hp0 := prd_pos 1 (by omega) k
    have ll1 := prd_len (n - k + 1) k (by omega)
    have ll2 := prd_len 1 k (by omega)
    have hw : IntKind.i64.wrap (IntKind.i64.wrap (ni - ki) + 1) = ni - ki + 1 := by rw [IntKind.wrap_i64,IntKind.wrap_i64];omega
    have hw2 : IntKind.i64.wrap (ni - ki) = ni - ki := by rw [IntKind.wrap_i64];omega
    have hw3 : IntKind.i64.wrap (ni - ki + 1) = ni - ki + 1 := by rw [IntKind.wrap_i64];omega
    have HB := Lib.hid (Below.refl w.heap.size w)
    go_enter Tryz.func50,Tryz.ntmps50
    go_wp2_with fail
    refine calls_name fun W0 hW => ?_
    have hs_W0 : w.heap.size ≤ W0.heap.size := by rw [← hW];(first | omega | (simp;done) | (simp;omega))
    replace HB := Lib.hid (show Below w.heap.size w W0 by rw [← hW];exact BlA)
    replace hN : N ≤ W0.heap.size := by rw [← hW];(first | omega | (simp;done) | (simp;omega))
    have hs0 : w.heap.size ≤ W0.heap.size := by rw [← hW];(first | omega | (simp;done) | (simp;omega))
    clear hW
    refine (xproduct6_any (N := N) _ _ (n - k + 1) k (by omega) (by omega) (by omega) _ hN).mono ?_
    rintro e wa ⟨ra,ca,rfl,hn,hb⟩
    have hs_wa : W0.heap.size ≤ wa.heap.size := hb.size
    replace HB := Lib.hid (HB.out.trans (hb.mono hs0))
    replace hN : N ≤ wa.heap.size := Nat.le_trans hN hb.size
    replace hs0 : w.heap.size ≤ wa.heap.size := Nat.le_trans hs0 hb.size
    clear hb
    have HX := Lib.hid hn
    clear hn
    go_wp2_with fail
    refine calls_name fun W1 hW => ?_
    have hs_W1 : wa.heap.size ≤ W1.heap.size := by rw [← hW];(first | omega | (simp;done) | (simp;omega))
    have HK_W1 := Lib.hid (show Kp N wa W1 by rw [← hW];exact KpA)
    replace HX := Lib.hid (HX.out.keep HK_W1.out)
    replace HB := Lib.hid (show Below w.heap.size w W1 by rw [← hW];exact BlA)
    replace hN : N ≤ W1.heap.size := by rw [← hW];(first | omega | (simp;done) | (simp;omega))
    replace hs0 : w.heap.size ≤ W1.heap.size := by rw [← hW];(first | omega | (simp;done) | (simp;omega))
    clear hW HK_W1
    refine (xproduct6_any (N := N) _ _ 1 k (by omega) (by omega) (by omega) _ hN).mono ?_
    rintro e wb ⟨rb,cb,rfl,hn,hb⟩
    have hs_wb : W1.heap.size ≤ wb.heap.size := hb.size
    replace HX := Lib.hid (HX.out.below hb)
    replace HB := Lib.hid (HB.out.trans (hb.mono hs0))
    replace hN : N ≤ wb.heap.size := Nat.le_trans hN hb.size
    replace hs0 : w.heap.size ≤ wb.heap.size := Nat.le_trans hs0 hb.size
    clear hb
    have HY := Lib.hid hn
    clear hn
    go_wp2_with fail
    refine calls_name fun W2 hW => ?_
    have hs_W2 : wb.heap.size ≤ W2.heap.size := by rw [← hW];(first | omega | (simp;done) | (simp;omega))
    have HK_W2 := Lib.hid (show Kp N wb W2 by rw [← hW];exact KpA)
    replace HX := Lib.hid (HX.out.keep HK_W2.out)
    replace HY := Lib.hid (HY.out.keep HK_W2.out)
    replace HB := Lib.hid (show Below w.heap.size w W2 by rw [← hW];exact BlA)
    replace hN : N ≤ W2.heap.size := by rw [← hW];(first | omega | (simp;done) | (simp;omega))
    replace hs0 : w.heap.size ≤ W2.heap.size := by rw [← hW];(first | omega | (simp;done) | (simp;omega))
    clear hW HK_W2
    refine (xdivMod_any (N := N) _ _ _ _ (prd (n - k + 1) k) _ _ (prd 1 k) _ hN HX.out HY.out (by omega) (by omega) hp0).mono ?_
    rw [HE.out]
    rintro e wc ⟨rq,cq,rr,cr,rfl,hn,hn',hb⟩
    have hs_wc : W2.heap.size ≤ wc.heap.size := hb.size
    replace HX := Lib.hid (HX.out.below hb)
    replace HY := Lib.hid (HY.out.below hb)
    replace HB := Lib.hid (HB.out.trans (hb.mono hs0))
    replace hN : N ≤ wc.heap.size := Nat.le_trans hN hb.size
    replace hs0 : w.heap.size ≤ wc.heap.size := Nat.le_trans hs0 hb.size
    clear hb
    have HQ := Lib.hid hn
    clear hn
    go_wp2_with fail
    go_ret2
    exact ⟨_,_,rfl,HQ.out,HB.out⟩
  · have _ := hN
    have d4 : decide (ni < ki) = true := by simp;omega
    have d1 : decide (ni < 0) = false := by simp;omega
    have d2 : decide (200 < ni) = false := by simp;omega
    have d3 : decide (ki < 0) = false := by simp;omega
    have HE := Lib.hid (chs_high (show n < k by omega))
    go_enter Tryz.func50,Tryz.ntmps50
    go_wp2_with fail
    go_ret2
    rw [HE.out,nlen_zero]
    exact ⟨_,_,rfl,Nt.zero _ _,Below.refl _ _⟩
set_option maxHeartbeats 2000000 in
theorem xfraction_any {N : Nat} (a b : Option Addr) (na ca m nb cb d : Nat) (w : World) (hN : N ≤ w.heap.size) (h : Nt N w a na ca m) (h' : Nt N w b nb cb d) (hl : na ≤ 137438953472) (hl' : nb ≤ 137438953472) (p : Rat) (hp : frq m d = p) :
    Calls Tryz.prog 51 #[.slice a na ca,.slice b nb cb] w (RatPost N w p) := by
  have hN0 := hN
  have HA := Lib.hid h
  have HD := Lib.hid h'
  have HP := Lib.hid (show mkRat (zI (false != false) m) d = p from hp)
  clear h h' hp
  have HB := Lib.hid (Below.refl w.heap.size w)
  go_enter Tryz.func51,Tryz.ntmps51
  go_wp2_with fail
  refine calls_name fun W0 hW => ?_
  have hs_W0 : w.heap.size ≤ W0.heap.size := by rw [← hW];(first | omega | (simp;done) | (simp;omega))
  have HK_W0 := Lib.hid (show Kp N w W0 by rw [← hW];exact KpA)
  have k_R_0 : W0.cell? ⟨w.heap.size,0,none⟩ = some (.bool false) := by rw [← hW];(first | (go_simp;done) | (simp;done) | (simp [go_sem];done) | (simp [go_sem];done))
  have k_R_1 : W0.cell? ⟨w.heap.size,1,none⟩ = some (.slice none 0 0) := by rw [← hW];(first | (go_simp;done) | (simp;done) | (simp [go_sem];done) | (simp [go_sem];done))
  have k_R_2 : W0.cell? ⟨w.heap.size,2,none⟩ = some (.slice none 0 0) := by rw [← hW];(first | (go_simp;done) | (simp;done) | (simp [go_sem];done) | (simp [go_sem];done))
  have f_R : ∀ o,W0.frozen? ⟨w.heap.size,o,none⟩ = false := by intro o;rw [← hW];(first | (go_simp;done) | (simp;done) | (simp [go_sem];done) | (simp [go_sem];done))
  have HX_R := Lib.hid (show Bn W0 (w.heap.size) by rw [← hW];exact KpA)
  replace HA := Lib.hid (HA.out.keep HK_W0.out)
  replace HD := Lib.hid (HD.out.keep HK_W0.out)
  replace HB := Lib.hid (show Below w.heap.size w W0 by rw [← hW];exact BlA)
  replace hN : N ≤ W0.heap.size := by rw [← hW];(first | omega | (simp;done) | (simp;omega))
  have hs0 : w.heap.size ≤ W0.heap.size := by rw [← hW];(first | omega | (simp;done) | (simp;omega))
  have hl_R : w.heap.size < W0.heap.size := by rw [← hW];(first | omega | (simp;done) | (simp;omega))
  clear hW HK_W0
  refine (xrmake_any (N := N) false false _ _ _ _ m _ _ d _ hN HA.out HD.out (by omega) (by omega) p HP.out).mono ?_
  rintro e wa ⟨rx,cx,rx2,cx2,rfl,hn,hn',hb⟩
  have hs_wa : W0.heap.size ≤ wa.heap.size := hb.size
  replace k_R_0 : wa.cell? ⟨w.heap.size,0,none⟩ = some (.bool false) := (hb.cell (p := ⟨w.heap.size,0,none⟩) hl_R).trans k_R_0
  replace k_R_1 : wa.cell? ⟨w.heap.size,1,none⟩ = some (.slice none 0 0) := (hb.cell (p := ⟨w.heap.size,1,none⟩) hl_R).trans k_R_1
  replace k_R_2 : wa.cell? ⟨w.heap.size,2,none⟩ = some (.slice none 0 0) := (hb.cell (p := ⟨w.heap.size,2,none⟩) hl_R).trans k_R_2
  replace f_R : ∀ o,wa.frozen? ⟨w.heap.size,o,none⟩ = false := fun o => (hb.frozen (p := ⟨w.heap.size,o,none⟩) hl_R).trans (f_R o)
  replace HX_R := Lib.hid (HX_R.out.below hb)
  replace HA := Lib.hid (HA.out.below hb)
  replace HD := Lib.hid (HD.out.below hb)
  replace HB := Lib.hid (HB.out.trans (hb.mono hs0))
  replace hN : N ≤ wa.heap.size := Nat.le_trans hN hb.size
  replace hs0 : w.heap.size ≤ wa.heap.size := Nat.le_trans hs0 hb.size
  replace hl_R : w.heap.size < wa.heap.size := Nat.lt_of_lt_of_le hl_R hb.size
  clear hb
  have HX1 := Lib.hid hn
  clear hn
  have HX2 := Lib.hid hn'
  clear hn'
  go_wp2_with fail
  refine bodyPost_ret (v := .agg #[.bool (decide ((p).num < 0)),.slice rx (nlen (p).num.natAbs) cx,.slice rx2 (nlen (p).den) cx2]) (by simp [results,Tryz.results51,go_sem,k_R_0,k_R_1,k_R_2,hl_R]) rfl ⟨_,_,_,_,rfl,HX1.out.keep ?_,HX2.out.keep ?_,?_⟩
  all_goals exact KBA
set_option maxHeartbeats 4000000 in
theorem xhyper_ok {N : Nat} (t m d n : Nat) (w : World) (hN : N ≤ w.heap.size) (ht : t ≤ 120) (hm : m ≤ t) (hd : d ≤ t) (hn : min m d + 1 = n) (q : Nat → Rat) (hq : ∀ i, i < n → frq (hyp t m d i) (chs t d) = q i) :
    Calls Tryz.prog 24 #[.int .i64 t,.int .i64 m,.int .i64 d] w (RnPost N w n q) := by
  have d0 : decide ((t : Int) < 0) = false := by simp
  have d1 : decide (121 ≤ (t : Int)) = false := by simp;omega
  have d2 : decide ((m : Int) < 0) = false := by simp
  have d3 : decide ((t : Int) < (m : Int)) = false := by simp;omega
  have d3' : decide (t < m) = false := by simp;omega
  have d4 : decide ((d : Int) < 0) = false := by simp
  have d5 : decide ((t : Int) < (d : Int)) = false := by simp;omega
  have d5' : decide (t < d) = false := by simp;omega
  obtain ⟨M,hM⟩ : ∃ M,min m d = M := ⟨_,rfl⟩
  have hmin : min (m : Int) (d : Int) = (M : Int) := by omega
  have HQ := Lib.hid hq
  have hc1 := chs_len t d (by omega)
  obtain rfl : n = M + 1 := by omega
  clear hq hn
  have hN0 := hN
  have HB := Lib.hid (Below.refl w.heap.size w)
  obtain ⟨i0,hi,hz0,hz1,hz2⟩ := info_parts Tryz.infoRat
  go_enter Tryz.func24,Tryz.ntmps24
  go_wp2_with fail
  refine calls_name fun W0 hW => ?_
  have hs_W0 : w.heap.size ≤ W0.heap.size := by rw [← hW];(first | omega | (simp;done) | (simp;omega))
  replace HB := Lib.hid (show Below w.heap.size w W0 by rw [← hW];exact BlA)
  replace hN : N ≤ W0.heap.size := by rw [← hW];(first | omega | (simp;done) | (simp;omega))
  have hs0 : w.heap.size ≤ W0.heap.size := by rw [← hW];(first | omega | (simp;done) | (simp;omega))
  clear hW
  refine (xChoose_any (N := N) _ _ t d rfl rfl _ hN (by omega)).mono ?_
  rintro e wa ⟨rc,cc,rfl,hn,hb⟩
  have hs_wa : W0.heap.size ≤ wa.heap.size := hb.size
  replace HB := Lib.hid (HB.out.trans (hb.mono hs0))
  replace hN : N ≤ wa.heap.size := Nat.le_trans hN hb.size
  replace hs0 : w.heap.size ≤ wa.heap.size := Nat.le_trans hs0 hb.size
  clear hb
  have HD := Lib.hid hn
  clear hn
  go_wp2_with fail
  go_loopw [10,11] (fun out i wr => ∃ j,j ≤ M + 1 ∧ i = .int .i64 ((j : Nat) : Int) ∧ Ol N w.heap.size wr out j q ∧ Nt N wr rc (nlen (chs t d)) cc (chs t d) ∧ Below w.heap.size w wr ∧ w.heap.size ≤ wr.heap.size) (fun _ i _ => M + 1 - (intOf i).toNat)
  case atStart => exact ⟨0,Nat.zero_le _,rfl,Ol.start _ _ _ _ hs0,HD.out.alloc _,HB.out.alloc hs0 _,by simp;omega⟩
  case round =>
    obtain ⟨j,hj,rfl,hol,hd',hbel,hsz⟩ := hrel
    clear HD HB hs0 hN
    have HD := Lib.hid hd'
    have HB := Lib.hid hbel
    have hs0 := hsz
    have hN : N ≤ wr.heap.size := by omega
    have HOL := Lib.hid hol
    clear hd' hbel hol
    by_cases hjm : j ≤ M
    · have d6 : decide ((j : Int) ≤ (M : Int)) = true := by simp;omega
      have d6' : decide (j ≤ M) = true := by simp;omega
      have hw1 : IntKind.i64.wrap ((t : Int) - (m : Int)) = ((t - m : Nat) : Int) := by rw [IntKind.wrap_i64];omega
      have hw2 : IntKind.i64.wrap ((d : Int) - (j : Int)) = ((d - j : Nat) : Int) := by rw [IntKind.wrap_i64];omega
      have la := chs_len m j (by omega)
      have lb := chs_len (t - m) (d - j) (by omega)
      have HQJ := Lib.hid (HQ.out j (by omega))
      have lab := nlen_mul (chs m j) (chs (t - m) (d - j))
      go_wp2_with fail
      refine calls_name fun W1 hW => ?_
      have hs_W1 : wr.heap.size ≤ W1.heap.size := by rw [← hW];(first | omega | (simp;done) | (simp;omega))
      have HK_W1 := Lib.hid (show Kp N wr W1 by rw [← hW];exact KpA)
      have HL_W1 := Lib.hid (show Below wr.heap.size wr W1 by rw [← hW];exact BlA)
      replace HD := Lib.hid (HD.out.keep HK_W1.out)
      replace HB := Lib.hid (show Below w.heap.size w W1 by rw [← hW];exact BlA)
      replace hN : N ≤ W1.heap.size := by rw [← hW];(first | omega | (simp;done) | (simp;omega))
      replace hs0 : w.heap.size ≤ W1.heap.size := by rw [← hW];(first | omega | (simp;done) | (simp;omega))
      replace HOL := Lib.hid (HOL.out.below HL_W1.out)
      clear HL_W1
      clear hW HK_W1
      refine (xChoose_any (N := N) _ _ m j rfl rfl _ hN (by omega)).mono ?_
      rintro e wb ⟨rx,cx,rfl,hn,hb⟩
      have hs_wb : W1.heap.size ≤ wb.heap.size := hb.size
      replace HD := Lib.hid (HD.out.below hb)
      replace HB := Lib.hid (HB.out.trans (hb.mono hs0))
      replace hN : N ≤ wb.heap.size := Nat.le_trans hN hb.size
      replace hs0 : w.heap.size ≤ wb.heap.size := Nat.le_trans hs0 hb.size
      replace HOL := Lib.hid (HOL.out.below hb)
      clear hb
      have HX := Lib.hid hn
      clear hn
      go_wp2_with fail
      refine calls_name fun W2 hW => ?_
      have hs_W2 : wb.heap.size ≤ W2.heap.size := by rw [← hW];(first | omega | (simp;done) | (simp;omega))
      have HK_W2 := Lib.hid (show Kp N wb W2 by rw [← hW];exact KpA)
      have HL_W2 := Lib.hid (show Below wb.heap.size wb W2 by rw [← hW];exact BlA)
      replace HD := Lib.hid (HD.out.keep HK_W2.out)
      replace HX := Lib.hid (HX.out.keep HK_W2.out)
      replace HB := Lib.hid (show Below w.heap.size w W2 by rw [← hW];exact BlA)
      replace hN : N ≤ W2.heap.size := by rw [← hW];(first | omega | (simp;done) | (simp;omega))
      replace hs0 : w.heap.size ≤ W2.heap.size := by rw [← hW];(first | omega | (simp;done) | (simp;omega))
      replace HOL := Lib.hid (HOL.out.below HL_W2.out)
      clear HL_W2
      clear hW HK_W2
      refine (xChoose_any (N := N) _ _ (t - m) (d - j) (by omega) (by omega) _ hN (by omega)).mono ?_
      rintro e wc ⟨ry,cy,rfl,hn,hb⟩
      have hs_wc : W2.heap.size ≤ wc.heap.size := hb.size
      replace HD := Lib.hid (HD.out.below hb)
      replace HX := Lib.hid (HX.out.below hb)
      replace HB := Lib.hid (HB.out.trans (hb.mono hs0))
      replace hN : N ≤ wc.heap.size := Nat.le_trans hN hb.size
      replace hs0 : w.heap.size ≤ wc.heap.size := Nat.le_trans hs0 hb.size
      replace HOL := Lib.hid (HOL.out.below hb)
      clear hb
      have HY := Lib.hid hn
      clear hn
      go_wp2_with fail
      refine calls_name fun W3 hW => ?_
      have hs_W3 : wc.heap.size ≤ W3.heap.size := by rw [← hW];(first | omega | (simp;done) | (simp;omega))
      have HK_W3 := Lib.hid (show Kp N wc W3 by rw [← hW];exact KpA)
      have HL_W3 := Lib.hid (show Below wc.heap.size wc W3 by rw [← hW];exact BlA)
      replace HD := Lib.hid (HD.out.keep HK_W3.out)
      replace HX := Lib.hid (HX.out.keep HK_W3.out)
      replace HY := Lib.hid (HY.out.keep HK_W3.out)
      replace HB := Lib.hid (show Below w.heap.size w W3 by rw [← hW];exact BlA)
      replace hN : N ≤ W3.heap.size := by rw [← hW];(first | omega | (simp;done) | (simp;omega))
      replace hs0 : w.heap.size ≤ W3.heap.size := by rw [← hW];(first | omega | (simp;done) | (simp;omega))
      replace HOL := Lib.hid (HOL.out.below HL_W3.out)
      clear HL_W3
      clear hW HK_W3
      refine (xmul_any (N := N) _ _ _ _ (chs m j) _ _ (chs (t - m) (d - j)) _ hN HX.out HY.out (by omega) (by omega)).mono ?_
      rintro e wd ⟨rz,cz,rfl,hn,hb⟩
      have hs_wd : W3.heap.size ≤ wd.heap.size := hb.size
      replace HD := Lib.hid (HD.out.below hb)
      replace HX := Lib.hid (HX.out.below hb)
      replace HY := Lib.hid (HY.out.below hb)
      replace HB := Lib.hid (HB.out.trans (hb.mono hs0))
      replace hN : N ≤ wd.heap.size := Nat.le_trans hN hb.size
      replace hs0 : w.heap.size ≤ wd.heap.size := Nat.le_trans hs0 hb.size
      replace HOL := Lib.hid (HOL.out.below hb)
      clear hb
      have HZ := Lib.hid hn
      clear hn
      go_wp2_with fail
      refine calls_name fun W4 hW => ?_
      have hs_W4 : wd.heap.size ≤ W4.heap.size := by rw [← hW];(first | omega | (simp;done) | (simp;omega))
      have HK_W4 := Lib.hid (show Kp N wd W4 by rw [← hW];exact KpA)
      have HL_W4 := Lib.hid (show Below wd.heap.size wd W4 by rw [← hW];exact BlA)
      replace HD := Lib.hid (HD.out.keep HK_W4.out)
      replace HX := Lib.hid (HX.out.keep HK_W4.out)
      replace HY := Lib.hid (HY.out.keep HK_W4.out)
      replace HZ := Lib.hid (HZ.out.keep HK_W4.out)
      replace HB := Lib.hid (show Below w.heap.size w W4 by rw [← hW];exact BlA)
      replace hN : N ≤ W4.heap.size := by rw [← hW];(first | omega | (simp;done) | (simp;omega))
      replace hs0 : w.heap.size ≤ W4.heap.size := by rw [← hW];(first | omega | (simp;done) | (simp;omega))
      replace HOL := Lib.hid (HOL.out.below HL_W4.out)
      clear HL_W4
      clear hW HK_W4
      refine (xfraction_any (N := N) _ _ _ _ (chs m j * chs (t - m) (d - j)) _ _ (chs t d) _ hN HZ.out HD.out (by omega) (by omega) (q j) HQJ.out).mono ?_
      rintro e we ⟨rp,cp,rp2,cp2,rfl,hn,hn',hb⟩
      have hs_we : W4.heap.size ≤ we.heap.size := hb.size
      replace HD := Lib.hid (HD.out.below hb)
      replace HX := Lib.hid (HX.out.below hb)
      replace HY := Lib.hid (HY.out.below hb)
      replace HZ := Lib.hid (HZ.out.below hb)
      replace HB := Lib.hid (HB.out.trans (hb.mono hs0))
      replace hN : N ≤ we.heap.size := Nat.le_trans hN hb.size
      replace hs0 : w.heap.size ≤ we.heap.size := Nat.le_trans hs0 hb.size
      replace HOL := Lib.hid (HOL.out.below hb)
      clear hb
      have HP1 := Lib.hid hn
      clear hn
      have HP2 := Lib.hid hn'
      clear hn'
      obtain ⟨xs,hown,hcl⟩ := HOL.out
      have HO := Lib.hid hown
      have HC := Lib.hid hcl
      clear hown hcl
      go_wp2_with (at_builtin;refine wpList_append_own_at _ rfl (.tmp 70) (.tmp 76) 38 rfl w.heap.size 29 i0 (.agg #[.bool false,.slice none 0 0,.slice none 0 0]) 3 56 Tryz.underRats hi hz0 hz1 hz2 rfl (by decide) _ j xs rfl (HO.out.alloc _) ⟨we.heap.size,0,none⟩ 1 1 [.bool (decide ((q j).num < 0)),.slice rp (nlen (q j).num.natAbs) cp,.slice rp2 (nlen (q j).den) cp2] rfl rfl (cell_three we _ _ _ _) (by intro u hu;simp at hu;rcases hu with rfl | rfl | rfl <;> rfl) (by unfold maxLen;omega) (by omega) (by simp;omega) ?_;intro v1 w1 ho1 hg1 _ _;have KP1 := Lib.hid ((Kp.refl N we).alloc (.cells #[.bool (decide ((q j).num < 0)),.slice rp (nlen (q j).num.natAbs) cp,.slice rp2 (nlen (q j).den) cp2] 29) |>.trans (own_kp (HO.out.alloc _) hN0 hg1));have HB1 := Lib.hid (own_bel (HO.out.alloc _) (HB.out.alloc hs0 _) (by simp;omega) hg1);have HO1 := Lib.hid ho1;have HC1 := Lib.hid (Cl.push (HC.out.imp fun i v0 v1 v2 _ e => e.keep KP1.out) (show En N w1 q j _ _ _ from ⟨_,_,_,_,rfl,rfl,rfl,HP1.out.keep KP1.out,HP2.out.keep KP1.out⟩));have HD1 := Lib.hid (HD.out.keep KP1.out);have hsz1 := Nat.le_trans hs0 KP1.out.1;clear ho1 hg1)
      go_roundw
      case rel => exact ⟨j + 1,by omega,by go_num,⟨_,HO1.out,HC1.out⟩,HD1.out,HB1.out,hsz1⟩
      case measure => simp [intOf];omega
    · obtain rfl : j = M + 1 := by omega
      have d6 : decide (((M + 1 : Nat) : Int) ≤ (M : Int)) = false := by simp;omega
      have d6' : decide (M + 1 ≤ M) = false := by simp
      have d6'' : decide ((M : Int) + 1 ≤ (M : Int)) = false := by simp;omega
      obtain ⟨xs,hown,hcl⟩ := HOL.out
      obtain ⟨ao,co,rfl,hrn⟩ := Cl.rn hown hcl
      clear hown hcl HOL
      have HR := Lib.hid hrn
      clear hrn
      go_wp2_with fail
      go_ret2
      exact ⟨_,_,rfl,HR.out,HB.out⟩
end Go.Proofs.YtnillajhhimeiaaGreatDoor
