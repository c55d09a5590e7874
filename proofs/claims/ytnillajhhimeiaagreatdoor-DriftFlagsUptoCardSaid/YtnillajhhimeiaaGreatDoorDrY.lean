import Derived.Test.YtnillajhhimeiaaGreatDoorDrX
import Derived.Deep.AppendLies
namespace Go.Proofs.YtnillajhhimeiaaGreatDoor
open Go.RowKit
def BsPost (w : World) (n : Nat) (f : Nat → Bool) (e : Ending) (w' : World) : Prop :=
  ∃ p cap, e = .returned (.tuple #[.slice p n cap, .int .i64 0]) ∧ Bs w' p n cap f ∧ Below w.heap.size w w'
def Ob (B : Nat) (w : World) (v : Value) (j : Nat) (f : Nat → Bool) : Prop := w.ownsRow B 4 1 v j ((List.range j).map fun i => .bool (f i))
theorem Ob.below {B : Nat} {w w' : World} {v : Value} {j : Nat} {f : Nat → Bool} (h : Ob B w v j f) (hb : Below w.heap.size w w') : Ob B w' v j f := by
  refine ⟨h.1, ?_⟩
  rcases h.2 with e | ⟨g, cap, cur, rfl, hbg, hgg, rest⟩
  · exact Or.inl e
  · exact Or.inr ⟨g, cap, cur, rfl, hbg, (hb.block g (Array.getElem?_eq_some_iff.1 hgg).1).trans hgg, rest⟩
theorem Ob.start (B : Nat) (w : World) (f : Nat → Bool) (hB : B ≤ w.heap.size) : Ob B (w.alloc (.cells #[] 4)) (.slice (some ⟨w.heap.size, 0, none⟩) 0 0) 0 f := World.ownsRow_made w #[] 0 hB (by decide) rfl
theorem Ob.push {B : Nat} {w : World} {v : Value} {j : Nat} {f : Nat → Bool} {b : Bool} (hf : f j = b) (h : w.ownsRow B 4 1 v (j + 1) (((List.range j).map fun i => .bool (f i)) ++ [.bool b])) : Ob B w v (j + 1) f := by
  unfold Ob; rw [List.range_succ, List.map_append]
  simp only [List.map_cons, List.map_nil, hf]
  exact h
theorem Ob.open {B : Nat} {w : World} {v : Value} {j : Nat} {f : Nat → Bool} (h : Ob B w v j f) : ∃ p cap, v = .slice p j cap ∧ Bs w p j cap f := by
  obtain ⟨_, ⟨rfl, h0⟩ | ⟨g, cap, cur, rfl, hg, hh, h1, h2, h3, h4⟩⟩ := h
  · subst h0; exact ⟨none, 0, rfl, Nat.le_refl _, Nat.zero_le _, fun h => by omega⟩
  · refine ⟨_, cap, rfl, h1, h2, fun hn => ⟨g, 0, rfl, fun i hi => ?_⟩⟩
    have h5 : cur.toList[i]? = some (.bool (f i)) := by
      have : (cur.toList.take (j * 1))[i]? = some (.bool (f i)) := by rw [h4]; simp [hi]
      rwa [List.getElem?_take_of_lt (by omega)] at this
    simp [World.cell?, hh]
    simpa using h5
theorem cell_oneB (w : World) (x : Value) (t : TypeId) : ∀ j u, [x][j]? = some u → (w.alloc (.cells #[x] t)).cell? ((⟨w.heap.size, 0, none⟩ : Addr).add j) = some u := by
  intro j u hj
  match j, hj with
  | 0, hj => simp at hj; subst hj; simp [Addr.add]
theorem cntP_lt_of9 {F : Nat → Bool} : ∀ (n k : Nat), k < n → F k = false → cntP n F < n
  | 0, k, h, _ => by omega
  | n + 1, k, h, e => by
    rw [cntP_succ]
    by_cases e1 : k = n
    · subst e1; have := cntP_le k F; rw [if_neg (by rw [e]; decide)]; omega
    · have := cntP_lt_of9 n k (by omega) e; split <;> omega
theorem rnk_lt9 {T : Nat → Nat → Bool} (hO : Ord T) {n v : Nat} (h : v < n) : rnk T n v < n :=
  cntP_lt_of9 n v h (by have := hO.irrefl v; simpa using this)
theorem cntP_strict {F G : Nat → Bool} : ∀ {n k : Nat}, (∀ i, i < n → F i = true → G i = true) → k < n → F k = false → G k = true → cntP n F < cntP n G
  | 0, k, _, h, _, _ => by omega
  | n + 1, k, h, hk, e1, e2 => by
    rw [cntP_succ, cntP_succ]
    by_cases e : k = n
    · subst e
      have := cntP_mono (n := k) (fun i hi => h i (by omega))
      rw [if_neg (by rw [e1]; decide), if_pos e2]; omega
    · have := cntP_strict (n := n) (fun i hi => h i (by omega)) (show k < n by omega) e1 e2
      by_cases e3 : F n = true
      · rw [if_pos e3, if_pos (h n (by omega) e3)]; omega
      · rw [if_neg e3]; split <;> omega
theorem rnk_mono9 {T : Nat → Nat → Bool} (hO : Ord T) {n x y : Nat} (hx : x < n) (h : T x y = true) : rnk T n x < rnk T n y :=
  cntP_strict (fun i _ hi => hO.trans i x y hi h) hx (by have := hO.irrefl x; simpa using this) h
theorem rnk_inj9 {T : Nat → Nat → Bool} (hO : Ord T) {n x y : Nat} (hx : x < n) (hy : y < n) (h : rnk T n x = rnk T n y) : x = y := by
  by_cases e : x = y
  · exact e
  · rcases hO.total x y e with k | k
    · have := rnk_mono9 hO hx k; omega
    · have := rnk_mono9 hO hy k; omega
theorem sorted_ex (q : Nat → Rat) (n : Nat) : ∃ d : Nat → Nat, Prm n d ∧ Srt (keyT (ltQ q)) 0 n d := by
  have hO := (ltQ_weak q).ord
  have hs := surj_of_inj n (rnk (keyT (ltQ q)) n) (fun i hi => rnk_lt9 hO hi) (fun i j hi hj e => rnk_inj9 hO hi hj e)
  have key : ∀ r, ∃ i, r < n → i < n ∧ rnk (keyT (ltQ q)) n i = r := by
    intro r
    by_cases h : r < n
    · obtain ⟨i, h1, h2⟩ := hs r h
      exact ⟨i, fun _ => ⟨h1, h2⟩⟩
    · exact ⟨0, fun h' => absurd h' h⟩
  obtain ⟨d, hd⟩ := Classical.axiomOfChoice key
  refine ⟨d, ⟨fun i hi => (hd i hi).1, fun i j hi hj e => ?_⟩, fun i j _ hij hj => ?_⟩
  · rw [← (hd i hi).2, ← (hd j hj).2, e]
  · have h1 := hd i (by omega)
    have h2 := hd j hj
    rcases hO.total (d i) (d j) (fun e => by rw [e] at h1; omega) with k | k
    · exact k
    · have := rnk_mono9 hO h2.1 k; omega
set_option maxHeartbeats 2000000 in
theorem xbonf_bad {N : Nat} (a : Option Addr) (n cap : Nat) (q : Nat → Rat) (s2 : Bool) (a2 d2 : Option Addr) (na2 ca2 nd2 cd2 L : Nat) (al : Rat) (w : World) (hN : N ≤ w.heap.size) (h : Rs N w a n cap q L) (h2 : Rt N w s2 a2 na2 ca2 d2 nd2 cd2 al L) (hL : L ≤ 2097152) (c : Int) (hc : chkC q n al = c) (h0 : c ≠ 0) :
    Calls Tryz.prog 15 #[.slice a n cap, .agg #[.bool s2, .slice a2 na2 ca2, .slice d2 nd2 cd2]] w (ErrPost w c) := by
  have HC := Lib.hid hc
  have z0 : (c == 0) = false := by simpa using h0
  clear hc
  have HA := Lib.hid h
  have HAA := Lib.hid h2
  have bc := h.1
  have bm := h.2.1
  unfold maxLen at bm
  clear h h2
  have hN0 := hN
  have HB := Lib.hid (Below.refl w.heap.size w)
  go_enter Tryz.func15, Tryz.ntmps15
  go_wp2_with fail
  refine calls_name fun W0 hW => ?_
  have hs_W0 : w.heap.size ≤ W0.heap.size := by rw [← hW]; (first | omega | (simp; done) | (simp; omega))
  have HL_W0 := Lib.hid (show Below w.heap.size w W0 by rw [← hW]; exact BlA)
  have k_A_0 : W0.cell? ⟨w.heap.size, 0, none⟩ = some (.bool s2) := by rw [← hW]; (first | (go_simp; done) | (simp; done) | (simp [go_sem]; done) | (simp [go_sem]; done))
  have k_A_1 : W0.cell? ⟨w.heap.size, 1, none⟩ = some (.slice a2 na2 ca2) := by rw [← hW]; (first | (go_simp; done) | (simp; done) | (simp [go_sem]; done) | (simp [go_sem]; done))
  have k_A_2 : W0.cell? ⟨w.heap.size, 2, none⟩ = some (.slice d2 nd2 cd2) := by rw [← hW]; (first | (go_simp; done) | (simp; done) | (simp [go_sem]; done) | (simp [go_sem]; done))
  have f_A : ∀ o, W0.frozen? ⟨w.heap.size, o, none⟩ = false := by intro o; rw [← hW]; (first | (go_simp; done) | (simp; done) | (simp [go_sem]; done) | (simp [go_sem]; done))
  have HX_A := Lib.hid (show Bn W0 (w.heap.size) by rw [← hW]; exact KpA)
  replace HB := Lib.hid (show Below w.heap.size w W0 by rw [← hW]; exact BlA)
  replace hN : N ≤ W0.heap.size := by rw [← hW]; (first | omega | (simp; done) | (simp; omega))
  have hs0 : w.heap.size ≤ W0.heap.size := by rw [← hW]; (first | omega | (simp; done) | (simp; omega))
  have hl_A : w.heap.size < W0.heap.size := by rw [← hW]; (first | omega | (simp; done) | (simp; omega))
  replace HA := Lib.hid (HA.out.below HL_W0.out)
  replace HAA := Lib.hid (HAA.out.below HL_W0.out)
  clear HL_W0
  clear hW
  refine (xcheck_any (N := N) _ n _ q _ _ _ _ _ _ _ L al _ hN HA.out HAA.out hL c HC.out).mono ?_
  rintro e wa ⟨rfl, hb⟩
  have hs_wa : W0.heap.size ≤ wa.heap.size := hb.size
  replace k_A_0 : wa.cell? ⟨w.heap.size, 0, none⟩ = some (.bool s2) := (hb.cell (p := ⟨w.heap.size, 0, none⟩) hl_A).trans k_A_0
  replace k_A_1 : wa.cell? ⟨w.heap.size, 1, none⟩ = some (.slice a2 na2 ca2) := (hb.cell (p := ⟨w.heap.size, 1, none⟩) hl_A).trans k_A_1
  replace k_A_2 : wa.cell? ⟨w.heap.size, 2, none⟩ = some (.slice d2 nd2 cd2) := (hb.cell (p := ⟨w.heap.size, 2, none⟩) hl_A).trans k_A_2
  replace f_A : ∀ o, wa.frozen? ⟨w.heap.size, o, none⟩ = false := fun o => (hb.frozen (p := ⟨w.heap.size, o, none⟩) hl_A).trans (f_A o)
  replace HX_A := Lib.hid (HX_A.out.below hb)
  replace HB := Lib.hid (HB.out.trans (hb.mono hs0))
  replace hN : N ≤ wa.heap.size := Nat.le_trans hN hb.size
  replace hs0 : w.heap.size ≤ wa.heap.size := Nat.le_trans hs0 hb.size
  replace hl_A : w.heap.size < wa.heap.size := Nat.lt_of_lt_of_le hl_A hb.size
  replace HA := Lib.hid (HA.out.below hb)
  replace HAA := Lib.hid (HAA.out.below hb)
  clear hb
  go_wp2_with fail
  go_ret2
  exact ⟨rfl, HB.out⟩
set_option maxHeartbeats 2000000 in
theorem xholm_bad {N : Nat} (a : Option Addr) (n cap : Nat) (q : Nat → Rat) (s2 : Bool) (a2 d2 : Option Addr) (na2 ca2 nd2 cd2 L : Nat) (al : Rat) (w : World) (hN : N ≤ w.heap.size) (h : Rs N w a n cap q L) (h2 : Rt N w s2 a2 na2 ca2 d2 nd2 cd2 al L) (hL : L ≤ 2097152) (c : Int) (hc : chkC q n al = c) (h0 : c ≠ 0) :
    Calls Tryz.prog 18 #[.slice a n cap, .agg #[.bool s2, .slice a2 na2 ca2, .slice d2 nd2 cd2]] w (ErrPost w c) := by
  have HC := Lib.hid hc
  have z0 : (c == 0) = false := by simpa using h0
  clear hc
  have HA := Lib.hid h
  have HAA := Lib.hid h2
  have bc := h.1
  have bm := h.2.1
  unfold maxLen at bm
  clear h h2
  have hN0 := hN
  have HB := Lib.hid (Below.refl w.heap.size w)
  go_enter Tryz.func18, Tryz.ntmps18
  go_wp2_with fail
  refine calls_name fun W0 hW => ?_
  have hs_W0 : w.heap.size ≤ W0.heap.size := by rw [← hW]; (first | omega | (simp; done) | (simp; omega))
  have HL_W0 := Lib.hid (show Below w.heap.size w W0 by rw [← hW]; exact BlA)
  have k_A_0 : W0.cell? ⟨w.heap.size, 0, none⟩ = some (.bool s2) := by rw [← hW]; (first | (go_simp; done) | (simp; done) | (simp [go_sem]; done) | (simp [go_sem]; done))
  have k_A_1 : W0.cell? ⟨w.heap.size, 1, none⟩ = some (.slice a2 na2 ca2) := by rw [← hW]; (first | (go_simp; done) | (simp; done) | (simp [go_sem]; done) | (simp [go_sem]; done))
  have k_A_2 : W0.cell? ⟨w.heap.size, 2, none⟩ = some (.slice d2 nd2 cd2) := by rw [← hW]; (first | (go_simp; done) | (simp; done) | (simp [go_sem]; done) | (simp [go_sem]; done))
  have f_A : ∀ o, W0.frozen? ⟨w.heap.size, o, none⟩ = false := by intro o; rw [← hW]; (first | (go_simp; done) | (simp; done) | (simp [go_sem]; done) | (simp [go_sem]; done))
  have HX_A := Lib.hid (show Bn W0 (w.heap.size) by rw [← hW]; exact KpA)
  replace HB := Lib.hid (show Below w.heap.size w W0 by rw [← hW]; exact BlA)
  replace hN : N ≤ W0.heap.size := by rw [← hW]; (first | omega | (simp; done) | (simp; omega))
  have hs0 : w.heap.size ≤ W0.heap.size := by rw [← hW]; (first | omega | (simp; done) | (simp; omega))
  have hl_A : w.heap.size < W0.heap.size := by rw [← hW]; (first | omega | (simp; done) | (simp; omega))
  replace HA := Lib.hid (HA.out.below HL_W0.out)
  replace HAA := Lib.hid (HAA.out.below HL_W0.out)
  clear HL_W0
  clear hW
  refine (xcheck_any (N := N) _ n _ q _ _ _ _ _ _ _ L al _ hN HA.out HAA.out hL c HC.out).mono ?_
  rintro e wa ⟨rfl, hb⟩
  have hs_wa : W0.heap.size ≤ wa.heap.size := hb.size
  replace k_A_0 : wa.cell? ⟨w.heap.size, 0, none⟩ = some (.bool s2) := (hb.cell (p := ⟨w.heap.size, 0, none⟩) hl_A).trans k_A_0
  replace k_A_1 : wa.cell? ⟨w.heap.size, 1, none⟩ = some (.slice a2 na2 ca2) := (hb.cell (p := ⟨w.heap.size, 1, none⟩) hl_A).trans k_A_1
  replace k_A_2 : wa.cell? ⟨w.heap.size, 2, none⟩ = some (.slice d2 nd2 cd2) := (hb.cell (p := ⟨w.heap.size, 2, none⟩) hl_A).trans k_A_2
  replace f_A : ∀ o, wa.frozen? ⟨w.heap.size, o, none⟩ = false := fun o => (hb.frozen (p := ⟨w.heap.size, o, none⟩) hl_A).trans (f_A o)
  replace HX_A := Lib.hid (HX_A.out.below hb)
  replace HB := Lib.hid (HB.out.trans (hb.mono hs0))
  replace hN : N ≤ wa.heap.size := Nat.le_trans hN hb.size
  replace hs0 : w.heap.size ≤ wa.heap.size := Nat.le_trans hs0 hb.size
  replace hl_A : w.heap.size < wa.heap.size := Nat.lt_of_lt_of_le hl_A hb.size
  replace HA := Lib.hid (HA.out.below hb)
  replace HAA := Lib.hid (HAA.out.below hb)
  clear hb
  go_wp2_with fail
  go_ret2
  exact ⟨rfl, HB.out⟩
set_option maxHeartbeats 8000000 in
set_option maxRecDepth 100000 in
theorem xbonf_ok {N : Nat} (a : Option Addr) (n cap : Nat) (q : Nat → Rat) (s2 : Bool) (a2 d2 : Option Addr) (na2 ca2 nd2 cd2 L : Nat) (al : Rat) (w : World) (hN : N ≤ w.heap.size) (h : Rs N w a n cap q L) (h2 : Rt N w s2 a2 na2 ca2 d2 nd2 cd2 al L) (hL : L ≤ 2097152) (hc : chkC q n al = 0) :
    Calls Tryz.prog 15 #[.slice a n cap, .agg #[.bool s2, .slice a2 na2 ca2, .slice d2 nd2 cd2]] w (BsPost w n (bonQ q n al)) := by
  have HC := Lib.hid hc
  obtain ⟨h60, _, _⟩ := chk_ok hc
  clear hc
  have HA := Lib.hid h
  have HAA := Lib.hid h2
  have bc := h.1
  have bm := h.2.1
  unfold maxLen at bm
  clear h h2
  have hN0 := hN
  have HB := Lib.hid (Below.refl w.heap.size w)
  go_enter Tryz.func15, Tryz.ntmps15
  go_wp2_with fail
  refine calls_name fun W0 hW => ?_
  have hs_W0 : w.heap.size ≤ W0.heap.size := by rw [← hW]; (first | omega | (simp; done) | (simp; omega))
  have HL_W0 := Lib.hid (show Below w.heap.size w W0 by rw [← hW]; exact BlA)
  have k_A_0 : W0.cell? ⟨w.heap.size, 0, none⟩ = some (.bool s2) := by rw [← hW]; (first | (go_simp; done) | (simp; done) | (simp [go_sem]; done) | (simp [go_sem]; done))
  have k_A_1 : W0.cell? ⟨w.heap.size, 1, none⟩ = some (.slice a2 na2 ca2) := by rw [← hW]; (first | (go_simp; done) | (simp; done) | (simp [go_sem]; done) | (simp [go_sem]; done))
  have k_A_2 : W0.cell? ⟨w.heap.size, 2, none⟩ = some (.slice d2 nd2 cd2) := by rw [← hW]; (first | (go_simp; done) | (simp; done) | (simp [go_sem]; done) | (simp [go_sem]; done))
  have f_A : ∀ o, W0.frozen? ⟨w.heap.size, o, none⟩ = false := by intro o; rw [← hW]; (first | (go_simp; done) | (simp; done) | (simp [go_sem]; done) | (simp [go_sem]; done))
  have HX_A := Lib.hid (show Bn W0 (w.heap.size) by rw [← hW]; exact KpA)
  replace HB := Lib.hid (show Below w.heap.size w W0 by rw [← hW]; exact BlA)
  replace hN : N ≤ W0.heap.size := by rw [← hW]; (first | omega | (simp; done) | (simp; omega))
  have hs0 : w.heap.size ≤ W0.heap.size := by rw [← hW]; (first | omega | (simp; done) | (simp; omega))
  have hl_A : w.heap.size < W0.heap.size := by rw [← hW]; (first | omega | (simp; done) | (simp; omega))
  replace HA := Lib.hid (HA.out.below HL_W0.out)
  replace HAA := Lib.hid (HAA.out.below HL_W0.out)
  clear HL_W0
  clear hW
  obtain ⟨i0, hi, hzz⟩ := Option.map_eq_some_iff.1 Tryz.infoBool
  simp only [Prod.mk.injEq] at hzz
  obtain ⟨hz0, hz1, hz2⟩ := hzz
  refine (xcheck_any (N := N) _ n _ q _ _ _ _ _ _ _ L al _ hN HA.out HAA.out hL 0 HC.out).mono ?_
  rintro e wa ⟨rfl, hb⟩
  have hs_wa : W0.heap.size ≤ wa.heap.size := hb.size
  replace k_A_0 : wa.cell? ⟨w.heap.size, 0, none⟩ = some (.bool s2) := (hb.cell (p := ⟨w.heap.size, 0, none⟩) hl_A).trans k_A_0
  replace k_A_1 : wa.cell? ⟨w.heap.size, 1, none⟩ = some (.slice a2 na2 ca2) := (hb.cell (p := ⟨w.heap.size, 1, none⟩) hl_A).trans k_A_1
  replace k_A_2 : wa.cell? ⟨w.heap.size, 2, none⟩ = some (.slice d2 nd2 cd2) := (hb.cell (p := ⟨w.heap.size, 2, none⟩) hl_A).trans k_A_2
  replace f_A : ∀ o, wa.frozen? ⟨w.heap.size, o, none⟩ = false := fun o => (hb.frozen (p := ⟨w.heap.size, o, none⟩) hl_A).trans (f_A o)
  replace HX_A := Lib.hid (HX_A.out.below hb)
  replace HB := Lib.hid (HB.out.trans (hb.mono hs0))
  replace hN : N ≤ wa.heap.size := Nat.le_trans hN hb.size
  replace hs0 : w.heap.size ≤ wa.heap.size := Nat.le_trans hs0 hb.size
  replace hl_A : w.heap.size < wa.heap.size := Nat.lt_of_lt_of_le hl_A hb.size
  replace HA := Lib.hid (HA.out.below hb)
  replace HAA := Lib.hid (HAA.out.below hb)
  clear hb
  go_wp2_with fail
  go_loopw [7, 8] (fun v i wr => ∃ j : Nat, j ≤ n ∧ i = .int .i64 j ∧ Ob wa.heap.size wr v j (bonQ q n al) ∧ Below wa.heap.size wa wr) (fun _ i _ => n - (intOf i).toNat)
  case atStart => exact ⟨0, Nat.zero_le _, rfl, Ob.start _ _ _ (Nat.le_refl _), bel1 _ _⟩
  case round =>
    obtain ⟨j, hj, rfl, hob, hbel⟩ := hrel
    have HOB := Lib.hid hob
    have HBJ := Lib.hid hbel
    have hsj := hbel.size
    clear hob
    by_cases hjn : j < n
    · obtain ⟨b0, off, rfl, ho⟩ := HA.out.2.2 (by omega)
      obtain ⟨sk, ra, rn, rc, da, dn, dc, gB0, gB1, gB2, hrt⟩ := ho j hjn
      have HR := Lib.hid (hrt.below hbel)
      have hlB : b0 < wa.heap.size := World.block_lt_of_cell? wa _ gB0
      have hlb : b0 < wr.heap.size := by omega
      clear ho hrt
      have g0 : wr.cell? ⟨b0, off + j * 3, none⟩ = some (.bool sk) := (hbel.cell (p := ⟨b0, off + j * 3, none⟩) hlB).trans gB0
      have g1 : wr.cell? ⟨b0, off + j * 3 + 1, none⟩ = some (.slice ra rn rc) := (hbel.cell (p := ⟨b0, off + j * 3 + 1, none⟩) hlB).trans gB1
      have g2 : wr.cell? ⟨b0, off + j * 3 + 2, none⟩ = some (.slice da dn dc) := (hbel.cell (p := ⟨b0, off + j * 3 + 2, none⟩) hlB).trans gB2
      have hlA := hl_A
      have kB_0 := k_A_0
      have kB_1 := k_A_1
      have kB_2 := k_A_2
      have hl_A' : w.heap.size < wr.heap.size := Nat.lt_of_lt_of_le hl_A hbel.size
      have k_A_0' : wr.cell? ⟨w.heap.size, 0, none⟩ = some (.bool s2) := (hbel.cell (p := ⟨w.heap.size, 0, none⟩) hl_A).trans k_A_0
      have k_A_1' : wr.cell? ⟨w.heap.size, 1, none⟩ = some (.slice a2 na2 ca2) := (hbel.cell (p := ⟨w.heap.size, 1, none⟩) hl_A).trans k_A_1
      have k_A_2' : wr.cell? ⟨w.heap.size, 2, none⟩ = some (.slice d2 nd2 cd2) := (hbel.cell (p := ⟨w.heap.size, 2, none⟩) hl_A).trans k_A_2
      have f_A' : ∀ o, wr.frozen? ⟨w.heap.size, o, none⟩ = false := fun o => (hbel.frozen (p := ⟨w.heap.size, o, none⟩) hl_A).trans (f_A o)
      have HX_A' := Lib.hid (HX_A.out.below hbel)
      clear hl_A f_A HX_A k_A_0 k_A_1 k_A_2
      have hl_A := hl_A'
      have f_A := f_A'
      have HX_A := HX_A'
      have k_A_0 := k_A_0'
      have k_A_1 := k_A_1'
      have k_A_2 := k_A_2'
      clear hl_A' f_A' HX_A' k_A_0' k_A_1' k_A_2'
      have HAA' := Lib.hid (HAA.out.below hbel)
      have hN' : N ≤ wr.heap.size := by omega
      have hs0' : w.heap.size ≤ wr.heap.size := by omega
      have HB' := Lib.hid (HB.out.trans (hbel.mono hs0))
      clear HAA hN hs0 HB hbel
      have HAA := HAA'
      have hN := hN'
      have hs0 := hs0'
      have HB := HB'
      clear HAA' hN' hs0' HB'
      obtain ⟨v', hv⟩ : ∃ v, bonQ q n al j = v := ⟨_, rfl⟩
      have HV := Lib.hid hv
      have HV2 := Lib.hid (show decide (q j * ((n : Nat) : Rat) ≤ al) = v' from hv)
      clear hv
      have hjz : (j : Int) < (n : Int) := by omega
      go_wp2_with fail
      go_region_held3 (fun w' => w'.cell? ⟨b0, off + j * 3, none⟩ = some (.bool sk) ∧ w'.cell? ⟨b0, off + j * 3 + 1, none⟩ = some (.slice ra rn rc) ∧ w'.cell? ⟨b0, off + j * 3 + 2, none⟩ = some (.slice da dn dc) ∧ w'.cell? ⟨w.heap.size, 0, none⟩ = some (.bool s2) ∧ w'.cell? ⟨w.heap.size, 1, none⟩ = some (.slice a2 na2 ca2) ∧ w'.cell? ⟨w.heap.size, 2, none⟩ = some (.slice d2 nd2 cd2))
        (first | (go_keep; done) | ((try dsimp only); (repeat' apply And.intro) <;> (first | (go_keep; done) | (exact cell_keep_alloc_drew (by first | omega | (simp; omega)) (by first | assumption | go_simp)) | (exact cell_keep_alloc (by first | omega | (simp; omega)) (by first | assumption | go_simp)) | (rw [cell_set2 _ _ _ _ _ _ _ _ (by omega)]; assumption) | (rw [cell_set3 _ _ _ _ _ _ _ _ _ _ (by omega)]; assumption))))
        (first
          | (go_at_call 37; refine (xpasses_any (N := N) _ _ _ _ _ _ _ _ _ _ _ _ _ _ L n (q j) al _ (by exact hN) (by exact HR.out) (by exact HAA.out) hL (by omega) v' HV2.out).mono ?_; rintro e wb ⟨rfl, hb⟩; replace hb : Below wr.heap.size wr wb := (by first | exact hb | exact bel_of_drew hb); have g0' : wb.cell? ⟨b0, off + j * 3, none⟩ = some (.bool sk) := (hb.cell (p := ⟨b0, off + j * 3, none⟩) hlb).trans g0; have g1' : wb.cell? ⟨b0, off + j * 3 + 1, none⟩ = some (.slice ra rn rc) := (hb.cell (p := ⟨b0, off + j * 3 + 1, none⟩) hlb).trans g1; have g2' : wb.cell? ⟨b0, off + j * 3 + 2, none⟩ = some (.slice da dn dc) := (hb.cell (p := ⟨b0, off + j * 3 + 2, none⟩) hlb).trans g2; have HBJb := Lib.hid (HBJ.out.trans (hb.mono hsj)); have hsb := HBJb.out.size; have hs_wb : wr.heap.size ≤ wb.heap.size := hb.size; replace k_A_0 : wb.cell? ⟨w.heap.size, 0, none⟩ = some (.bool s2) := (hb.cell (p := ⟨w.heap.size, 0, none⟩) hl_A).trans k_A_0; replace k_A_1 : wb.cell? ⟨w.heap.size, 1, none⟩ = some (.slice a2 na2 ca2) := (hb.cell (p := ⟨w.heap.size, 1, none⟩) hl_A).trans k_A_1; replace k_A_2 : wb.cell? ⟨w.heap.size, 2, none⟩ = some (.slice d2 nd2 cd2) := (hb.cell (p := ⟨w.heap.size, 2, none⟩) hl_A).trans k_A_2; replace f_A : ∀ o, wb.frozen? ⟨w.heap.size, o, none⟩ = false := fun o => (hb.frozen (p := ⟨w.heap.size, o, none⟩) hl_A).trans (f_A o); replace HX_A := Lib.hid (HX_A.out.below hb); replace HR := Lib.hid (HR.out.below hb); replace HB := Lib.hid (HB.out.trans (hb.mono hs0)); replace hN : N ≤ wb.heap.size := Nat.le_trans hN hb.size; replace hs0 : w.heap.size ≤ wb.heap.size := Nat.le_trans hs0 hb.size; replace hl_A : w.heap.size < wb.heap.size := Nat.lt_of_lt_of_le hl_A hb.size; replace HAA := Lib.hid (HAA.out.below hb); replace HOB := Lib.hid (HOB.out.below hb); clear hb; skip)
          | (refine step_append_lies _ rfl (.tmp 22) (.tmp 31) 39 rfl wa.heap.size 4 i0 (.bool false) 1 1 Tryz.underBools hi hz0 hz1 hz2 rfl (by decide) _ j ((List.range j).map fun i => .bool (bonQ q n al i)) (by simp [Act.eval]) (World.ownsRow.alloc HOB.out _) ⟨wb.heap.size, 0, none⟩ 1 1 [.bool v'] (by simp [Act.eval]) rfl (by exact cell_oneB wb _ _) (by intro u hu; simp at hu; subst hu; rfl) (by decide) (by unfold maxLen; omega) (by omega) (by simp; omega) _ rfl ?_; intro g9 cp9 w1 ho1 hg1 hat1 _; have HO2 := Lib.hid (Ob.push HV.out ho1); have HB2 := Lib.hid (own_bel (World.ownsRow.alloc HOB.out _) (HBJb.out.alloc hsb _) (by simp; omega) hg1); have e0 : w1.cell? ⟨b0, off + j * 3, none⟩ = some (.bool sk) := (HB2.out.cell (p := ⟨b0, off + j * 3, none⟩) hlB).trans gB0; have e1 : w1.cell? ⟨b0, off + j * 3 + 1, none⟩ = some (.slice ra rn rc) := (HB2.out.cell (p := ⟨b0, off + j * 3 + 1, none⟩) hlB).trans gB1; have e2 : w1.cell? ⟨b0, off + j * 3 + 2, none⟩ = some (.slice da dn dc) := (HB2.out.cell (p := ⟨b0, off + j * 3 + 2, none⟩) hlB).trans gB2; have f0 : w1.cell? ⟨w.heap.size, 0, none⟩ = some (.bool s2) := (HB2.out.cell (p := ⟨w.heap.size, 0, none⟩) hlA).trans kB_0; have f1 : w1.cell? ⟨w.heap.size, 1, none⟩ = some (.slice a2 na2 ca2) := (HB2.out.cell (p := ⟨w.heap.size, 1, none⟩) hlA).trans kB_1; have f2 : w1.cell? ⟨w.heap.size, 2, none⟩ = some (.slice d2 nd2 cd2) := (HB2.out.cell (p := ⟨w.heap.size, 2, none⟩) hlA).trans kB_2; clear ho1 hg1 hat1))
      go_wp2_with fail
      go_roundw
      case rel => exact ⟨j + 1, by omega, by go_num, HO2.out, HB2.out⟩
      case measure => simp [intOf]; omega
    · obtain rfl : n = j := by omega
      obtain ⟨p, cp, rfl, hbs⟩ := HOB.out.open
      have HBS := Lib.hid hbs
      have hb1 := hbs.1
      have hb2 := hbs.2.1
      unfold maxLen at hb2
      clear hbs hbel
      go_wp2_with fail
      go_ret2
      exact ⟨_, _, rfl, HBS.out, HB.out.trans (HBJ.out.mono hs0)⟩
set_option maxHeartbeats 4000000 in
theorem xposition_any {N : Nat} (a : Option Addr) (n cap t : Nat) (q : Nat → Rat) (L : Nat) (w : World) (hN : N ≤ w.heap.size) (h : Rs N w a n cap q L) (hL : L ≤ 2097152) (ht : t < n) :
    Calls Tryz.prog 41 #[.slice a n cap, .int .i64 t] w fun e w' => e = .returned (.int .i64 ((rnk (keyT (ltQ q)) n t : Nat) : Int)) ∧ Below w.heap.size w w' := by
  have HA := Lib.hid h
  have bc := h.1
  have bm := h.2.1
  unfold maxLen at bm
  clear h
  have HB := Lib.hid (Below.refl w.heap.size w)
  go_enter Tryz.func41, Tryz.ntmps41
  go_wp2_with fail
  go_loopw [5, 6] (fun c i wr => ∃ k : Nat, k ≤ n ∧ i = .int .i64 k ∧ c = .int .i64 ((cntP k (fun u => keyT (ltQ q) u t) : Nat) : Int) ∧ Below w.heap.size w wr) (fun _ i _ => n - (intOf i).toNat)
  case atStart => exact ⟨0, Nat.zero_le _, rfl, by rw [cntP_zero]; rfl, Below.refl _ _⟩
  case round =>
    obtain ⟨k, hk, rfl, rfl, hbel⟩ := hrel
    have HAr := Lib.hid (HA.out.below hbel)
    have hs0 := hbel.size
    clear HB
    have HB := Lib.hid hbel
    have hN' : N ≤ wr.heap.size := by omega
    clear hN hbel
    have hN := hN'
    clear hN'
    have hcl := cntP_le k (fun u => keyT (ltQ q) u t)
    obtain ⟨C, hC⟩ : ∃ C, cntP k (fun u => keyT (ltQ q) u t) = C := ⟨_, rfl⟩
    rw [hC] at hcl
    have HC := Lib.hid hC
    by_cases hkn : k < n
    · rw [hC]
      clear hC
      obtain ⟨b0, off, rfl, ho⟩ := HAr.out.2.2 (by omega)
      obtain ⟨sx, rx, rnx, rcx, dx, dnx, dcx, gx0, gx1, gx2, hxt⟩ := ho k hkn
      obtain ⟨sy, ry, rny, rcy, dy, dny, dcy, gy0, gy1, gy2, hyt⟩ := ho t ht
      have HX := Lib.hid hxt
      have HY := Lib.hid hyt
      have hle : b0 < wr.heap.size := World.block_lt_of_cell? wr _ gx0
      clear ho hxt hyt HAr
      have hkz : (k : Int) < (n : Int) := by omega
      have htz : (t : Int) < (n : Int) := by omega
      obtain ⟨κ, hκ⟩ : ∃ κ, cmpQ (q k) (q t) = κ := ⟨_, rfl⟩
      have HK := Lib.hid hκ
      have HST := Lib.hid (show cntP (k + 1) (fun u => keyT (ltQ q) u t) = C + (if keyT (ltQ q) k t = true then 1 else 0) by rw [cntP_succ, HC.out])
      by_cases h1 : q k < q t
      · have d1 : decide (κ < 0) = true := by rw [← hκ]; exact decide_eq_true ((cmp_neg _ _).2 h1)
        have HKT := Lib.hid (show keyT (ltQ q) k t = true by unfold keyT ltQ; rw [decide_eq_true h1]; rfl)
        clear hκ
        go_wp2_with fail
        go_region_held3 (fun w' => w'.cell? ⟨b0, off + k * 3, none⟩ = some (.bool sx) ∧ w'.cell? ⟨b0, off + k * 3 + 1, none⟩ = some (.slice rx rnx rcx) ∧ w'.cell? ⟨b0, off + k * 3 + 2, none⟩ = some (.slice dx dnx dcx) ∧ w'.cell? ⟨b0, off + t * 3, none⟩ = some (.bool sy) ∧ w'.cell? ⟨b0, off + t * 3 + 1, none⟩ = some (.slice ry rny rcy) ∧ w'.cell? ⟨b0, off + t * 3 + 2, none⟩ = some (.slice dy dny dcy))
          (first | (go_keep; done) | ((try dsimp only); (repeat' apply And.intro) <;> (first | (go_keep; done) | (exact cell_keep_alloc_drew (by first | omega | (simp; omega)) (by first | assumption | go_simp)) | (exact cell_keep_alloc (by first | omega | (simp; omega)) (by first | assumption | go_simp)) | (rw [cell_set2 _ _ _ _ _ _ _ _ (by omega)]; assumption) | (rw [cell_set3 _ _ _ _ _ _ _ _ _ _ (by omega)]; assumption))))
          (first
            | (go_at_call 55; refine (xrcmp_any (N := N) _ _ _ _ _ _ _ _ _ _ _ _ _ _ L L (q k) (q t) _ (by exact hN) (by exact HX.out) (by exact HY.out) (by omega) (by omega)).mono ?_; rw [HK.out]; rintro e wc ⟨rfl, hb⟩; replace hb : Below wr.heap.size wr wc := (by first | exact hb | exact bel_of_drew hb); have gx0' : wc.cell? ⟨b0, off + k * 3, none⟩ = some (.bool sx) := (hb.cell (p := ⟨b0, off + k * 3, none⟩) hle).trans gx0; have gx1' : wc.cell? ⟨b0, off + k * 3 + 1, none⟩ = some (.slice rx rnx rcx) := (hb.cell (p := ⟨b0, off + k * 3 + 1, none⟩) hle).trans gx1; have gx2' : wc.cell? ⟨b0, off + k * 3 + 2, none⟩ = some (.slice dx dnx dcx) := (hb.cell (p := ⟨b0, off + k * 3 + 2, none⟩) hle).trans gx2; have gy0' : wc.cell? ⟨b0, off + t * 3, none⟩ = some (.bool sy) := (hb.cell (p := ⟨b0, off + t * 3, none⟩) hle).trans gy0; have gy1' : wc.cell? ⟨b0, off + t * 3 + 1, none⟩ = some (.slice ry rny rcy) := (hb.cell (p := ⟨b0, off + t * 3 + 1, none⟩) hle).trans gy1; have gy2' : wc.cell? ⟨b0, off + t * 3 + 2, none⟩ = some (.slice dy dny dcy) := (hb.cell (p := ⟨b0, off + t * 3 + 2, none⟩) hle).trans gy2; have hs_wc : wr.heap.size ≤ wc.heap.size := hb.size; replace HX := Lib.hid (HX.out.below hb); replace HY := Lib.hid (HY.out.below hb); replace HB := Lib.hid (HB.out.trans (hb.mono hs0)); replace hN : N ≤ wc.heap.size := Nat.le_trans hN hb.size; replace hs0 : w.heap.size ≤ wc.heap.size := Nat.le_trans hs0 hb.size; clear hb; skip))
        go_wp2_with fail
        go_roundw
        case rel => exact ⟨k + 1, by omega, by go_num, by rw [HST.out, if_pos HKT.out]; go_num, HB.out⟩
        case measure => simp [intOf]; omega
      · have d1 : decide (κ < 0) = false := by rw [← hκ]; exact decide_eq_false (fun hh => h1 ((cmp_neg _ _).1 hh))
        by_cases h2 : q t < q k
        · have d2 : (κ == 0) = false := by rw [← hκ, cmp_eq0]; exact decide_eq_false (by grind)
          have HKT := Lib.hid (show ¬ keyT (ltQ q) k t = true by unfold keyT ltQ; rw [decide_eq_false h1, decide_eq_true h2]; simp)
          clear hκ
          go_wp2_with fail
          go_region_held3 (fun w' => w'.cell? ⟨b0, off + k * 3, none⟩ = some (.bool sx) ∧ w'.cell? ⟨b0, off + k * 3 + 1, none⟩ = some (.slice rx rnx rcx) ∧ w'.cell? ⟨b0, off + k * 3 + 2, none⟩ = some (.slice dx dnx dcx) ∧ w'.cell? ⟨b0, off + t * 3, none⟩ = some (.bool sy) ∧ w'.cell? ⟨b0, off + t * 3 + 1, none⟩ = some (.slice ry rny rcy) ∧ w'.cell? ⟨b0, off + t * 3 + 2, none⟩ = some (.slice dy dny dcy))
            (first | (go_keep; done) | ((try dsimp only); (repeat' apply And.intro) <;> (first | (go_keep; done) | (exact cell_keep_alloc_drew (by first | omega | (simp; omega)) (by first | assumption | go_simp)) | (exact cell_keep_alloc (by first | omega | (simp; omega)) (by first | assumption | go_simp)) | (rw [cell_set2 _ _ _ _ _ _ _ _ (by omega)]; assumption) | (rw [cell_set3 _ _ _ _ _ _ _ _ _ _ (by omega)]; assumption))))
            (first
              | (go_at_call 55; refine (xrcmp_any (N := N) _ _ _ _ _ _ _ _ _ _ _ _ _ _ L L (q k) (q t) _ (by exact hN) (by exact HX.out) (by exact HY.out) (by omega) (by omega)).mono ?_; rw [HK.out]; rintro e wc ⟨rfl, hb⟩; replace hb : Below wr.heap.size wr wc := (by first | exact hb | exact bel_of_drew hb); have gx0' : wc.cell? ⟨b0, off + k * 3, none⟩ = some (.bool sx) := (hb.cell (p := ⟨b0, off + k * 3, none⟩) hle).trans gx0; have gx1' : wc.cell? ⟨b0, off + k * 3 + 1, none⟩ = some (.slice rx rnx rcx) := (hb.cell (p := ⟨b0, off + k * 3 + 1, none⟩) hle).trans gx1; have gx2' : wc.cell? ⟨b0, off + k * 3 + 2, none⟩ = some (.slice dx dnx dcx) := (hb.cell (p := ⟨b0, off + k * 3 + 2, none⟩) hle).trans gx2; have gy0' : wc.cell? ⟨b0, off + t * 3, none⟩ = some (.bool sy) := (hb.cell (p := ⟨b0, off + t * 3, none⟩) hle).trans gy0; have gy1' : wc.cell? ⟨b0, off + t * 3 + 1, none⟩ = some (.slice ry rny rcy) := (hb.cell (p := ⟨b0, off + t * 3 + 1, none⟩) hle).trans gy1; have gy2' : wc.cell? ⟨b0, off + t * 3 + 2, none⟩ = some (.slice dy dny dcy) := (hb.cell (p := ⟨b0, off + t * 3 + 2, none⟩) hle).trans gy2; have hs_wc : wr.heap.size ≤ wc.heap.size := hb.size; replace HX := Lib.hid (HX.out.below hb); replace HY := Lib.hid (HY.out.below hb); replace HB := Lib.hid (HB.out.trans (hb.mono hs0)); replace hN : N ≤ wc.heap.size := Nat.le_trans hN hb.size; replace hs0 : w.heap.size ≤ wc.heap.size := Nat.le_trans hs0 hb.size; clear hb; skip))
          go_wp2_with fail
          go_roundw
          case rel => exact ⟨k + 1, by omega, by go_num, by rw [HST.out, if_neg HKT.out]; rfl, HB.out⟩
          case measure => simp [intOf]; omega
        · have d2 : (κ == 0) = true := by rw [← hκ, cmp_eq0]; exact decide_eq_true (by grind)
          by_cases h3 : k < t
          · have d3 : decide ((k : Int) < (t : Int)) = true := decide_eq_true (by omega)
            have d3' : decide (k < t) = true := decide_eq_true h3
            have HKT := Lib.hid (show keyT (ltQ q) k t = true by unfold keyT ltQ; rw [decide_eq_false h1, decide_eq_false h2, decide_eq_true h3]; rfl)
            clear hκ
            go_wp2_with fail
            go_region_held3 (fun w' => w'.cell? ⟨b0, off + k * 3, none⟩ = some (.bool sx) ∧ w'.cell? ⟨b0, off + k * 3 + 1, none⟩ = some (.slice rx rnx rcx) ∧ w'.cell? ⟨b0, off + k * 3 + 2, none⟩ = some (.slice dx dnx dcx) ∧ w'.cell? ⟨b0, off + t * 3, none⟩ = some (.bool sy) ∧ w'.cell? ⟨b0, off + t * 3 + 1, none⟩ = some (.slice ry rny rcy) ∧ w'.cell? ⟨b0, off + t * 3 + 2, none⟩ = some (.slice dy dny dcy))
              (first | (go_keep; done) | ((try dsimp only); (repeat' apply And.intro) <;> (first | (go_keep; done) | (exact cell_keep_alloc_drew (by first | omega | (simp; omega)) (by first | assumption | go_simp)) | (exact cell_keep_alloc (by first | omega | (simp; omega)) (by first | assumption | go_simp)) | (rw [cell_set2 _ _ _ _ _ _ _ _ (by omega)]; assumption) | (rw [cell_set3 _ _ _ _ _ _ _ _ _ _ (by omega)]; assumption))))
              (first
                | (go_at_call 55; refine (xrcmp_any (N := N) _ _ _ _ _ _ _ _ _ _ _ _ _ _ L L (q k) (q t) _ (by exact hN) (by exact HX.out) (by exact HY.out) (by omega) (by omega)).mono ?_; rw [HK.out]; rintro e wc ⟨rfl, hb⟩; replace hb : Below wr.heap.size wr wc := (by first | exact hb | exact bel_of_drew hb); have gx0' : wc.cell? ⟨b0, off + k * 3, none⟩ = some (.bool sx) := (hb.cell (p := ⟨b0, off + k * 3, none⟩) hle).trans gx0; have gx1' : wc.cell? ⟨b0, off + k * 3 + 1, none⟩ = some (.slice rx rnx rcx) := (hb.cell (p := ⟨b0, off + k * 3 + 1, none⟩) hle).trans gx1; have gx2' : wc.cell? ⟨b0, off + k * 3 + 2, none⟩ = some (.slice dx dnx dcx) := (hb.cell (p := ⟨b0, off + k * 3 + 2, none⟩) hle).trans gx2; have gy0' : wc.cell? ⟨b0, off + t * 3, none⟩ = some (.bool sy) := (hb.cell (p := ⟨b0, off + t * 3, none⟩) hle).trans gy0; have gy1' : wc.cell? ⟨b0, off + t * 3 + 1, none⟩ = some (.slice ry rny rcy) := (hb.cell (p := ⟨b0, off + t * 3 + 1, none⟩) hle).trans gy1; have gy2' : wc.cell? ⟨b0, off + t * 3 + 2, none⟩ = some (.slice dy dny dcy) := (hb.cell (p := ⟨b0, off + t * 3 + 2, none⟩) hle).trans gy2; have hs_wc : wr.heap.size ≤ wc.heap.size := hb.size; replace HX := Lib.hid (HX.out.below hb); replace HY := Lib.hid (HY.out.below hb); replace HB := Lib.hid (HB.out.trans (hb.mono hs0)); replace hN : N ≤ wc.heap.size := Nat.le_trans hN hb.size; replace hs0 : w.heap.size ≤ wc.heap.size := Nat.le_trans hs0 hb.size; clear hb; skip))
            go_wp2_with fail
            go_roundw
            case rel => exact ⟨k + 1, by omega, by go_num, by rw [HST.out, if_pos HKT.out]; go_num, HB.out⟩
            case measure => simp [intOf]; omega
          · have d3 : decide ((k : Int) < (t : Int)) = false := decide_eq_false (by omega)
            have d3' : decide (k < t) = false := decide_eq_false h3
            have HKT := Lib.hid (show ¬ keyT (ltQ q) k t = true by unfold keyT ltQ; rw [decide_eq_false h1, decide_eq_false h2, decide_eq_false h3]; decide)
            clear hκ
            go_wp2_with fail
            go_region_held3 (fun w' => w'.cell? ⟨b0, off + k * 3, none⟩ = some (.bool sx) ∧ w'.cell? ⟨b0, off + k * 3 + 1, none⟩ = some (.slice rx rnx rcx) ∧ w'.cell? ⟨b0, off + k * 3 + 2, none⟩ = some (.slice dx dnx dcx) ∧ w'.cell? ⟨b0, off + t * 3, none⟩ = some (.bool sy) ∧ w'.cell? ⟨b0, off + t * 3 + 1, none⟩ = some (.slice ry rny rcy) ∧ w'.cell? ⟨b0, off + t * 3 + 2, none⟩ = some (.slice dy dny dcy))
              (first | (go_keep; done) | ((try dsimp only); (repeat' apply And.intro) <;> (first | (go_keep; done) | (exact cell_keep_alloc_drew (by first | omega | (simp; omega)) (by first | assumption | go_simp)) | (exact cell_keep_alloc (by first | omega | (simp; omega)) (by first | assumption | go_simp)) | (rw [cell_set2 _ _ _ _ _ _ _ _ (by omega)]; assumption) | (rw [cell_set3 _ _ _ _ _ _ _ _ _ _ (by omega)]; assumption))))
              (first
                | (go_at_call 55; refine (xrcmp_any (N := N) _ _ _ _ _ _ _ _ _ _ _ _ _ _ L L (q k) (q t) _ (by exact hN) (by exact HX.out) (by exact HY.out) (by omega) (by omega)).mono ?_; rw [HK.out]; rintro e wc ⟨rfl, hb⟩; replace hb : Below wr.heap.size wr wc := (by first | exact hb | exact bel_of_drew hb); have gx0' : wc.cell? ⟨b0, off + k * 3, none⟩ = some (.bool sx) := (hb.cell (p := ⟨b0, off + k * 3, none⟩) hle).trans gx0; have gx1' : wc.cell? ⟨b0, off + k * 3 + 1, none⟩ = some (.slice rx rnx rcx) := (hb.cell (p := ⟨b0, off + k * 3 + 1, none⟩) hle).trans gx1; have gx2' : wc.cell? ⟨b0, off + k * 3 + 2, none⟩ = some (.slice dx dnx dcx) := (hb.cell (p := ⟨b0, off + k * 3 + 2, none⟩) hle).trans gx2; have gy0' : wc.cell? ⟨b0, off + t * 3, none⟩ = some (.bool sy) := (hb.cell (p := ⟨b0, off + t * 3, none⟩) hle).trans gy0; have gy1' : wc.cell? ⟨b0, off + t * 3 + 1, none⟩ = some (.slice ry rny rcy) := (hb.cell (p := ⟨b0, off + t * 3 + 1, none⟩) hle).trans gy1; have gy2' : wc.cell? ⟨b0, off + t * 3 + 2, none⟩ = some (.slice dy dny dcy) := (hb.cell (p := ⟨b0, off + t * 3 + 2, none⟩) hle).trans gy2; have hs_wc : wr.heap.size ≤ wc.heap.size := hb.size; replace HX := Lib.hid (HX.out.below hb); replace HY := Lib.hid (HY.out.below hb); replace HB := Lib.hid (HB.out.trans (hb.mono hs0)); replace hN : N ≤ wc.heap.size := Nat.le_trans hN hb.size; replace hs0 : w.heap.size ≤ wc.heap.size := Nat.le_trans hs0 hb.size; clear hb; skip))
            go_wp2_with fail
            go_roundw
            case rel => exact ⟨k + 1, by omega, by go_num, by rw [HST.out, if_neg HKT.out]; rfl, HB.out⟩
            case measure => simp [intOf]; omega
    · obtain rfl : n = k := by omega
      clear HC hC hcl
      go_wp2_with fail
      go_ret
      exact ⟨rfl, HB.out⟩
set_option maxHeartbeats 8000000 in
set_option maxRecDepth 100000 in
theorem xholm_ok {N : Nat} (a : Option Addr) (n cap : Nat) (q : Nat → Rat) (s2 : Bool) (a2 d2 : Option Addr) (na2 ca2 nd2 cd2 L : Nat) (al : Rat) (w : World) (hN : N ≤ w.heap.size) (h : Rs N w a n cap q L) (h2 : Rt N w s2 a2 na2 ca2 d2 nd2 cd2 al L) (hL : L ≤ 2097152) (hc : chkC q n al = 0) :
    Calls Tryz.prog 18 #[.slice a n cap, .agg #[.bool s2, .slice a2 na2 ca2, .slice d2 nd2 cd2]] w (BsPost w n (holQ q n al)) := by
  have HC := Lib.hid hc
  obtain ⟨h60, hpr, _⟩ := chk_ok hc
  have HGE : Hid (∀ i, i < n → 0 ≤ q i) := Lib.hid (fun i hi => by have := hpr i hi; unfold prb at this; rw [decide_eq_true_eq] at this; exact this.1)
  clear hc hpr
  have HA := Lib.hid h
  have HAA := Lib.hid h2
  have bc := h.1
  have bm := h.2.1
  unfold maxLen at bm
  clear h h2
  have hN0 := hN
  have HB := Lib.hid (Below.refl w.heap.size w)
  go_enter Tryz.func18, Tryz.ntmps18
  go_wp2_with fail
  refine calls_name fun W0 hW => ?_
  have hs_W0 : w.heap.size ≤ W0.heap.size := by rw [← hW]; (first | omega | (simp; done) | (simp; omega))
  have HL_W0 := Lib.hid (show Below w.heap.size w W0 by rw [← hW]; exact BlA)
  have k_A_0 : W0.cell? ⟨w.heap.size, 0, none⟩ = some (.bool s2) := by rw [← hW]; (first | (go_simp; done) | (simp; done) | (simp [go_sem]; done) | (simp [go_sem]; done))
  have k_A_1 : W0.cell? ⟨w.heap.size, 1, none⟩ = some (.slice a2 na2 ca2) := by rw [← hW]; (first | (go_simp; done) | (simp; done) | (simp [go_sem]; done) | (simp [go_sem]; done))
  have k_A_2 : W0.cell? ⟨w.heap.size, 2, none⟩ = some (.slice d2 nd2 cd2) := by rw [← hW]; (first | (go_simp; done) | (simp; done) | (simp [go_sem]; done) | (simp [go_sem]; done))
  have f_A : ∀ o, W0.frozen? ⟨w.heap.size, o, none⟩ = false := by intro o; rw [← hW]; (first | (go_simp; done) | (simp; done) | (simp [go_sem]; done) | (simp [go_sem]; done))
  have HX_A := Lib.hid (show Bn W0 (w.heap.size) by rw [← hW]; exact KpA)
  replace HB := Lib.hid (show Below w.heap.size w W0 by rw [← hW]; exact BlA)
  replace hN : N ≤ W0.heap.size := by rw [← hW]; (first | omega | (simp; done) | (simp; omega))
  have hs0 : w.heap.size ≤ W0.heap.size := by rw [← hW]; (first | omega | (simp; done) | (simp; omega))
  have hl_A : w.heap.size < W0.heap.size := by rw [← hW]; (first | omega | (simp; done) | (simp; omega))
  replace HA := Lib.hid (HA.out.below HL_W0.out)
  replace HAA := Lib.hid (HAA.out.below HL_W0.out)
  clear HL_W0
  clear hW
  have mk2 := fun w => make_bools n (by omega) w
  obtain ⟨d, hpm, hst⟩ := sorted_ex q n
  have HPM := Lib.hid hpm
  have HST := Lib.hid hst
  have HRK := Lib.hid (fun r (hr : r < n) => Srt.rnk (ltQ_weak q).ord hpm hst hr)
  clear hpm hst
  refine (xcheck_any (N := N) _ n _ q _ _ _ _ _ _ _ L al _ hN HA.out HAA.out hL 0 HC.out).mono ?_
  rintro e wa ⟨rfl, hb⟩
  have hs_wa : W0.heap.size ≤ wa.heap.size := hb.size
  replace k_A_0 : wa.cell? ⟨w.heap.size, 0, none⟩ = some (.bool s2) := (hb.cell (p := ⟨w.heap.size, 0, none⟩) hl_A).trans k_A_0
  replace k_A_1 : wa.cell? ⟨w.heap.size, 1, none⟩ = some (.slice a2 na2 ca2) := (hb.cell (p := ⟨w.heap.size, 1, none⟩) hl_A).trans k_A_1
  replace k_A_2 : wa.cell? ⟨w.heap.size, 2, none⟩ = some (.slice d2 nd2 cd2) := (hb.cell (p := ⟨w.heap.size, 2, none⟩) hl_A).trans k_A_2
  replace f_A : ∀ o, wa.frozen? ⟨w.heap.size, o, none⟩ = false := fun o => (hb.frozen (p := ⟨w.heap.size, o, none⟩) hl_A).trans (f_A o)
  replace HX_A := Lib.hid (HX_A.out.below hb)
  replace HB := Lib.hid (HB.out.trans (hb.mono hs0))
  replace hN : N ≤ wa.heap.size := Nat.le_trans hN hb.size
  replace hs0 : w.heap.size ≤ wa.heap.size := Nat.le_trans hs0 hb.size
  replace hl_A : w.heap.size < wa.heap.size := Nat.lt_of_lt_of_le hl_A hb.size
  replace HA := Lib.hid (HA.out.below hb)
  replace HAA := Lib.hid (HAA.out.below hb)
  clear hb
  go_wp2_with fail
  go_loopw [8, 9] (fun i _ wr => ∃ r : Nat, r ≤ n ∧ i = .int .i64 r ∧ Rw wr wa.heap.size 4 n (fun j => .bool (decide (rnk (keyT (ltQ q)) n j < r))) ∧ Hid (∀ k, k < r → q (d k) * ((n - k : Nat) : Rat) ≤ al) ∧ Below wa.heap.size wa wr) (fun i _ _ => n - (intOf i).toNat)
  case atStart => exact ⟨0, Nat.zero_le _, rfl, (World.rowIs_made wa (.bool false) n 4).congr (fun j hj => by simp), Lib.hid (fun k hk => by omega), (Below.refl _ _).alloc (Nat.le_refl _) _⟩
  case round =>
    obtain ⟨r, hr, rfl, hrow, hin, hbel⟩ := hrel
    obtain ⟨w3, rfl⟩ : ∃ w3 : World, w3 = wr := ⟨_, rfl⟩
    have HRW := Lib.hid hrow
    clear hrow
    have HBZ := Lib.hid hbel
    have hsz2 := hbel.size
    have hlr := World.rowIs.lt HRW.out
    have hl_A' : w.heap.size < w3.heap.size := Nat.lt_of_lt_of_le hl_A hbel.size
    have k_A_0' : w3.cell? ⟨w.heap.size, 0, none⟩ = some (.bool s2) := (hbel.cell (p := ⟨w.heap.size, 0, none⟩) hl_A).trans k_A_0
    have k_A_1' : w3.cell? ⟨w.heap.size, 1, none⟩ = some (.slice a2 na2 ca2) := (hbel.cell (p := ⟨w.heap.size, 1, none⟩) hl_A).trans k_A_1
    have k_A_2' : w3.cell? ⟨w.heap.size, 2, none⟩ = some (.slice d2 nd2 cd2) := (hbel.cell (p := ⟨w.heap.size, 2, none⟩) hl_A).trans k_A_2
    have f_A' : ∀ o, w3.frozen? ⟨w.heap.size, o, none⟩ = false := fun o => (hbel.frozen (p := ⟨w.heap.size, o, none⟩) hl_A).trans (f_A o)
    have HX_A' := Lib.hid (HX_A.out.below hbel)
    clear hl_A f_A HX_A k_A_0 k_A_1 k_A_2
    have hl_A := hl_A'
    have f_A := f_A'
    have HX_A := HX_A'
    have k_A_0 := k_A_0'
    have k_A_1 := k_A_1'
    have k_A_2 := k_A_2'
    clear hl_A' f_A' HX_A' k_A_0' k_A_1' k_A_2'
    have HA2 := Lib.hid (HA.out.below hbel)
    have HAA2 := Lib.hid (HAA.out.below hbel)
    have HB2 := Lib.hid (HB.out.trans (hbel.mono hs0))
    have hN2 : N ≤ w3.heap.size := by omega
    have hs2 : w.heap.size ≤ w3.heap.size := by omega
    clear HA HAA HB hN hs0 hbel
    have HA := HA2
    have HAA := HAA2
    have HB := HB2
    have hN := hN2
    have hs0 := hs2
    clear HA2 HAA2 HB2 hN2 hs2
    by_cases hrn : r < n
    · obtain ⟨x, ex⟩ : ∃ x, d r = x := ⟨_, rfl⟩
      have hx : x < n := by rw [← ex]; exact HPM.out.lt r hrn
      have hrx : rnk (keyT (ltQ q)) n x = r := by rw [← ex]; exact HRK.out r hrn
      have EX := Lib.hid ex
      have HRX := Lib.hid hrx
      clear ex hrx
      go_wp2_with fail
      go_loopw [9] (fun i wr => ∃ m : Nat, m ≤ x ∧ i = .int .i64 m ∧ Below w3.heap.size w3 wr) (fun i _ => x + 1 - (intOf i).toNat)
      case atStart => exact ⟨0, Nat.zero_le _, rfl, Below.refl _ _⟩
      case round =>
        obtain ⟨m, hm, rfl, hbel⟩ := hrel
        have HBM := Lib.hid hbel
        have hsm := hbel.size
        have hl_A' : w.heap.size < wr.heap.size := Nat.lt_of_lt_of_le hl_A hbel.size
        have k_A_0' : wr.cell? ⟨w.heap.size, 0, none⟩ = some (.bool s2) := (hbel.cell (p := ⟨w.heap.size, 0, none⟩) hl_A).trans k_A_0
        have k_A_1' : wr.cell? ⟨w.heap.size, 1, none⟩ = some (.slice a2 na2 ca2) := (hbel.cell (p := ⟨w.heap.size, 1, none⟩) hl_A).trans k_A_1
        have k_A_2' : wr.cell? ⟨w.heap.size, 2, none⟩ = some (.slice d2 nd2 cd2) := (hbel.cell (p := ⟨w.heap.size, 2, none⟩) hl_A).trans k_A_2
        have f_A' : ∀ o, wr.frozen? ⟨w.heap.size, o, none⟩ = false := fun o => (hbel.frozen (p := ⟨w.heap.size, o, none⟩) hl_A).trans (f_A o)
        have HX_A' := Lib.hid (HX_A.out.below hbel)
        clear hl_A f_A HX_A k_A_0 k_A_1 k_A_2
        have hl_A := hl_A'
        have f_A := f_A'
        have HX_A := HX_A'
        have k_A_0 := k_A_0'
        have k_A_1 := k_A_1'
        have k_A_2 := k_A_2'
        clear hl_A' f_A' HX_A' k_A_0' k_A_1' k_A_2'
        have HA2 := Lib.hid (HA.out.below hbel)
        have HAA2 := Lib.hid (HAA.out.below hbel)
        have HRW2 := Lib.hid (HRW.out.below hbel)
        have HB2 := Lib.hid (HB.out.trans (hbel.mono hs0))
        have HBZ2 := Lib.hid (HBZ.out.trans (hbel.mono hsz2))
        have hN2 : N ≤ wr.heap.size := by omega
        have hs2 : w.heap.size ≤ wr.heap.size := by omega
        clear HA HAA HRW HB hN hs0 hbel
        have HA := HA2
        have HAA := HAA2
        have HRW := HRW2
        have HB := HB2
        have hN := hN2
        have hs0 := hs2
        clear HA2 HAA2 HRW2 HB2 hN2 hs2
        have hmn : m < n := by omega
        obtain ⟨R, hR⟩ : ∃ R, rnk (keyT (ltQ q)) n m = R := ⟨_, rfl⟩
        have HR9 := Lib.hid hR
        by_cases hmx : m < x
        · have hne : ¬ R = r := fun e => by rw [e, ← HRX.out] at hR; exact absurd (rnk_inj9 (ltQ_weak q).ord hmn hx hR) (by omega)
          have hnz : ¬ (R : Int) = (r : Int) := by omega
          have hnb : ((R : Int) == (r : Int)) = false := by simpa using hnz
          have hnb' : (R == r) = false := by simpa using hne
          clear hR
          go_wp2_with fail
          refine calls_name fun X1 hW => ?_
          have HL_X1 := Lib.hid (show Below wr.heap.size wr X1 by rw [← hW]; exact BlA)
          have hs_X1 : wr.heap.size ≤ X1.heap.size := by rw [← hW]; (first | omega | (simp; done) | (simp; omega))
          have HBM_X1 := Lib.hid (show Below w3.heap.size w3 X1 by rw [← hW]; exact HBM.out)
          have HBZ_X1 := Lib.hid (show Below wa.heap.size wa X1 by rw [← hW]; exact HBZ2.out)
          replace k_A_0 : X1.cell? ⟨w.heap.size, 0, none⟩ = some (.bool s2) := (HL_X1.out.cell (p := ⟨w.heap.size, 0, none⟩) hl_A).trans k_A_0
          replace k_A_1 : X1.cell? ⟨w.heap.size, 1, none⟩ = some (.slice a2 na2 ca2) := (HL_X1.out.cell (p := ⟨w.heap.size, 1, none⟩) hl_A).trans k_A_1
          replace k_A_2 : X1.cell? ⟨w.heap.size, 2, none⟩ = some (.slice d2 nd2 cd2) := (HL_X1.out.cell (p := ⟨w.heap.size, 2, none⟩) hl_A).trans k_A_2
          replace f_A : ∀ o, X1.frozen? ⟨w.heap.size, o, none⟩ = false := fun o => (HL_X1.out.frozen (p := ⟨w.heap.size, o, none⟩) hl_A).trans (f_A o)
          replace HX_A := Lib.hid (show Bn X1 (w.heap.size) by rw [← hW]; exact KpA)
          replace HB := Lib.hid (show Below w.heap.size w X1 by rw [← hW]; exact BlA)
          replace hN : N ≤ X1.heap.size := by rw [← hW]; (first | omega | (simp; done) | (simp; omega))
          replace hs0 : w.heap.size ≤ X1.heap.size := by rw [← hW]; (first | omega | (simp; done) | (simp; omega))
          replace hl_A : w.heap.size < X1.heap.size := by rw [← hW]; (first | omega | (simp; done) | (simp; omega))
          replace HA := Lib.hid (HA.out.below HL_X1.out)
          replace HAA := Lib.hid (HAA.out.below HL_X1.out)
          replace HRW := Lib.hid (HRW.out.below HL_X1.out)
          clear HL_X1
          clear hW
          refine (xposition_any (N := N) _ n _ m q L _ hN HA.out hL hmn).mono ?_
          rw [HR9.out]
          rintro e wp ⟨rfl, hb⟩
          have HBMp := Lib.hid (HBM_X1.out.trans (hb.mono (by omega)))
          have HBZp := Lib.hid (HBZ_X1.out.trans (hb.mono (by omega)))
          have hs_wp : X1.heap.size ≤ wp.heap.size := hb.size
          replace k_A_0 : wp.cell? ⟨w.heap.size, 0, none⟩ = some (.bool s2) := (hb.cell (p := ⟨w.heap.size, 0, none⟩) hl_A).trans k_A_0
          replace k_A_1 : wp.cell? ⟨w.heap.size, 1, none⟩ = some (.slice a2 na2 ca2) := (hb.cell (p := ⟨w.heap.size, 1, none⟩) hl_A).trans k_A_1
          replace k_A_2 : wp.cell? ⟨w.heap.size, 2, none⟩ = some (.slice d2 nd2 cd2) := (hb.cell (p := ⟨w.heap.size, 2, none⟩) hl_A).trans k_A_2
          replace f_A : ∀ o, wp.frozen? ⟨w.heap.size, o, none⟩ = false := fun o => (hb.frozen (p := ⟨w.heap.size, o, none⟩) hl_A).trans (f_A o)
          replace HX_A := Lib.hid (HX_A.out.below hb)
          replace HB := Lib.hid (HB.out.trans (hb.mono hs0))
          replace hN : N ≤ wp.heap.size := Nat.le_trans hN hb.size
          replace hs0 : w.heap.size ≤ wp.heap.size := Nat.le_trans hs0 hb.size
          replace hl_A : w.heap.size < wp.heap.size := Nat.lt_of_lt_of_le hl_A hb.size
          replace HA := Lib.hid (HA.out.below hb)
          replace HAA := Lib.hid (HAA.out.below hb)
          replace HRW := Lib.hid (HRW.out.below hb)
          clear hb
          go_wp2_with fail
          go_roundw
          case rel => exact ⟨m + 1, by omega, by go_num, HBMp.out⟩
          case measure => simp [intOf]; omega
        · obtain rfl : x = m := by omega
          obtain rfl : R = r := hR.symm.trans HRX.out
          clear hR
          go_wp2_with fail
          refine calls_name fun X1 hW => ?_
          have HL_X1 := Lib.hid (show Below wr.heap.size wr X1 by rw [← hW]; exact BlA)
          have hs_X1 : wr.heap.size ≤ X1.heap.size := by rw [← hW]; (first | omega | (simp; done) | (simp; omega))
          have HBM_X1 := Lib.hid (show Below w3.heap.size w3 X1 by rw [← hW]; exact HBM.out)
          have HBZ_X1 := Lib.hid (show Below wa.heap.size wa X1 by rw [← hW]; exact HBZ2.out)
          replace k_A_0 : X1.cell? ⟨w.heap.size, 0, none⟩ = some (.bool s2) := (HL_X1.out.cell (p := ⟨w.heap.size, 0, none⟩) hl_A).trans k_A_0
          replace k_A_1 : X1.cell? ⟨w.heap.size, 1, none⟩ = some (.slice a2 na2 ca2) := (HL_X1.out.cell (p := ⟨w.heap.size, 1, none⟩) hl_A).trans k_A_1
          replace k_A_2 : X1.cell? ⟨w.heap.size, 2, none⟩ = some (.slice d2 nd2 cd2) := (HL_X1.out.cell (p := ⟨w.heap.size, 2, none⟩) hl_A).trans k_A_2
          replace f_A : ∀ o, X1.frozen? ⟨w.heap.size, o, none⟩ = false := fun o => (HL_X1.out.frozen (p := ⟨w.heap.size, o, none⟩) hl_A).trans (f_A o)
          replace HX_A := Lib.hid (show Bn X1 (w.heap.size) by rw [← hW]; exact KpA)
          replace HB := Lib.hid (show Below w.heap.size w X1 by rw [← hW]; exact BlA)
          replace hN : N ≤ X1.heap.size := by rw [← hW]; (first | omega | (simp; done) | (simp; omega))
          replace hs0 : w.heap.size ≤ X1.heap.size := by rw [← hW]; (first | omega | (simp; done) | (simp; omega))
          replace hl_A : w.heap.size < X1.heap.size := by rw [← hW]; (first | omega | (simp; done) | (simp; omega))
          replace HA := Lib.hid (HA.out.below HL_X1.out)
          replace HAA := Lib.hid (HAA.out.below HL_X1.out)
          replace HRW := Lib.hid (HRW.out.below HL_X1.out)
          clear HL_X1
          clear hW
          refine (xposition_any (N := N) _ n _ x q L _ hN HA.out hL hx).mono ?_
          rw [HR9.out]
          rintro e wp ⟨rfl, hb⟩
          have HBMp := Lib.hid (HBM_X1.out.trans (hb.mono (by omega)))
          have HBZp := Lib.hid (HBZ_X1.out.trans (hb.mono (by omega)))
          have hs_wp : X1.heap.size ≤ wp.heap.size := hb.size
          replace k_A_0 : wp.cell? ⟨w.heap.size, 0, none⟩ = some (.bool s2) := (hb.cell (p := ⟨w.heap.size, 0, none⟩) hl_A).trans k_A_0
          replace k_A_1 : wp.cell? ⟨w.heap.size, 1, none⟩ = some (.slice a2 na2 ca2) := (hb.cell (p := ⟨w.heap.size, 1, none⟩) hl_A).trans k_A_1
          replace k_A_2 : wp.cell? ⟨w.heap.size, 2, none⟩ = some (.slice d2 nd2 cd2) := (hb.cell (p := ⟨w.heap.size, 2, none⟩) hl_A).trans k_A_2
          replace f_A : ∀ o, wp.frozen? ⟨w.heap.size, o, none⟩ = false := fun o => (hb.frozen (p := ⟨w.heap.size, o, none⟩) hl_A).trans (f_A o)
          replace HX_A := Lib.hid (HX_A.out.below hb)
          replace HB := Lib.hid (HB.out.trans (hb.mono hs0))
          replace hN : N ≤ wp.heap.size := Nat.le_trans hN hb.size
          replace hs0 : w.heap.size ≤ wp.heap.size := Nat.le_trans hs0 hb.size
          replace hl_A : w.heap.size < wp.heap.size := Nat.lt_of_lt_of_le hl_A hb.size
          replace HA := Lib.hid (HA.out.below hb)
          replace HAA := Lib.hid (HAA.out.below hb)
          replace HRW := Lib.hid (HRW.out.below hb)
          clear hb
          have hlr2 := World.rowIs.lt HRW.out
          obtain ⟨M, hM⟩ : ∃ M, n - R = M := ⟨_, rfl⟩
          have hwM : IntKind.i64.wrap ((n : Int) - (R : Int)) = (M : Int) := by rw [show (n : Int) - (R : Int) = (M : Int) by omega]; exact wrapN M (by omega)
          have hwM2 : IntKind.i64.wrap (M : Int) = (M : Int) := wrapN M (by omega)
          have hM1 : M ≤ 60 := by omega
          obtain ⟨v, hv⟩ : ∃ v, decide (q x * ((M : Nat) : Rat) ≤ al) = v := ⟨_, rfl⟩
          have HV := Lib.hid hv
          have HM := Lib.hid hM
          clear hv hM
          have hxz : (x : Int) < (n : Int) := by omega
          obtain ⟨b0, off, rfl, ho⟩ := HA.out.2.2 (by omega)
          obtain ⟨sk, ra, rn, rc, da, dn, dc, g0, g1, g2, hrt⟩ := ho x hx
          have HR := Lib.hid hrt
          have hle0 : b0 < wp.heap.size := World.block_lt_of_cell? wp _ g0
          clear ho hrt HA
          go_wp2_with fail
          cases v
          · go_region_held3 (fun w' => w'.cell? ⟨b0, off + x * 3, none⟩ = some (.bool sk) ∧ w'.cell? ⟨b0, off + x * 3 + 1, none⟩ = some (.slice ra rn rc) ∧ w'.cell? ⟨b0, off + x * 3 + 2, none⟩ = some (.slice da dn dc) ∧ w'.cell? ⟨w.heap.size, 0, none⟩ = some (.bool s2) ∧ w'.cell? ⟨w.heap.size, 1, none⟩ = some (.slice a2 na2 ca2) ∧ w'.cell? ⟨w.heap.size, 2, none⟩ = some (.slice d2 nd2 cd2))
              (first | (go_keep; done) | ((try dsimp only); (repeat' apply And.intro) <;> (first | (go_keep; done) | (exact cell_keep_alloc_drew (by first | omega | (simp; omega)) (by first | assumption | go_simp)) | (exact cell_keep_alloc (by first | omega | (simp; omega)) (by first | assumption | go_simp)) | (rw [cell_set2 _ _ _ _ _ _ _ _ (by omega)]; assumption) | (rw [cell_set3 _ _ _ _ _ _ _ _ _ _ (by omega)]; assumption))))
              (first
                | (go_at_call 37; refine (xpasses_any (N := N) _ _ _ _ _ _ _ _ _ _ _ _ _ _ L M (q x) al _ (by exact hN) (by exact HR.out) (by exact HAA.out) hL (by omega) false HV.out).mono ?_; rintro e wb ⟨rfl, hb⟩; replace hb : Below wp.heap.size wp wb := (by first | exact hb | exact bel_of_drew hb); have HBZ_wb := Lib.hid (HBZp.out.trans (hb.mono (by omega))); have hlr_wb := Nat.lt_of_lt_of_le hlr2 hb.size; have g0' : wb.cell? ⟨b0, off + x * 3, none⟩ = some (.bool sk) := (hb.cell (p := ⟨b0, off + x * 3, none⟩) hle0).trans g0; have g1' : wb.cell? ⟨b0, off + x * 3 + 1, none⟩ = some (.slice ra rn rc) := (hb.cell (p := ⟨b0, off + x * 3 + 1, none⟩) hle0).trans g1; have g2' : wb.cell? ⟨b0, off + x * 3 + 2, none⟩ = some (.slice da dn dc) := (hb.cell (p := ⟨b0, off + x * 3 + 2, none⟩) hle0).trans g2; have hs_wb : wp.heap.size ≤ wb.heap.size := hb.size; replace k_A_0 : wb.cell? ⟨w.heap.size, 0, none⟩ = some (.bool s2) := (hb.cell (p := ⟨w.heap.size, 0, none⟩) hl_A).trans k_A_0; replace k_A_1 : wb.cell? ⟨w.heap.size, 1, none⟩ = some (.slice a2 na2 ca2) := (hb.cell (p := ⟨w.heap.size, 1, none⟩) hl_A).trans k_A_1; replace k_A_2 : wb.cell? ⟨w.heap.size, 2, none⟩ = some (.slice d2 nd2 cd2) := (hb.cell (p := ⟨w.heap.size, 2, none⟩) hl_A).trans k_A_2; replace f_A : ∀ o, wb.frozen? ⟨w.heap.size, o, none⟩ = false := fun o => (hb.frozen (p := ⟨w.heap.size, o, none⟩) hl_A).trans (f_A o); replace HX_A := Lib.hid (HX_A.out.below hb); replace HR := Lib.hid (HR.out.below hb); replace HB := Lib.hid (HB.out.trans (hb.mono hs0)); replace hN : N ≤ wb.heap.size := Nat.le_trans hN hb.size; replace hs0 : w.heap.size ≤ wb.heap.size := Nat.le_trans hs0 hb.size; replace hl_A : w.heap.size < wb.heap.size := Nat.lt_of_lt_of_le hl_A hb.size; replace HAA := Lib.hid (HAA.out.below hb); replace HRW := Lib.hid (HRW.out.below hb); clear hb; skip))
            go_wp2_with fail
            have HBS := Lib.hid (Rw.bs (World.rowIs.congr HRW.out (fun j hj => by rw [hol_eq HGE.out HPM.out HST.out hin.out (fun _ => by rw [EX.out, HM.out]; exact of_decide_eq_false HV.out) hj])) (by unfold maxLen; omega) : Bs _ _ n n (holQ q n al))
            go_ret2
            exact ⟨_, _, rfl, HBS.out, HB.out⟩
          · go_region_held3 (fun w' => w'.cell? ⟨b0, off + x * 3, none⟩ = some (.bool sk) ∧ w'.cell? ⟨b0, off + x * 3 + 1, none⟩ = some (.slice ra rn rc) ∧ w'.cell? ⟨b0, off + x * 3 + 2, none⟩ = some (.slice da dn dc) ∧ w'.cell? ⟨w.heap.size, 0, none⟩ = some (.bool s2) ∧ w'.cell? ⟨w.heap.size, 1, none⟩ = some (.slice a2 na2 ca2) ∧ w'.cell? ⟨w.heap.size, 2, none⟩ = some (.slice d2 nd2 cd2))
              (first | (go_keep; done) | ((try dsimp only); (repeat' apply And.intro) <;> (first | (go_keep; done) | (exact cell_keep_alloc_drew (by first | omega | (simp; omega)) (by first | assumption | go_simp)) | (exact cell_keep_alloc (by first | omega | (simp; omega)) (by first | assumption | go_simp)) | (rw [cell_set2 _ _ _ _ _ _ _ _ (by omega)]; assumption) | (rw [cell_set3 _ _ _ _ _ _ _ _ _ _ (by omega)]; assumption))))
              (first
                | (go_at_call 37; refine (xpasses_any (N := N) _ _ _ _ _ _ _ _ _ _ _ _ _ _ L M (q x) al _ (by exact hN) (by exact HR.out) (by exact HAA.out) hL (by omega) true HV.out).mono ?_; rintro e wb ⟨rfl, hb⟩; replace hb : Below wp.heap.size wp wb := (by first | exact hb | exact bel_of_drew hb); have HBZ_wb := Lib.hid (HBZp.out.trans (hb.mono (by omega))); have hlr_wb := Nat.lt_of_lt_of_le hlr2 hb.size; have g0' : wb.cell? ⟨b0, off + x * 3, none⟩ = some (.bool sk) := (hb.cell (p := ⟨b0, off + x * 3, none⟩) hle0).trans g0; have g1' : wb.cell? ⟨b0, off + x * 3 + 1, none⟩ = some (.slice ra rn rc) := (hb.cell (p := ⟨b0, off + x * 3 + 1, none⟩) hle0).trans g1; have g2' : wb.cell? ⟨b0, off + x * 3 + 2, none⟩ = some (.slice da dn dc) := (hb.cell (p := ⟨b0, off + x * 3 + 2, none⟩) hle0).trans g2; have hs_wb : wp.heap.size ≤ wb.heap.size := hb.size; replace k_A_0 : wb.cell? ⟨w.heap.size, 0, none⟩ = some (.bool s2) := (hb.cell (p := ⟨w.heap.size, 0, none⟩) hl_A).trans k_A_0; replace k_A_1 : wb.cell? ⟨w.heap.size, 1, none⟩ = some (.slice a2 na2 ca2) := (hb.cell (p := ⟨w.heap.size, 1, none⟩) hl_A).trans k_A_1; replace k_A_2 : wb.cell? ⟨w.heap.size, 2, none⟩ = some (.slice d2 nd2 cd2) := (hb.cell (p := ⟨w.heap.size, 2, none⟩) hl_A).trans k_A_2; replace f_A : ∀ o, wb.frozen? ⟨w.heap.size, o, none⟩ = false := fun o => (hb.frozen (p := ⟨w.heap.size, o, none⟩) hl_A).trans (f_A o); replace HX_A := Lib.hid (HX_A.out.below hb); replace HR := Lib.hid (HR.out.below hb); replace HB := Lib.hid (HB.out.trans (hb.mono hs0)); replace hN : N ≤ wb.heap.size := Nat.le_trans hN hb.size; replace hs0 : w.heap.size ≤ wb.heap.size := Nat.le_trans hs0 hb.size; replace hl_A : w.heap.size < wb.heap.size := Nat.lt_of_lt_of_le hl_A hb.size; replace HAA := Lib.hid (HAA.out.below hb); replace HRW := Lib.hid (HRW.out.below hb); clear hb; skip))
            have c2 := World.rowIs.cell HRW.out hx
            have f2 := World.rowIs.frozen HRW.out x
            go_wp2_with fail
            go_roundw
            case rel =>
              refine ⟨R + 1, by omega, by go_num, (World.rowIs.set HRW.out x _).congr (fun j hj => ?_), Lib.hid (fun k hk => ?_), HBZ_wb.out.setCell (Nat.le_refl _) _⟩
              · rw [rnk_step HPM.out HST.out hrn hj, EX.out]
                by_cases e : j = x
                · rw [if_pos e, if_pos e]
                · rw [if_neg e, if_neg e]
              · rcases Nat.lt_or_ge k R with h | h
                · exact hin.out k h
                · obtain rfl : k = R := by omega
                  rw [EX.out, HM.out]; exact of_decide_eq_true HV.out
            case measure => simp [intOf]; omega
    · obtain rfl : n = r := by omega
      go_wp2_with fail
      have HBS := Lib.hid (Rw.bs (World.rowIs.congr HRW.out (fun j hj => by rw [hol_eq HGE.out HPM.out HST.out hin.out (fun h => absurd h (by omega)) hj])) (by unfold maxLen; omega) : Bs _ _ n n (holQ q n al))
      go_ret2
      exact ⟨_, _, rfl, HBS.out, HB.out⟩
end Go.Proofs.YtnillajhhimeiaaGreatDoor
