/- Contracts of enemy.Are and of the reference's Has. No condition. -/
import Derived.Test.YtonnbcongnkcdaaEnF
namespace Go.Proofs.Ytonnbcongnkcdaa
open Go.RowKit

/-- the slice holds the n numbers zs -/
def Zl (w : World) (a : Option Addr) (n cap : Nat) (zs : List Int) : Prop :=
  zs.length = n ∧ n ≤ cap ∧ cap ≤ maxLen ∧ (0 < n → ∃ b off, a = some ⟨b, off, none⟩ ∧ ∀ j, j < n → w.cell? ⟨b, off + j, none⟩ = some (.int .i64 (zs.getD j 0)))
theorem Zl.below {w w' : World} {a : Option Addr} {n cap : Nat} {zs : List Int} (h : Zl w a n cap zs) (hb : Below w.heap.size w w') : Zl w' a n cap zs := by
  obtain ⟨h0, h1, h2, h3⟩ := h
  refine ⟨h0, h1, h2, fun hn => ?_⟩
  obtain ⟨b, off, e, hc⟩ := h3 hn
  exact ⟨b, off, e, fun j hj => cell_mono (hc j hj) hb⟩
theorem getD_lt1 {L : List Int} {k : Nat} (h : k < L.length) : L.getD k 0 = L[k] := by simp [List.getD, h]
/-- are a and b enemies -/
def areP (L : List (Int × Int)) (a b : Int) : Bool := decide (a ≠ b) && L.any fun p => decide (ordP p.1 p.2 = ordP a b)
theorem any_take {α : Type} {f : α → Bool} {L : List α} {k : Nat} (h : k < L.length) (h0 : (L.take k).any f = false) : (L.take (k + 1)).any f = f L[k] := by rw [take_snoc h, List.any_append, h0]; simp
theorem any_yes {α : Type} {f : α → Bool} {L : List α} {k : Nat} (h : k < L.length) (h0 : f L[k] = true) : L.any f = true := List.any_eq_true.2 ⟨_, List.getElem_mem h, h0⟩

set_option maxHeartbeats 2000000 in
theorem has_any (a : Option Addr) (n cap : Nat) (zs : List Int) (x : Int) (w : World) (h : Zl w a n cap zs) (c : Bool) (hc : zs.any (fun y => y == x) = c) :
    Calls Try.prog 39 #[.slice a n cap, .int .i64 x] w fun e w' => e = .returned (.bool c) ∧ w' = w := by
  have HZ := Lib.hid h
  have b1 := h.2.1
  have b2 := h.2.2.1
  have b0 := h.1
  unfold maxLen at b2
  have HLN := Lib.hid b0
  have HC := Lib.hid hc
  clear h b0 hc
  go_enter Try.func39, Try.ntmps39
  go_wp2_with fail
  go_loopw [5] (fun i wr => ∃ k : Nat, k ≤ n ∧ i = .int .i64 k ∧ Hid ((zs.take k).any (fun y => y == x) = false) ∧ w = wr) (fun i _ => n - (intOf i).toNat)
  case atStart => exact ⟨0, Nat.zero_le _, rfl, Lib.hid rfl, rfl⟩
  case round =>
    obtain ⟨k, hk, rfl, hin, rfl⟩ := hrel
    by_cases hkn : k < n
    · obtain ⟨b, off, rfl, hcc⟩ := HZ.out.2.2.2 (by omega)
      have hkL : k < zs.length := by have := HLN.out; omega
      have g0 := hcc k hkn
      rw [getD_lt1 hkL] at g0
      obtain ⟨y, hy⟩ : ∃ y, zs[k] = y := ⟨_, rfl⟩
      rw [hy] at g0
      have HY := Lib.hid hy
      clear hcc hy
      have hix0 : (0 : Int) ≤ (k : Int) := by omega
      have hix1 : (k : Int) < (n : Int) := by omega
      by_cases hyx : y = x
      · subst hyx
        obtain rfl : true = c := by rw [← HC.out]; exact (any_yes hkL (by rw [HY.out]; simp)).symm
        go_wp2_with fail
        go_ret
        exact ⟨rfl, rfl⟩
      · have hb1 : (y == x) = false := by simpa using hyx
        have HN := Lib.hid (show (zs.take (k + 1)).any (fun y => y == x) = false by rw [any_take hkL hin.out, HY.out]; exact hb1)
        go_wp2_with fail
        go_roundw
        case rel => exact ⟨k + 1, by omega, by go_num, HN, by first | rfl | trivial⟩
        case measure => simp [intOf]; omega
    · obtain rfl : k = n := by omega
      obtain rfl : false = c := by rw [← HC.out, ← hin.out, List.take_of_length_le (by rw [HLN.out]; exact Nat.le_refl _)]
      go_wp2_with fail
      go_ret
      exact ⟨rfl, rfl⟩
def AreJtrue (g9 _g7 : Nat) (x y p q u v : Int) (W : World) (z0 : Act) (L : Nat → Bool) (z1 : Act) (w : World) : Prop :=
  ∃ u22 u23 u24 u25 u26 u27 u28, z1 = (((((((z0.put (some 22) u22).put (some 23) u23).put (some 24) u24).put (some 25) u25).put (some 26) u26).put (some 27) u27).put (some 28) u28) ∧ Since W w ∧ (L 0 = true → u22 = .pointer (some ⟨g9, 0, none⟩)) ∧ (L 1 = true → u23 = .int .i64 x) ∧ (L 2 = true → u24 = .pointer (some ⟨g9, 1, none⟩)) ∧ (L 3 = true → u25 = .int .i64 y) ∧ (L 4 = true → u26 = .agg #[.int .i64 p, .int .i64 q]) ∧ (L 5 = true → u27 = .agg #[.int .i64 u, .int .i64 v]) ∧ (L 6 = true → u28 = .bool true)

def AreJfalse (g9 _g7 : Nat) (x y p q u v : Int) (W : World) (z0 : Act) (L : Nat → Bool) (z1 : Act) (w : World) : Prop :=
  ∃ u22 u23 u24 u25 u26 u27 u28, z1 = (((((((z0.put (some 22) u22).put (some 23) u23).put (some 24) u24).put (some 25) u25).put (some 26) u26).put (some 27) u27).put (some 28) u28) ∧ Since W w ∧ (L 0 = true → u22 = .pointer (some ⟨g9, 0, none⟩)) ∧ (L 1 = true → u23 = .int .i64 x) ∧ (L 2 = true → u24 = .pointer (some ⟨g9, 1, none⟩)) ∧ (L 3 = true → u25 = .int .i64 y) ∧ (L 4 = true → u26 = .agg #[.int .i64 p, .int .i64 q]) ∧ (L 5 = true → u27 = .agg #[.int .i64 u, .int .i64 v]) ∧ (L 6 = true → u28 = .bool false)


set_option maxRecDepth 20000 in
set_option maxHeartbeats 8000000 in
theorem are_any (a : Option Addr) (n cap : Nat) (L : List (Int × Int)) (x0 y0 : Int) (w : World) (h : Pr w a n cap L) (c : Bool) (hc : areP L x0 y0 = c) :
    Calls Try.prog 18 #[.slice a n cap, .int .i64 x0, .int .i64 y0] w fun e w' => e = .returned (.bool c) ∧ Below w.heap.size w w' := by
  have HPL := Lib.hid h
  have b1 := h.2.1
  have b2 := h.2.2.1
  have b0 := h.1
  unfold maxLen at b2
  have HLN := Lib.hid b0
  clear h b0
  have HB := Lib.hid (Below.refl w.heap.size w)
  have HC := Lib.hid hc
  clear hc
  by_cases hxy : x0 = y0
  · subst hxy
    obtain rfl : false = c := by rw [← HC.out]; simp [areP]
    go_enter Try.func18, Try.ntmps18
    go_wp2_with fail
    go_ret
    exact ⟨rfl, Below.refl _ _⟩
  · have hb0 : (x0 == y0) = false := by simpa using hxy
    have HC2 := Lib.hid (show (L.any fun p => decide (ordP p.1 p.2 = ordP x0 y0)) = c by rw [← HC.out]; simp [areP, hxy])
    clear hxy HC
    obtain ⟨u, v, huv⟩ : ∃ u v, ordP x0 y0 = (u, v) := ⟨_, _, rfl⟩
    have HUV := Lib.hid huv
    rw [huv] at HC2
    clear huv
    go_enter Try.func18, Try.ntmps18
    go_wp2_with fail
    refine calls_name fun W0 hW => ?_
    have hs_W0 : w.heap.size ≤ W0.heap.size := by rw [← hW]; (first | omega | (simp; done) | (simp; omega))
    have hs0_W0 : w.heap.size ≤ W0.heap.size := by rw [← hW]; (first | omega | (simp; done) | (simp; omega))
    have HB_W0 := Lib.hid (show Below w.heap.size w W0 by rw [← hW]; (repeat' (first | with_reducible exact Below.refl _ _ | with_reducible exact HB.out | (with_reducible refine Below.alloc ?_ ?_ _; rotate_left; (focus (first | omega | (simp; done) | (simp; omega)))) | with_reducible apply Below.drew | (with_reducible refine Below.setCell ?_ ?_ _; rotate_left; (focus (first | omega | (simp; done) | (simp; omega)))))))
    have HL_W0 := Lib.hid (show Below w.heap.size w W0 by rw [← hW]; (repeat' (first | with_reducible exact Below.refl _ _ | (with_reducible refine Below.alloc ?_ ?_ _; rotate_left; (focus (first | omega | (simp; done) | (simp; omega)))) | with_reducible apply Below.drew | (with_reducible refine Below.setCell ?_ ?_ _; rotate_left; (focus (first | omega | (simp; done) | (simp; omega)))))))
    have HPL_W0 := Lib.hid (HPL.out.below HL_W0.out)
    clear HL_W0
    clear hW
    clear HB
    have HB := HB_W0
    have hs0 := hs0_W0
    clear HB_W0 hs0_W0
    clear HPL
    have HPL := HPL_W0
    clear HPL_W0
    refine (ord_any x0 y0 u v _ HUV.out).mono ?_
    rintro e wO ⟨rfl, hb⟩
    have HPL_wO := Lib.hid (HPL.out.below hb)
    have hs_wO : W0.heap.size ≤ wO.heap.size := hb.size
    have hs0_wO : w.heap.size ≤ wO.heap.size := Nat.le_trans hs0 hb.size
    have HB_wO := Lib.hid (HB.out.trans (hb.mono hs0))
    clear hb
    clear HB hs0
    have HB := HB_wO
    have hs0 := hs0_wO
    clear HB_wO hs0_wO
    clear HPL
    have HPL := HPL_wO
    clear HPL_wO
    go_wp2_with fail
    refine block_nameP fun W1 hW => ?_
    have hs_W1 : wO.heap.size ≤ W1.heap.size := by rw [← hW]; (first | omega | (simp; done) | (simp; omega))
    have hs0_W1 : w.heap.size ≤ W1.heap.size := by rw [← hW]; (first | omega | (simp; done) | (simp; omega))
    have hl_O_W1 : wO.heap.size < W1.heap.size := by rw [← hW]; (first | omega | (simp; done) | (simp; omega))
    have k_O_0_W1 : W1.cell? ⟨wO.heap.size, 0, none⟩ = some (.int .i64 u) := by rw [← hW]; (first | (go_simp; done) | (simp; done) | (simp [go_sem]; done) | (simp [go_sem]; done))
    have k_O_1_W1 : W1.cell? ⟨wO.heap.size, 1, none⟩ = some (.int .i64 v) := by rw [← hW]; (first | (go_simp; done) | (simp; done) | (simp [go_sem]; done) | (simp [go_sem]; done))
    have f_O_W1 : ∀ o, W1.frozen? ⟨wO.heap.size, o, none⟩ = false := by intro o; rw [← hW]; (first | (go_simp; done) | (simp; done) | (simp [go_sem]; done) | (simp [go_sem]; done))
    have HX_O_W1 := Lib.hid (show Bn W1 (wO.heap.size) by rw [← hW]; (repeat' (first | with_reducible exact Kp.refl _ _ | with_reducible apply Kp.alloc | with_reducible apply Kp.drew | (with_reducible refine Kp.put ?_ ?_ ?_ _; rotate_left; (focus (first | omega | (simp; done) | (simp; omega))); rotate_left) | (with_reducible refine Bn.new _ _ _ _ ?_ ?_; (focus (first | omega | (simp; done) | (simp; omega))); decide) | with_reducible apply Bn.alloc | with_reducible apply Bn.drew | with_reducible apply Bn.set)))
    have HB_W1 := Lib.hid (show Below w.heap.size w W1 by rw [← hW]; (repeat' (first | with_reducible exact Below.refl _ _ | with_reducible exact HB.out | (with_reducible refine Below.alloc ?_ ?_ _; rotate_left; (focus (first | omega | (simp; done) | (simp; omega)))) | with_reducible apply Below.drew | (with_reducible refine Below.setCell ?_ ?_ _; rotate_left; (focus (first | omega | (simp; done) | (simp; omega)))))))
    have HL_W1 := Lib.hid (show Below wO.heap.size wO W1 by rw [← hW]; (repeat' (first | with_reducible exact Below.refl _ _ | (with_reducible refine Below.alloc ?_ ?_ _; rotate_left; (focus (first | omega | (simp; done) | (simp; omega)))) | with_reducible apply Below.drew | (with_reducible refine Below.setCell ?_ ?_ _; rotate_left; (focus (first | omega | (simp; done) | (simp; omega)))))))
    have HPL_W1 := Lib.hid (HPL.out.below HL_W1.out)
    clear HL_W1
    clear hW
    clear HB hs0
    have HB := HB_W1
    have hs0 := hs0_W1
    have hl_O := hl_O_W1
    have f_O := f_O_W1
    have HX_O := HX_O_W1
    have k_O_0 := k_O_0_W1
    have k_O_1 := k_O_1_W1
    clear HB_W1 hs0_W1 hl_O_W1 f_O_W1 HX_O_W1 k_O_0_W1 k_O_1_W1
    clear HPL
    have HPL := HPL_W1
    clear HPL_W1
    go_loopw [9, 18] (fun _ i wr => ∃ k : Nat, k ≤ n ∧ i = .int .i64 k ∧ Hid ((L.take k).any (fun p => decide (ordP p.1 p.2 = (u, v))) = false) ∧ Below W1.heap.size W1 wr) (fun _ i _ => n - (intOf i).toNat)
    case atStart => exact ⟨0, Nat.zero_le _, rfl, Lib.hid rfl, Below.refl _ _⟩
    case round =>
      obtain ⟨k, hk, rfl, hin, hbel⟩ := hrel
      have HB0 := HB
      have hsw := hs0
      replace HB := Lib.hid hbel
      replace hs0 := hbel.size
      replace HPL := Lib.hid (HPL.out.below hbel)
      have hl_O' : wO.heap.size < wr.heap.size := Nat.lt_of_lt_of_le hl_O hbel.size
      have k_O_0' : wr.cell? ⟨wO.heap.size, 0, none⟩ = some (.int .i64 u) := (hbel.cell (p := ⟨wO.heap.size, 0, none⟩) hl_O).trans k_O_0
      have k_O_1' : wr.cell? ⟨wO.heap.size, 1, none⟩ = some (.int .i64 v) := (hbel.cell (p := ⟨wO.heap.size, 1, none⟩) hl_O).trans k_O_1
      have f_O' : ∀ o, wr.frozen? ⟨wO.heap.size, o, none⟩ = false := fun o => (hbel.frozen (p := ⟨wO.heap.size, o, none⟩) hl_O).trans (f_O o)
      have HX_O' := Lib.hid (HX_O.out.below hbel)
      clear hl_O f_O HX_O k_O_0 k_O_1
      have hl_O := hl_O'
      have f_O := f_O'
      have HX_O := HX_O'
      have k_O_0 := k_O_0'
      have k_O_1 := k_O_1'
      clear hl_O' f_O' HX_O' k_O_0' k_O_1'
      clear hbel
      by_cases hkn : k < n
      · obtain ⟨b, off, rfl, hcc⟩ := HPL.out.2.2.2 (by omega)
        have hkL : k < L.length := by have := HLN.out; omega
        obtain ⟨g0, g1⟩ := hcc k hkn
        rw [getD_lt hkL] at g0 g1
        obtain ⟨x, y, exy⟩ : ∃ x y, L[k] = (x, y) := ⟨_, _, rfl⟩
        rw [exy] at g0 g1
        simp only at g0 g1
        have HXY := Lib.hid exy
        obtain ⟨p, q, hpq⟩ : ∃ p q, ordP x y = (p, q) := ⟨_, _, rfl⟩
        have HPQ := Lib.hid hpq
        have hix0 : (0 : Int) ≤ (k : Int) := by omega
        have hix1 : (k : Int) < (n : Int) := by omega
        obtain ⟨W9, hW9⟩ : ∃ W, W = wr := ⟨_, rfl⟩
        clear hcc exy hpq
        go_wp2_with fail
        refine region_name fun W2 hW => ?_
        have HL_W2 := Lib.hid (show Below wr.heap.size wr W2 by rw [← hW]; (repeat' (first | with_reducible exact Below.refl _ _ | (with_reducible refine Below.alloc ?_ ?_ _; rotate_left; (focus (first | omega | (simp; done) | (simp; omega)))) | with_reducible apply Below.drew | (with_reducible refine Below.setCell ?_ ?_ _; rotate_left; (focus (first | omega | (simp; done) | (simp; omega)))))))
        have hs_W2 : wr.heap.size ≤ W2.heap.size := by rw [← hW]; (first | omega | (simp; done) | (simp; omega))
        have hs0_W2 : W1.heap.size ≤ W2.heap.size := by rw [← hW]; (first | omega | (simp; done) | (simp; omega))
        have hd_O_I : wO.heap.size < wr.heap.size := by omega
        have hl_O_W2 : wO.heap.size < W2.heap.size := by rw [← hW]; (first | omega | (simp; done) | (simp; omega))
        have k_O_0_W2 : W2.cell? ⟨wO.heap.size, 0, none⟩ = some (.int .i64 u) := (HL_W2.out.cell (p := ⟨wO.heap.size, 0, none⟩) hl_O).trans k_O_0
        have k_O_1_W2 : W2.cell? ⟨wO.heap.size, 1, none⟩ = some (.int .i64 v) := (HL_W2.out.cell (p := ⟨wO.heap.size, 1, none⟩) hl_O).trans k_O_1
        have f_O_W2 : ∀ o, W2.frozen? ⟨wO.heap.size, o, none⟩ = false := fun o => (HL_W2.out.frozen (p := ⟨wO.heap.size, o, none⟩) hl_O).trans (f_O o)
        have HX_O_W2 := Lib.hid (show Bn W2 (wO.heap.size) by rw [← hW]; (repeat' (first | with_reducible exact Kp.refl _ _ | with_reducible exact HX_O.out | with_reducible apply Kp.alloc | with_reducible apply Kp.drew | (with_reducible refine Kp.put ?_ ?_ ?_ _; rotate_left; (focus (first | omega | (simp; done) | (simp; omega))); rotate_left) | (with_reducible refine Bn.new _ _ _ _ ?_ ?_; (focus (first | omega | (simp; done) | (simp; omega))); decide) | with_reducible apply Bn.alloc | with_reducible apply Bn.drew | with_reducible apply Bn.set)))
        have hl_I_W2 : wr.heap.size < W2.heap.size := by rw [← hW]; (first | omega | (simp; done) | (simp; omega))
        have k_I_0_W2 : W2.cell? ⟨wr.heap.size, 0, none⟩ = some (.int .i64 x) := by rw [← hW]; (first | (go_simp; done) | (simp; done) | (simp [go_sem]; done) | (simp [go_sem, k_O_0, k_O_1, f_O, hl_O]; done))
        have k_I_1_W2 : W2.cell? ⟨wr.heap.size, 1, none⟩ = some (.int .i64 y) := by rw [← hW]; (first | (go_simp; done) | (simp; done) | (simp [go_sem]; done) | (simp [go_sem, k_O_0, k_O_1, f_O, hl_O]; done))
        have f_I_W2 : ∀ o, W2.frozen? ⟨wr.heap.size, o, none⟩ = false := by intro o; rw [← hW]; (first | (go_simp; done) | (simp; done) | (simp [go_sem]; done) | (simp [go_sem, k_O_0, k_O_1, f_O, hl_O]; done))
        have HX_I_W2 := Lib.hid (show Bn W2 (wr.heap.size) by rw [← hW]; (repeat' (first | with_reducible exact Kp.refl _ _ | with_reducible exact HX_O.out | with_reducible apply Kp.alloc | with_reducible apply Kp.drew | (with_reducible refine Kp.put ?_ ?_ ?_ _; rotate_left; (focus (first | omega | (simp; done) | (simp; omega))); rotate_left) | (with_reducible refine Bn.new _ _ _ _ ?_ ?_; (focus (first | omega | (simp; done) | (simp; omega))); decide) | with_reducible apply Bn.alloc | with_reducible apply Bn.drew | with_reducible apply Bn.set)))
        have HB_W2 := Lib.hid (show Below W1.heap.size W1 W2 by rw [← hW]; (repeat' (first | with_reducible exact Below.refl _ _ | with_reducible exact HB.out | (with_reducible refine Below.alloc ?_ ?_ _; rotate_left; (focus (first | omega | (simp; done) | (simp; omega)))) | with_reducible apply Below.drew | (with_reducible refine Below.setCell ?_ ?_ _; rotate_left; (focus (first | omega | (simp; done) | (simp; omega)))))))
        clear HL_W2
        clear hW
        clear hl_O f_O HX_O k_O_0 k_O_1 HB hs0
        have HB := HB_W2
        have hs0 := hs0_W2
        have hl_O := hl_O_W2
        have f_O := f_O_W2
        have HX_O := HX_O_W2
        have k_O_0 := k_O_0_W2
        have k_O_1 := k_O_1_W2
        have hl_I := hl_I_W2
        have f_I := f_I_W2
        have HX_I := HX_I_W2
        have k_I_0 := k_I_0_W2
        have k_I_1 := k_I_1_W2
        clear HB_W2 hs0_W2 hl_O_W2 f_O_W2 HX_O_W2 k_O_0_W2 k_O_1_W2 hl_I_W2 f_I_W2 HX_I_W2 k_I_0_W2 k_I_1_W2
        subst hW9
        by_cases e1 : u = p
        · subst e1
          by_cases e2 : v = q
          · subst e2
            obtain rfl : true = c := by rw [← HC2.out]; exact (any_yes hkL (by rw [HXY.out]; simp only; rw [HPQ.out]; simp)).symm
            refine region_inv2 (by kernel_rfl) (AreJtrue W9.heap.size wO.heap.size x y u v u v (W2)) ?_ ?_ ?_ ?_
            · exact ⟨u22, u23, u24, u25, u26, u27, u28, by simp only [Act.put, List.setIfInBounds_toArray, List.set_cons_zero, List.set_cons_succ], Since.drawn _, (fun h => by cases h), (fun h => by cases h), (fun h => by cases h), (fun h => by cases h), (fun h => by cases h), (fun h => by cases h), (fun h => by cases h)⟩
            · exact acyc_spec (by kernel_rfl)
            · intro Ls a0 wq i o ho hLi hafter hJ
              obtain ⟨u22, u23, u24, u25, u26, u27, u28, rfl, hS, p0, p1, p2, p3, p4, p5, p6⟩ := hJ
              have hi : i < 7 := (Array.getElem?_eq_some_iff.1 ho).1
              obtain rfl | rfl | rfl | rfl | rfl | rfl | rfl : i = 0 ∨ i = 1 ∨ i = 2 ∨ i = 3 ∨ i = 4 ∨ i = 5 ∨ i = 6 := by omega
              · simp only [List.getElem?_toArray, List.getElem?_cons_zero, Option.some.injEq] at ho
                subst ho
                have P0 := Lib.hid p0
                have P1 := Lib.hid p1
                have P2 := Lib.hid p2
                have P3 := Lib.hid p3
                have P4 := Lib.hid p4
                have P5 := Lib.hid p5
                have P6 := Lib.hid p6
                have HS := Lib.hid hS
                clear hS hLi hafter p0 p1 p2 p3 p4 p5 p6
                simp only [Act.put, List.setIfInBounds_toArray, List.set_cons_zero, List.set_cons_succ]
                go_wp2_with fail
                exact ⟨.pointer (some ⟨W9.heap.size, 0, none⟩), u23, u24, u25, u26, u27, u28, by simp only [Act.put, List.setIfInBounds_toArray, List.set_cons_zero, List.set_cons_succ], HS.out, (fun _ => rfl), (fun h => by first | rfl | exact P1.out (by simpa using h)), (fun h => by first | rfl | exact P2.out (by simpa using h)), (fun h => by first | rfl | exact P3.out (by simpa using h)), (fun h => by first | rfl | exact P4.out (by simpa using h)), (fun h => by first | rfl | exact P5.out (by simpa using h)), (fun h => by first | rfl | exact P6.out (by simpa using h))⟩
              · simp only [List.getElem?_toArray, List.getElem?_cons_zero, List.getElem?_cons_succ, Option.some.injEq] at ho
                subst ho
                obtain rfl := p0 (hafter ⟨0, .data⟩ (by simp) rfl)
                have c0 := (hS.1.cell (p := ⟨W9.heap.size, 0, none⟩) hl_I).trans k_I_0
                have P0 := Lib.hid p0
                have P1 := Lib.hid p1
                have P2 := Lib.hid p2
                have P3 := Lib.hid p3
                have P4 := Lib.hid p4
                have P5 := Lib.hid p5
                have P6 := Lib.hid p6
                have HS := Lib.hid hS
                clear hS hLi hafter p0 p1 p2 p3 p4 p5 p6
                simp only [Act.put, List.setIfInBounds_toArray, List.set_cons_zero, List.set_cons_succ]
                go_wp2_with fail
                exact ⟨.pointer (some ⟨W9.heap.size, 0, none⟩), .int .i64 x, u24, u25, u26, u27, u28, by simp only [Act.put, List.setIfInBounds_toArray, List.set_cons_zero, List.set_cons_succ], HS.out, (fun h => by first | rfl | exact P0.out (by simpa using h)), (fun _ => rfl), (fun h => by first | rfl | exact P2.out (by simpa using h)), (fun h => by first | rfl | exact P3.out (by simpa using h)), (fun h => by first | rfl | exact P4.out (by simpa using h)), (fun h => by first | rfl | exact P5.out (by simpa using h)), (fun h => by first | rfl | exact P6.out (by simpa using h))⟩
              · simp only [List.getElem?_toArray, List.getElem?_cons_zero, List.getElem?_cons_succ, Option.some.injEq] at ho
                subst ho
                have P0 := Lib.hid p0
                have P1 := Lib.hid p1
                have P2 := Lib.hid p2
                have P3 := Lib.hid p3
                have P4 := Lib.hid p4
                have P5 := Lib.hid p5
                have P6 := Lib.hid p6
                have HS := Lib.hid hS
                clear hS hLi hafter p0 p1 p2 p3 p4 p5 p6
                simp only [Act.put, List.setIfInBounds_toArray, List.set_cons_zero, List.set_cons_succ]
                go_wp2_with fail
                exact ⟨u22, u23, .pointer (some ⟨W9.heap.size, 1, none⟩), u25, u26, u27, u28, by simp only [Act.put, List.setIfInBounds_toArray, List.set_cons_zero, List.set_cons_succ], HS.out, (fun h => by first | rfl | exact P0.out (by simpa using h)), (fun h => by first | rfl | exact P1.out (by simpa using h)), (fun _ => rfl), (fun h => by first | rfl | exact P3.out (by simpa using h)), (fun h => by first | rfl | exact P4.out (by simpa using h)), (fun h => by first | rfl | exact P5.out (by simpa using h)), (fun h => by first | rfl | exact P6.out (by simpa using h))⟩
              · simp only [List.getElem?_toArray, List.getElem?_cons_zero, List.getElem?_cons_succ, Option.some.injEq] at ho
                subst ho
                obtain rfl := p2 (hafter ⟨2, .data⟩ (by simp) rfl)
                have c1 := (hS.1.cell (p := ⟨W9.heap.size, 1, none⟩) hl_I).trans k_I_1
                have P0 := Lib.hid p0
                have P1 := Lib.hid p1
                have P2 := Lib.hid p2
                have P3 := Lib.hid p3
                have P4 := Lib.hid p4
                have P5 := Lib.hid p5
                have P6 := Lib.hid p6
                have HS := Lib.hid hS
                clear hS hLi hafter p0 p1 p2 p3 p4 p5 p6
                simp only [Act.put, List.setIfInBounds_toArray, List.set_cons_zero, List.set_cons_succ]
                go_wp2_with fail
                exact ⟨u22, u23, .pointer (some ⟨W9.heap.size, 1, none⟩), .int .i64 y, u26, u27, u28, by simp only [Act.put, List.setIfInBounds_toArray, List.set_cons_zero, List.set_cons_succ], HS.out, (fun h => by first | rfl | exact P0.out (by simpa using h)), (fun h => by first | rfl | exact P1.out (by simpa using h)), (fun h => by first | rfl | exact P2.out (by simpa using h)), (fun _ => rfl), (fun h => by first | rfl | exact P4.out (by simpa using h)), (fun h => by first | rfl | exact P5.out (by simpa using h)), (fun h => by first | rfl | exact P6.out (by simpa using h))⟩
              · simp only [List.getElem?_toArray, List.getElem?_cons_zero, List.getElem?_cons_succ, Option.some.injEq] at ho
                subst ho
                obtain rfl := p1 (hafter ⟨1, .data⟩ (by simp) rfl)
                obtain rfl := p3 (hafter ⟨3, .data⟩ (by simp) rfl)
                have P0 := Lib.hid p0
                have P1 := Lib.hid p1
                have P2 := Lib.hid p2
                have P3 := Lib.hid p3
                have P4 := Lib.hid p4
                have P5 := Lib.hid p5
                have P6 := Lib.hid p6
                have HS := Lib.hid hS
                clear hS hLi hafter p0 p1 p2 p3 p4 p5 p6
                simp only [Act.put, List.setIfInBounds_toArray, List.set_cons_zero, List.set_cons_succ]
                go_wp2_with fail
                refine (ord_any x y _ _ _ HPQ.out).mono ?_
                rintro e wn ⟨rfl, hb⟩
                have Hb := Lib.hid hb
                clear hb
                go_wp2_with fail
                exact ⟨u22, .int .i64 x, u24, .int .i64 y, .agg #[.int .i64 u, .int .i64 v], u27, u28, by simp only [Act.put, List.setIfInBounds_toArray, List.set_cons_zero, List.set_cons_succ], HS.out.below Hb.out, (fun h => by first | rfl | exact P0.out (by simpa using h)), (fun h => by first | rfl | exact P1.out (by simpa using h)), (fun h => by first | rfl | exact P2.out (by simpa using h)), (fun h => by first | rfl | exact P3.out (by simpa using h)), (fun _ => rfl), (fun h => by first | rfl | exact P5.out (by simpa using h)), (fun h => by first | rfl | exact P6.out (by simpa using h))⟩
              · simp only [List.getElem?_toArray, List.getElem?_cons_zero, List.getElem?_cons_succ, Option.some.injEq] at ho
                subst ho
                have c0 := (hS.1.cell (p := ⟨wO.heap.size, 0, none⟩) hl_O).trans k_O_0
                have c1 := (hS.1.cell (p := ⟨wO.heap.size, 1, none⟩) hl_O).trans k_O_1
                have P0 := Lib.hid p0
                have P1 := Lib.hid p1
                have P2 := Lib.hid p2
                have P3 := Lib.hid p3
                have P4 := Lib.hid p4
                have P5 := Lib.hid p5
                have P6 := Lib.hid p6
                have HS := Lib.hid hS
                clear hS hLi hafter p0 p1 p2 p3 p4 p5 p6
                simp only [Act.put, List.setIfInBounds_toArray, List.set_cons_zero, List.set_cons_succ]
                go_wp2_with fail
                exact ⟨u22, u23, u24, u25, u26, .agg #[.int .i64 u, .int .i64 v], u28, by simp only [Act.put, List.setIfInBounds_toArray, List.set_cons_zero, List.set_cons_succ], HS.out, (fun h => by first | rfl | exact P0.out (by simpa using h)), (fun h => by first | rfl | exact P1.out (by simpa using h)), (fun h => by first | rfl | exact P2.out (by simpa using h)), (fun h => by first | rfl | exact P3.out (by simpa using h)), (fun h => by first | rfl | exact P4.out (by simpa using h)), (fun _ => rfl), (fun h => by first | rfl | exact P6.out (by simpa using h))⟩
              · simp only [List.getElem?_toArray, List.getElem?_cons_zero, List.getElem?_cons_succ, Option.some.injEq] at ho
                subst ho
                obtain rfl := p4 (hafter ⟨4, .data⟩ (by simp) rfl)
                obtain rfl := p5 (hafter ⟨5, .data⟩ (by simp) rfl)
                have P0 := Lib.hid p0
                have P1 := Lib.hid p1
                have P2 := Lib.hid p2
                have P3 := Lib.hid p3
                have P4 := Lib.hid p4
                have P5 := Lib.hid p5
                have P6 := Lib.hid p6
                have HS := Lib.hid hS
                clear hS hLi hafter p0 p1 p2 p3 p4 p5 p6
                simp only [Act.put, List.setIfInBounds_toArray, List.set_cons_zero, List.set_cons_succ]
                go_wp2_with fail
                exact ⟨u22, u23, u24, u25, .agg #[.int .i64 u, .int .i64 v], .agg #[.int .i64 u, .int .i64 v], .bool true, by simp only [Act.put, List.setIfInBounds_toArray, List.set_cons_zero, List.set_cons_succ], HS.out, (fun h => by first | rfl | exact P0.out (by simpa using h)), (fun h => by first | rfl | exact P1.out (by simpa using h)), (fun h => by first | rfl | exact P2.out (by simpa using h)), (fun h => by first | rfl | exact P3.out (by simpa using h)), (fun h => by first | rfl | exact P4.out (by simpa using h)), (fun h => by first | rfl | exact P5.out (by simpa using h)), (fun _ => rfl)⟩
            · intro Ls a0 wq hall hJ
              obtain ⟨u22, u23, u24, u25, u26, u27, u28, rfl, hS, p0, p1, p2, p3, p4, p5, p6⟩ := hJ
              replace p0 := p0 (hall 0 (by decide))
              replace p1 := p1 (hall 1 (by decide))
              replace p2 := p2 (hall 2 (by decide))
              replace p3 := p3 (hall 3 (by decide))
              replace p4 := p4 (hall 4 (by decide))
              replace p5 := p5 (hall 5 (by decide))
              replace p6 := p6 (hall 6 (by decide))
              have hb := hS.1
              subst p6
              clear hall hS p0 p1 p2 p3 p4 p5
              have HBz := Lib.hid (HB0.out.trans ((HB.out.trans (hb.mono hs0)).mono hsw))
              clear hb
              simp only [Act.put, List.setIfInBounds_toArray, List.set_cons_zero, List.set_cons_succ]
              go_wp2_with fail
              go_ret
              exact ⟨rfl, HBz.out⟩
          · have hb2 : (q == v) = false := by simp; exact fun h => e2 h.symm
            have HNX := Lib.hid (show (L.take (k + 1)).any (fun p => decide (ordP p.1 p.2 = (u, v))) = false by rw [any_take hkL hin.out, HXY.out]; simp only; rw [HPQ.out]; simp; exact fun h => e2 h.symm)
            clear e2
            refine region_inv2 (by kernel_rfl) (AreJfalse W9.heap.size wO.heap.size x y u q u v (W2)) ?_ ?_ ?_ ?_
            · exact ⟨u22, u23, u24, u25, u26, u27, u28, by simp only [Act.put, List.setIfInBounds_toArray, List.set_cons_zero, List.set_cons_succ], Since.drawn _, (fun h => by cases h), (fun h => by cases h), (fun h => by cases h), (fun h => by cases h), (fun h => by cases h), (fun h => by cases h), (fun h => by cases h)⟩
            · exact acyc_spec (by kernel_rfl)
            · intro Ls a0 wq i o ho hLi hafter hJ
              obtain ⟨u22, u23, u24, u25, u26, u27, u28, rfl, hS, p0, p1, p2, p3, p4, p5, p6⟩ := hJ
              have hi : i < 7 := (Array.getElem?_eq_some_iff.1 ho).1
              obtain rfl | rfl | rfl | rfl | rfl | rfl | rfl : i = 0 ∨ i = 1 ∨ i = 2 ∨ i = 3 ∨ i = 4 ∨ i = 5 ∨ i = 6 := by omega
              · simp only [List.getElem?_toArray, List.getElem?_cons_zero, Option.some.injEq] at ho
                subst ho
                have P0 := Lib.hid p0
                have P1 := Lib.hid p1
                have P2 := Lib.hid p2
                have P3 := Lib.hid p3
                have P4 := Lib.hid p4
                have P5 := Lib.hid p5
                have P6 := Lib.hid p6
                have HS := Lib.hid hS
                clear hS hLi hafter p0 p1 p2 p3 p4 p5 p6
                simp only [Act.put, List.setIfInBounds_toArray, List.set_cons_zero, List.set_cons_succ]
                go_wp2_with fail
                exact ⟨.pointer (some ⟨W9.heap.size, 0, none⟩), u23, u24, u25, u26, u27, u28, by simp only [Act.put, List.setIfInBounds_toArray, List.set_cons_zero, List.set_cons_succ], HS.out, (fun _ => rfl), (fun h => by first | rfl | exact P1.out (by simpa using h)), (fun h => by first | rfl | exact P2.out (by simpa using h)), (fun h => by first | rfl | exact P3.out (by simpa using h)), (fun h => by first | rfl | exact P4.out (by simpa using h)), (fun h => by first | rfl | exact P5.out (by simpa using h)), (fun h => by first | rfl | exact P6.out (by simpa using h))⟩
              · simp only [List.getElem?_toArray, List.getElem?_cons_zero, List.getElem?_cons_succ, Option.some.injEq] at ho
                subst ho
                obtain rfl := p0 (hafter ⟨0, .data⟩ (by simp) rfl)
                have c0 := (hS.1.cell (p := ⟨W9.heap.size, 0, none⟩) hl_I).trans k_I_0
                have P0 := Lib.hid p0
                have P1 := Lib.hid p1
                have P2 := Lib.hid p2
                have P3 := Lib.hid p3
                have P4 := Lib.hid p4
                have P5 := Lib.hid p5
                have P6 := Lib.hid p6
                have HS := Lib.hid hS
                clear hS hLi hafter p0 p1 p2 p3 p4 p5 p6
                simp only [Act.put, List.setIfInBounds_toArray, List.set_cons_zero, List.set_cons_succ]
                go_wp2_with fail
                exact ⟨.pointer (some ⟨W9.heap.size, 0, none⟩), .int .i64 x, u24, u25, u26, u27, u28, by simp only [Act.put, List.setIfInBounds_toArray, List.set_cons_zero, List.set_cons_succ], HS.out, (fun h => by first | rfl | exact P0.out (by simpa using h)), (fun _ => rfl), (fun h => by first | rfl | exact P2.out (by simpa using h)), (fun h => by first | rfl | exact P3.out (by simpa using h)), (fun h => by first | rfl | exact P4.out (by simpa using h)), (fun h => by first | rfl | exact P5.out (by simpa using h)), (fun h => by first | rfl | exact P6.out (by simpa using h))⟩
              · simp only [List.getElem?_toArray, List.getElem?_cons_zero, List.getElem?_cons_succ, Option.some.injEq] at ho
                subst ho
                have P0 := Lib.hid p0
                have P1 := Lib.hid p1
                have P2 := Lib.hid p2
                have P3 := Lib.hid p3
                have P4 := Lib.hid p4
                have P5 := Lib.hid p5
                have P6 := Lib.hid p6
                have HS := Lib.hid hS
                clear hS hLi hafter p0 p1 p2 p3 p4 p5 p6
                simp only [Act.put, List.setIfInBounds_toArray, List.set_cons_zero, List.set_cons_succ]
                go_wp2_with fail
                exact ⟨u22, u23, .pointer (some ⟨W9.heap.size, 1, none⟩), u25, u26, u27, u28, by simp only [Act.put, List.setIfInBounds_toArray, List.set_cons_zero, List.set_cons_succ], HS.out, (fun h => by first | rfl | exact P0.out (by simpa using h)), (fun h => by first | rfl | exact P1.out (by simpa using h)), (fun _ => rfl), (fun h => by first | rfl | exact P3.out (by simpa using h)), (fun h => by first | rfl | exact P4.out (by simpa using h)), (fun h => by first | rfl | exact P5.out (by simpa using h)), (fun h => by first | rfl | exact P6.out (by simpa using h))⟩
              · simp only [List.getElem?_toArray, List.getElem?_cons_zero, List.getElem?_cons_succ, Option.some.injEq] at ho
                subst ho
                obtain rfl := p2 (hafter ⟨2, .data⟩ (by simp) rfl)
                have c1 := (hS.1.cell (p := ⟨W9.heap.size, 1, none⟩) hl_I).trans k_I_1
                have P0 := Lib.hid p0
                have P1 := Lib.hid p1
                have P2 := Lib.hid p2
                have P3 := Lib.hid p3
                have P4 := Lib.hid p4
                have P5 := Lib.hid p5
                have P6 := Lib.hid p6
                have HS := Lib.hid hS
                clear hS hLi hafter p0 p1 p2 p3 p4 p5 p6
                simp only [Act.put, List.setIfInBounds_toArray, List.set_cons_zero, List.set_cons_succ]
                go_wp2_with fail
                exact ⟨u22, u23, .pointer (some ⟨W9.heap.size, 1, none⟩), .int .i64 y, u26, u27, u28, by simp only [Act.put, List.setIfInBounds_toArray, List.set_cons_zero, List.set_cons_succ], HS.out, (fun h => by first | rfl | exact P0.out (by simpa using h)), (fun h => by first | rfl | exact P1.out (by simpa using h)), (fun h => by first | rfl | exact P2.out (by simpa using h)), (fun _ => rfl), (fun h => by first | rfl | exact P4.out (by simpa using h)), (fun h => by first | rfl | exact P5.out (by simpa using h)), (fun h => by first | rfl | exact P6.out (by simpa using h))⟩
              · simp only [List.getElem?_toArray, List.getElem?_cons_zero, List.getElem?_cons_succ, Option.some.injEq] at ho
                subst ho
                obtain rfl := p1 (hafter ⟨1, .data⟩ (by simp) rfl)
                obtain rfl := p3 (hafter ⟨3, .data⟩ (by simp) rfl)
                have P0 := Lib.hid p0
                have P1 := Lib.hid p1
                have P2 := Lib.hid p2
                have P3 := Lib.hid p3
                have P4 := Lib.hid p4
                have P5 := Lib.hid p5
                have P6 := Lib.hid p6
                have HS := Lib.hid hS
                clear hS hLi hafter p0 p1 p2 p3 p4 p5 p6
                simp only [Act.put, List.setIfInBounds_toArray, List.set_cons_zero, List.set_cons_succ]
                go_wp2_with fail
                refine (ord_any x y _ _ _ HPQ.out).mono ?_
                rintro e wn ⟨rfl, hb⟩
                have Hb := Lib.hid hb
                clear hb
                go_wp2_with fail
                exact ⟨u22, .int .i64 x, u24, .int .i64 y, .agg #[.int .i64 u, .int .i64 q], u27, u28, by simp only [Act.put, List.setIfInBounds_toArray, List.set_cons_zero, List.set_cons_succ], HS.out.below Hb.out, (fun h => by first | rfl | exact P0.out (by simpa using h)), (fun h => by first | rfl | exact P1.out (by simpa using h)), (fun h => by first | rfl | exact P2.out (by simpa using h)), (fun h => by first | rfl | exact P3.out (by simpa using h)), (fun _ => rfl), (fun h => by first | rfl | exact P5.out (by simpa using h)), (fun h => by first | rfl | exact P6.out (by simpa using h))⟩
              · simp only [List.getElem?_toArray, List.getElem?_cons_zero, List.getElem?_cons_succ, Option.some.injEq] at ho
                subst ho
                have c0 := (hS.1.cell (p := ⟨wO.heap.size, 0, none⟩) hl_O).trans k_O_0
                have c1 := (hS.1.cell (p := ⟨wO.heap.size, 1, none⟩) hl_O).trans k_O_1
                have P0 := Lib.hid p0
                have P1 := Lib.hid p1
                have P2 := Lib.hid p2
                have P3 := Lib.hid p3
                have P4 := Lib.hid p4
                have P5 := Lib.hid p5
                have P6 := Lib.hid p6
                have HS := Lib.hid hS
                clear hS hLi hafter p0 p1 p2 p3 p4 p5 p6
                simp only [Act.put, List.setIfInBounds_toArray, List.set_cons_zero, List.set_cons_succ]
                go_wp2_with fail
                exact ⟨u22, u23, u24, u25, u26, .agg #[.int .i64 u, .int .i64 v], u28, by simp only [Act.put, List.setIfInBounds_toArray, List.set_cons_zero, List.set_cons_succ], HS.out, (fun h => by first | rfl | exact P0.out (by simpa using h)), (fun h => by first | rfl | exact P1.out (by simpa using h)), (fun h => by first | rfl | exact P2.out (by simpa using h)), (fun h => by first | rfl | exact P3.out (by simpa using h)), (fun h => by first | rfl | exact P4.out (by simpa using h)), (fun _ => rfl), (fun h => by first | rfl | exact P6.out (by simpa using h))⟩
              · simp only [List.getElem?_toArray, List.getElem?_cons_zero, List.getElem?_cons_succ, Option.some.injEq] at ho
                subst ho
                obtain rfl := p4 (hafter ⟨4, .data⟩ (by simp) rfl)
                obtain rfl := p5 (hafter ⟨5, .data⟩ (by simp) rfl)
                have P0 := Lib.hid p0
                have P1 := Lib.hid p1
                have P2 := Lib.hid p2
                have P3 := Lib.hid p3
                have P4 := Lib.hid p4
                have P5 := Lib.hid p5
                have P6 := Lib.hid p6
                have HS := Lib.hid hS
                clear hS hLi hafter p0 p1 p2 p3 p4 p5 p6
                simp only [Act.put, List.setIfInBounds_toArray, List.set_cons_zero, List.set_cons_succ]
                go_wp2_with fail
                exact ⟨u22, u23, u24, u25, .agg #[.int .i64 u, .int .i64 q], .agg #[.int .i64 u, .int .i64 v], .bool false, by simp only [Act.put, List.setIfInBounds_toArray, List.set_cons_zero, List.set_cons_succ], HS.out, (fun h => by first | rfl | exact P0.out (by simpa using h)), (fun h => by first | rfl | exact P1.out (by simpa using h)), (fun h => by first | rfl | exact P2.out (by simpa using h)), (fun h => by first | rfl | exact P3.out (by simpa using h)), (fun h => by first | rfl | exact P4.out (by simpa using h)), (fun h => by first | rfl | exact P5.out (by simpa using h)), (fun _ => rfl)⟩
            · intro Ls a0 wq hall hJ
              obtain ⟨u22, u23, u24, u25, u26, u27, u28, rfl, hS, p0, p1, p2, p3, p4, p5, p6⟩ := hJ
              replace p0 := p0 (hall 0 (by decide))
              replace p1 := p1 (hall 1 (by decide))
              replace p2 := p2 (hall 2 (by decide))
              replace p3 := p3 (hall 3 (by decide))
              replace p4 := p4 (hall 4 (by decide))
              replace p5 := p5 (hall 5 (by decide))
              replace p6 := p6 (hall 6 (by decide))
              have hb := hS.1
              subst p6
              clear hall hS p0 p1 p2 p3 p4 p5
              have HBz := Lib.hid (HB.out.trans (hb.mono hs0))
              clear hb
              simp only [Act.put, List.setIfInBounds_toArray, List.set_cons_zero, List.set_cons_succ]
              go_wp2_with fail
              go_roundw
              case rel => exact ⟨k + 1, by omega, by go_num, HNX, HBz.out⟩
              case measure => simp [intOf]; omega
        · have hb1 : (p == u) = false := by simp; exact fun h => e1 h.symm
          have HNX := Lib.hid (show (L.take (k + 1)).any (fun p => decide (ordP p.1 p.2 = (u, v))) = false by rw [any_take hkL hin.out, HXY.out]; simp only; rw [HPQ.out]; simp; exact fun h => absurd h.symm e1)
          clear e1
          refine region_inv2 (by kernel_rfl) (AreJfalse W9.heap.size wO.heap.size x y p q u v (W2)) ?_ ?_ ?_ ?_
          · exact ⟨u22, u23, u24, u25, u26, u27, u28, by simp only [Act.put, List.setIfInBounds_toArray, List.set_cons_zero, List.set_cons_succ], Since.drawn _, (fun h => by cases h), (fun h => by cases h), (fun h => by cases h), (fun h => by cases h), (fun h => by cases h), (fun h => by cases h), (fun h => by cases h)⟩
          · exact acyc_spec (by kernel_rfl)
          · intro Ls a0 wq i o ho hLi hafter hJ
            obtain ⟨u22, u23, u24, u25, u26, u27, u28, rfl, hS, p0, p1, p2, p3, p4, p5, p6⟩ := hJ
            have hi : i < 7 := (Array.getElem?_eq_some_iff.1 ho).1
            obtain rfl | rfl | rfl | rfl | rfl | rfl | rfl : i = 0 ∨ i = 1 ∨ i = 2 ∨ i = 3 ∨ i = 4 ∨ i = 5 ∨ i = 6 := by omega
            · simp only [List.getElem?_toArray, List.getElem?_cons_zero, Option.some.injEq] at ho
              subst ho
              have P0 := Lib.hid p0
              have P1 := Lib.hid p1
              have P2 := Lib.hid p2
              have P3 := Lib.hid p3
              have P4 := Lib.hid p4
              have P5 := Lib.hid p5
              have P6 := Lib.hid p6
              have HS := Lib.hid hS
              clear hS hLi hafter p0 p1 p2 p3 p4 p5 p6
              simp only [Act.put, List.setIfInBounds_toArray, List.set_cons_zero, List.set_cons_succ]
              go_wp2_with fail
              exact ⟨.pointer (some ⟨W9.heap.size, 0, none⟩), u23, u24, u25, u26, u27, u28, by simp only [Act.put, List.setIfInBounds_toArray, List.set_cons_zero, List.set_cons_succ], HS.out, (fun _ => rfl), (fun h => by first | rfl | exact P1.out (by simpa using h)), (fun h => by first | rfl | exact P2.out (by simpa using h)), (fun h => by first | rfl | exact P3.out (by simpa using h)), (fun h => by first | rfl | exact P4.out (by simpa using h)), (fun h => by first | rfl | exact P5.out (by simpa using h)), (fun h => by first | rfl | exact P6.out (by simpa using h))⟩
            · simp only [List.getElem?_toArray, List.getElem?_cons_zero, List.getElem?_cons_succ, Option.some.injEq] at ho
              subst ho
              obtain rfl := p0 (hafter ⟨0, .data⟩ (by simp) rfl)
              have c0 := (hS.1.cell (p := ⟨W9.heap.size, 0, none⟩) hl_I).trans k_I_0
              have P0 := Lib.hid p0
              have P1 := Lib.hid p1
              have P2 := Lib.hid p2
              have P3 := Lib.hid p3
              have P4 := Lib.hid p4
              have P5 := Lib.hid p5
              have P6 := Lib.hid p6
              have HS := Lib.hid hS
              clear hS hLi hafter p0 p1 p2 p3 p4 p5 p6
              simp only [Act.put, List.setIfInBounds_toArray, List.set_cons_zero, List.set_cons_succ]
              go_wp2_with fail
              exact ⟨.pointer (some ⟨W9.heap.size, 0, none⟩), .int .i64 x, u24, u25, u26, u27, u28, by simp only [Act.put, List.setIfInBounds_toArray, List.set_cons_zero, List.set_cons_succ], HS.out, (fun h => by first | rfl | exact P0.out (by simpa using h)), (fun _ => rfl), (fun h => by first | rfl | exact P2.out (by simpa using h)), (fun h => by first | rfl | exact P3.out (by simpa using h)), (fun h => by first | rfl | exact P4.out (by simpa using h)), (fun h => by first | rfl | exact P5.out (by simpa using h)), (fun h => by first | rfl | exact P6.out (by simpa using h))⟩
            · simp only [List.getElem?_toArray, List.getElem?_cons_zero, List.getElem?_cons_succ, Option.some.injEq] at ho
              subst ho
              have P0 := Lib.hid p0
              have P1 := Lib.hid p1
              have P2 := Lib.hid p2
              have P3 := Lib.hid p3
              have P4 := Lib.hid p4
              have P5 := Lib.hid p5
              have P6 := Lib.hid p6
              have HS := Lib.hid hS
              clear hS hLi hafter p0 p1 p2 p3 p4 p5 p6
              simp only [Act.put, List.setIfInBounds_toArray, List.set_cons_zero, List.set_cons_succ]
              go_wp2_with fail
              exact ⟨u22, u23, .pointer (some ⟨W9.heap.size, 1, none⟩), u25, u26, u27, u28, by simp only [Act.put, List.setIfInBounds_toArray, List.set_cons_zero, List.set_cons_succ], HS.out, (fun h => by first | rfl | exact P0.out (by simpa using h)), (fun h => by first | rfl | exact P1.out (by simpa using h)), (fun _ => rfl), (fun h => by first | rfl | exact P3.out (by simpa using h)), (fun h => by first | rfl | exact P4.out (by simpa using h)), (fun h => by first | rfl | exact P5.out (by simpa using h)), (fun h => by first | rfl | exact P6.out (by simpa using h))⟩
            · simp only [List.getElem?_toArray, List.getElem?_cons_zero, List.getElem?_cons_succ, Option.some.injEq] at ho
              subst ho
              obtain rfl := p2 (hafter ⟨2, .data⟩ (by simp) rfl)
              have c1 := (hS.1.cell (p := ⟨W9.heap.size, 1, none⟩) hl_I).trans k_I_1
              have P0 := Lib.hid p0
              have P1 := Lib.hid p1
              have P2 := Lib.hid p2
              have P3 := Lib.hid p3
              have P4 := Lib.hid p4
              have P5 := Lib.hid p5
              have P6 := Lib.hid p6
              have HS := Lib.hid hS
              clear hS hLi hafter p0 p1 p2 p3 p4 p5 p6
              simp only [Act.put, List.setIfInBounds_toArray, List.set_cons_zero, List.set_cons_succ]
              go_wp2_with fail
              exact ⟨u22, u23, .pointer (some ⟨W9.heap.size, 1, none⟩), .int .i64 y, u26, u27, u28, by simp only [Act.put, List.setIfInBounds_toArray, List.set_cons_zero, List.set_cons_succ], HS.out, (fun h => by first | rfl | exact P0.out (by simpa using h)), (fun h => by first | rfl | exact P1.out (by simpa using h)), (fun h => by first | rfl | exact P2.out (by simpa using h)), (fun _ => rfl), (fun h => by first | rfl | exact P4.out (by simpa using h)), (fun h => by first | rfl | exact P5.out (by simpa using h)), (fun h => by first | rfl | exact P6.out (by simpa using h))⟩
            · simp only [List.getElem?_toArray, List.getElem?_cons_zero, List.getElem?_cons_succ, Option.some.injEq] at ho
              subst ho
              obtain rfl := p1 (hafter ⟨1, .data⟩ (by simp) rfl)
              obtain rfl := p3 (hafter ⟨3, .data⟩ (by simp) rfl)
              have P0 := Lib.hid p0
              have P1 := Lib.hid p1
              have P2 := Lib.hid p2
              have P3 := Lib.hid p3
              have P4 := Lib.hid p4
              have P5 := Lib.hid p5
              have P6 := Lib.hid p6
              have HS := Lib.hid hS
              clear hS hLi hafter p0 p1 p2 p3 p4 p5 p6
              simp only [Act.put, List.setIfInBounds_toArray, List.set_cons_zero, List.set_cons_succ]
              go_wp2_with fail
              refine (ord_any x y _ _ _ HPQ.out).mono ?_
              rintro e wn ⟨rfl, hb⟩
              have Hb := Lib.hid hb
              clear hb
              go_wp2_with fail
              exact ⟨u22, .int .i64 x, u24, .int .i64 y, .agg #[.int .i64 p, .int .i64 q], u27, u28, by simp only [Act.put, List.setIfInBounds_toArray, List.set_cons_zero, List.set_cons_succ], HS.out.below Hb.out, (fun h => by first | rfl | exact P0.out (by simpa using h)), (fun h => by first | rfl | exact P1.out (by simpa using h)), (fun h => by first | rfl | exact P2.out (by simpa using h)), (fun h => by first | rfl | exact P3.out (by simpa using h)), (fun _ => rfl), (fun h => by first | rfl | exact P5.out (by simpa using h)), (fun h => by first | rfl | exact P6.out (by simpa using h))⟩
            · simp only [List.getElem?_toArray, List.getElem?_cons_zero, List.getElem?_cons_succ, Option.some.injEq] at ho
              subst ho
              have c0 := (hS.1.cell (p := ⟨wO.heap.size, 0, none⟩) hl_O).trans k_O_0
              have c1 := (hS.1.cell (p := ⟨wO.heap.size, 1, none⟩) hl_O).trans k_O_1
              have P0 := Lib.hid p0
              have P1 := Lib.hid p1
              have P2 := Lib.hid p2
              have P3 := Lib.hid p3
              have P4 := Lib.hid p4
              have P5 := Lib.hid p5
              have P6 := Lib.hid p6
              have HS := Lib.hid hS
              clear hS hLi hafter p0 p1 p2 p3 p4 p5 p6
              simp only [Act.put, List.setIfInBounds_toArray, List.set_cons_zero, List.set_cons_succ]
              go_wp2_with fail
              exact ⟨u22, u23, u24, u25, u26, .agg #[.int .i64 u, .int .i64 v], u28, by simp only [Act.put, List.setIfInBounds_toArray, List.set_cons_zero, List.set_cons_succ], HS.out, (fun h => by first | rfl | exact P0.out (by simpa using h)), (fun h => by first | rfl | exact P1.out (by simpa using h)), (fun h => by first | rfl | exact P2.out (by simpa using h)), (fun h => by first | rfl | exact P3.out (by simpa using h)), (fun h => by first | rfl | exact P4.out (by simpa using h)), (fun _ => rfl), (fun h => by first | rfl | exact P6.out (by simpa using h))⟩
            · simp only [List.getElem?_toArray, List.getElem?_cons_zero, List.getElem?_cons_succ, Option.some.injEq] at ho
              subst ho
              obtain rfl := p4 (hafter ⟨4, .data⟩ (by simp) rfl)
              obtain rfl := p5 (hafter ⟨5, .data⟩ (by simp) rfl)
              have P0 := Lib.hid p0
              have P1 := Lib.hid p1
              have P2 := Lib.hid p2
              have P3 := Lib.hid p3
              have P4 := Lib.hid p4
              have P5 := Lib.hid p5
              have P6 := Lib.hid p6
              have HS := Lib.hid hS
              clear hS hLi hafter p0 p1 p2 p3 p4 p5 p6
              simp only [Act.put, List.setIfInBounds_toArray, List.set_cons_zero, List.set_cons_succ]
              go_wp2_with fail
              exact ⟨u22, u23, u24, u25, .agg #[.int .i64 p, .int .i64 q], .agg #[.int .i64 u, .int .i64 v], .bool false, by simp only [Act.put, List.setIfInBounds_toArray, List.set_cons_zero, List.set_cons_succ], HS.out, (fun h => by first | rfl | exact P0.out (by simpa using h)), (fun h => by first | rfl | exact P1.out (by simpa using h)), (fun h => by first | rfl | exact P2.out (by simpa using h)), (fun h => by first | rfl | exact P3.out (by simpa using h)), (fun h => by first | rfl | exact P4.out (by simpa using h)), (fun h => by first | rfl | exact P5.out (by simpa using h)), (fun _ => rfl)⟩
          · intro Ls a0 wq hall hJ
            obtain ⟨u22, u23, u24, u25, u26, u27, u28, rfl, hS, p0, p1, p2, p3, p4, p5, p6⟩ := hJ
            replace p0 := p0 (hall 0 (by decide))
            replace p1 := p1 (hall 1 (by decide))
            replace p2 := p2 (hall 2 (by decide))
            replace p3 := p3 (hall 3 (by decide))
            replace p4 := p4 (hall 4 (by decide))
            replace p5 := p5 (hall 5 (by decide))
            replace p6 := p6 (hall 6 (by decide))
            have hb := hS.1
            subst p6
            clear hall hS p0 p1 p2 p3 p4 p5
            have HBz := Lib.hid (HB.out.trans (hb.mono hs0))
            clear hb
            simp only [Act.put, List.setIfInBounds_toArray, List.set_cons_zero, List.set_cons_succ]
            go_wp2_with fail
            go_roundw
            case rel => exact ⟨k + 1, by omega, by go_num, HNX, HBz.out⟩
            case measure => simp [intOf]; omega
      · obtain rfl : k = n := by omega
        obtain rfl : false = c := by rw [← HC2.out, ← hin.out, List.take_of_length_le (by rw [HLN.out]; exact Nat.le_refl _)]
        go_wp2_with fail
        go_ret
        exact ⟨rfl, HB0.out.trans (HB.out.mono hsw)⟩

end Go.Proofs.Ytonnbcongnkcdaa
