import Derived.Test.YtjobopafcgnljaaGreatFtA
namespace Go.Proofs.YtjobopafcgnljaaGreat
open Go.RowKit
def NeT (N : Nat) (w : World) (b n : Nat) (x : Nat → Nat) : Prop :=
 Bk w b 25 n ∧ ∀ i, i < n → ∃ ra rc, w.cell? ⟨b, i, none⟩ = some (.slice ra (nlen (x i)) rc) ∧ Nt N w ra (nlen (x i)) rc (x i)
theorem NeT.below {N : Nat} {w w' : World} {b n : Nat} {x : Nat → Nat} (h : NeT N w b n x) (hb : Below w.heap.size w w') : NeT N w' b n x := by
 refine ⟨h.1.below hb, fun i hi => ?_⟩
 obtain ⟨ra, rc, h3, h4⟩ := h.2 i hi
 exact ⟨ra, rc, cell_mono h3 hb, h4.below hb⟩
theorem NeT.keep {N : Nat} {w w' : World} {b n : Nat} {x : Nat → Nat} (h : NeT N w b n x) (k : Kp N w w') (s : Sb b w w') : NeT N w' b n x := by
 refine ⟨?_, fun i hi => ?_⟩
 ·obtain ⟨c, h1, h2⟩ := h.1; exact ⟨c, Eq.trans s h1, h2⟩
 ·obtain ⟨ra, rc, h3, h4⟩ := h.2 i hi
  exact ⟨ra, rc, s.cell.trans h3, h4.keep k⟩
theorem NeT.congr {N : Nat} {w : World} {b n : Nat} {x y : Nat → Nat} (h : NeT N w b n x) (e : ∀ i, i < n → x i = y i) : NeT N w b n y :=
 ⟨h.1, fun i hi => by rw [← e i hi]; exact h.2 i hi⟩
theorem NeT.bn {N : Nat} {w : World} {b n : Nat} {x : Nat → Nat} (h : NeT N w b n x) : Bn w b := h.1.bx.bn (by decide)
theorem NeT.set {N : Nat} {w : World} {b n k : Nat} {x y : Nat → Nat} (h : NeT N w b n x) (hN : N ≤ b) (hk : k < n) {r : Option Addr} {c : Nat} (hv : Nt N w r (nlen (y k)) c (y k)) (e : ∀ i, i < n → i ≠ k → x i = y i) :
  NeT N (w.setCell ⟨b, k, none⟩ (.slice r (nlen (y k)) c)) b n y := by
 have kp : Kp N w (w.setCell ⟨b, k, none⟩ (.slice r (nlen (y k)) c)) := (Kp.refl N w).put hN h.bn _
 refine ⟨h.1.set _ _, fun i hi => ?_⟩
 by_cases ei : i = k
 ·subst ei
  obtain ⟨v0, h0⟩ := h.1.cell hi
  exact ⟨r, c, World.cell?_setCell_same _ _ _ h0, hv.keep kp⟩
 ·obtain ⟨ra, rc, h3, h4⟩ := h.2 i hi
  rw [← e i hi ei]
  exact ⟨ra, rc, (World.cell?_setCell_other _ _ _ _ (by first | (simp; done) | (simp; omega))).trans h3, h4.keep kp⟩
theorem NeT.made (N : Nat) (w : World) (n : Nat) : NeT N (w.alloc (.cells (madeCells #[.slice none 0 0] n) 25)) w.heap.size n (fun _ => 0) := by
 have h := World.rowIs_made w (.slice none 0 0) n 25
 have e : nlen 0 = 0 := by decide +kernel
 refine ⟨by have := Bk.new w (madeCells #[.slice none 0 0] n) 25; rwa [size_madeCells] at this, fun i hi => ⟨none, 0, ?_, ?_⟩⟩
 ·dsimp only; rw [e]; exact h.cell hi
 ·dsimp only; rw [e]; exact Nt.zero _ _
def Tn (N : Nat) (w : World) (tb n m : Nat) (x : Nat → Nat → Nat) : Prop :=
 Bk w tb 76 n ∧ ∀ r, r < n → w.cell? ⟨tb, r, none⟩ = some (.slice (some ⟨tb + 1 + r, 0, none⟩) m m) ∧ NeT N w (tb + 1 + r) m (x r)
theorem Tn.below {N : Nat} {w w' : World} {tb n m : Nat} {x : Nat → Nat → Nat} (h : Tn N w tb n m x) (hb : Below w.heap.size w w') : Tn N w' tb n m x :=
 ⟨h.1.below hb, fun r hr => ⟨cell_mono (h.2 r hr).1 hb, (h.2 r hr).2.below hb⟩⟩
theorem Tn.congr {N : Nat} {w : World} {tb n m : Nat} {x y : Nat → Nat → Nat} (h : Tn N w tb n m x) (e : ∀ r, r < n → ∀ c, c < m → x r c = y r c) : Tn N w tb n m y :=
 ⟨h.1, fun r hr => ⟨(h.2 r hr).1, (h.2 r hr).2.congr (e r hr)⟩⟩
theorem Tn.set0 {N : Nat} {w : World} {tb n m k c : Nat} {x y : Nat → Nat → Nat} (h : Tn N w tb n m x) (hN : N ≤ tb) (hk : k < n) (hc : c < m) {a : Option Addr} {cp : Nat} (hv : Nt N w a (nlen (y k c)) cp (y k c)) (e : ∀ r, r < n → ∀ d, d < m → ¬ (r = k ∧ d = c) → x r d = y r d) :
  Tn N (w.setCell ⟨tb + 1 + k, c, none⟩ (.slice a (nlen (y k c)) cp)) tb n m y := by
 have hk0 := (h.2 k hk).2
 have kp : Kp N w (w.setCell ⟨tb + 1 + k, c, none⟩ (.slice a (nlen (y k c)) cp)) := (Kp.refl N w).put (by omega) hk0.bn _
 refine ⟨h.1.set _ _, fun r hr => ⟨(World.cell?_setCell_other _ _ _ _ (by first | (simp; done) | (simp; omega))).trans (h.2 r hr).1, ?_⟩⟩
 by_cases er : r = k
 ·subst er
  exact hk0.set (by omega) hc hv (fun d hd hne => e r hr d hd (fun hh => hne hh.2))
 ·have h1 := ((h.2 r hr).2).keep kp (Sb.set (Sb.refl _ _) (by omega) _)
  exact h1.congr (fun d hd => e r hr d hd (fun hh => er hh.1))
theorem Tn.set {N : Nat} {w : World} {tb n m k c : Nat} {x y : Nat → Nat → Nat} (h : Tn N w tb n m x) (hN : N ≤ tb) (hk : k < n) (hc : c < m) {a : Option Addr} {cp v : Nat} (hy : y k c = v) (hv : Nt N w a (nlen v) cp v) (e : ∀ r, r < n → ∀ d, d < m → ¬ (r = k ∧ d = c) → x r d = y r d) :
  Tn N (w.setCell ⟨tb + 1 + k, c, none⟩ (.slice a (nlen v) cp)) tb n m y := by
 subst hy
 exact h.set0 hN hk hc hv e
theorem Tryz.underTabF : Tryz.prog.underlying 72 = some (.slice 76) := by kernel_rfl
theorem Tryz.infoNatsF : (Tryz.prog.info? 76).map (fun i => (i.zero, i.size, i.bytes)) = some (some (.slice none 0 0), 1, 24) := by kernel_rfl
theorem make_tab (n : Nat) (h : n ≤ 100000) (w : World) :
  (Instr.makeSlice 72 (.int .i64 (n : Int)) (.int .i64 (n : Int))).run Tryz.prog w = .ok (.slice (some ⟨w.heap.size, 0, none⟩) n n) (w.alloc (.cells (madeCells #[.slice none 0 0] n) 76)) :=
 run_make_row' (P := Tryz.prog) 72 76 (.slice none 0 0) 24 Tryz.underTabF Tryz.infoNatsF rfl .i64 .i64 n (by omega) (by omega) w
def Tp (N : Nat) (w : World) (tb n k m : Nat) : Prop :=
 Bk w tb 76 n ∧ ∀ r, r < k → w.cell? ⟨tb, r, none⟩ = some (.slice (some ⟨tb + 1 + r, 0, none⟩) m m) ∧ NeT N w (tb + 1 + r) m (fun _ => 0)
theorem Tp.start (N : Nat) (w : World) (n m : Nat) : Tp N (w.alloc (.cells (madeCells #[.slice none 0 0] n) 76)) w.heap.size n 0 m :=
 ⟨by have := Bk.new w (madeCells #[.slice none 0 0] n) 76; rwa [size_madeCells] at this, fun r hr => by omega⟩
theorem Tp.step {N : Nat} {w : World} {tb n k m : Nat} (h : Tp N w tb n k m) (hN : N ≤ tb) (hk : k < n) (hs : w.heap.size = tb + 1 + k) :
  Tp N ((w.alloc (.cells (madeCells #[.slice none 0 0] m) 25)).setCell ⟨tb, k, none⟩ (.slice (some ⟨w.heap.size, 0, none⟩) m m)) tb n (k + 1) m := by
 have hb := bel1 w (.cells (madeCells #[.slice none 0 0] m) 25)
 have h1 := h.1.below hb
 have kp : Kp N (w.alloc (.cells (madeCells #[.slice none 0 0] m) 25)) ((w.alloc (.cells (madeCells #[.slice none 0 0] m) 25)).setCell ⟨tb, k, none⟩ (.slice (some ⟨w.heap.size, 0, none⟩) m m)) := (Kp.refl N _).put hN (h1.bx.bn (by decide)) _
 refine ⟨h1.set _ _, fun r hr => ?_⟩
 by_cases e : r = k
 ·subst e
  obtain ⟨v0, h0⟩ := h1.cell hk
  rw [← hs]
  exact ⟨World.cell?_setCell_same _ _ _ h0, (NeT.made N w m).keep kp (Sb.set (Sb.refl _ _) (by omega) _)⟩
 ·obtain ⟨g0, g1⟩ := h.2 r (by omega)
  exact ⟨(World.cell?_setCell_other _ _ _ _ (by first | (simp; done) | (simp; omega))).trans (cell_mono g0 hb), (g1.below hb).keep kp (Sb.set (Sb.refl _ _) (by omega) _)⟩
def TabPost (N : Nat) (w : World) (n m : Nat) (e : Ending) (w' : World) : Prop :=
 ∃ tb, e = .returned (.slice (some ⟨tb, 0, none⟩) n n) ∧ w.heap.size ≤ tb ∧ w'.heap.size = tb + 1 + n ∧ Tn N w' tb n m (fun _ _ => 0) ∧ Below w.heap.size w w'
set_option maxHeartbeats 2000000 in
theorem blank_any {N : Nat} (n m : Nat) (w : World) (hN : N ≤ w.heap.size) (hn : n ≤ 100000) (hm : m ≤ 100000) :
  Calls Tryz.prog 46 #[.int .i64 n, .int .i64 m] w (TabPost N w n m) := by
 have mk1 := make_tab n hn
 have mk2 := make_nats m hm
 go_enter Tryz.func46, Tryz.ntmps46
 go_wp2_with fail
 go_loopw [11] (fun i wr => ∃ k : Nat, k ≤ n ∧ i = .int .i64 k ∧ Tp N wr w.heap.size n k m ∧ Below w.heap.size w wr ∧ wr.heap.size = w.heap.size + 1 + k) (fun i _ => n - (intOf i).toNat)
 case atStart => exact ⟨0, Nat.zero_le _, rfl, Tp.start N w n m, bel1 w _, by simp⟩
 case round =>
  obtain ⟨k, hk, rfl, hr, hbel, hsz⟩ := hrel
  have HR := Lib.hid hr
  have HB := Lib.hid hbel
  by_cases hkn : k < n
  ·have hcl := (hr.1.below (bel1 wr (.cells (madeCells #[.slice none 0 0] m) 25))).cell hkn
   have hfz := (hr.1.below (bel1 wr (.cells (madeCells #[.slice none 0 0] m) 25))).frozen
   obtain ⟨v0, hc0⟩ := hcl
   clear hr hbel
   go_wp2_with fail
   have e1 := Tp.step HR.out hN hkn hsz
   rw [hsz] at e1
   refine ⟨⟨k + 1, by omega, by simp, e1, ?_, by simp; omega⟩, by simp [intOf]; omega⟩
   refine Below.setCell (Below.alloc HB.out ?_ _) ?_ _
   all_goals first | (simp; done) | (simp; omega) | omega
  ·clear hr hbel
   go_wp2_with fail
   go_ret
   have e2 : k = n := by omega
   subst e2
   exact ⟨_, rfl, Nat.le_refl _, hsz, ⟨HR.out.1, HR.out.2⟩, HB.out⟩
end Go.Proofs.YtjobopafcgnljaaGreat
