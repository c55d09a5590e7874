import Derived.Test.YtmecipfdelgfbaaDoorDfH
import Derived.Test.YtmecipfdelgfbaaDoorJoPr
import Derived.Maps.AppendAt
namespace Go.Proofs.YtmecipfdelgfbaaDoor
open Go.RowKit
def Tx (q : Rat) (sv : ByteArray) : Prop := 0 ≤ q.num ∧ q.num.natAbs < 1000000000 ∧ q.den < 1000000000 ∧ (⟨(txt q).toArray⟩ : ByteArray) = sv
theorem print_is {N : Nat} (s : Bool) (a d : Option Addr) (na ca nd cd L : Nat) (q : Rat) (w : World) (hN : N ≤ w.heap.size) (h : Rt N w s a na ca d nd cd q L) (hL : L ≤ 68719476736) (htab : TabW w) (sv : ByteArray) (ht : Tx q sv) :
    Calls Tryd.prog 34 #[.agg #[.bool s, .slice a na ca, .slice d nd cd]] w fun e w' => e = .returned (.string sv) ∧ Below w.heap.size w w' := by
  refine (ratPrint_any s a d na ca nd cd L q w hN h hL htab).mono ?_
  rintro e w' ⟨l, rfl, _, hl, hb⟩
  obtain ⟨h1, h2, h3, h4⟩ := ht
  exact ⟨by rw [hl h1 h2 h3, h4], hb⟩
theorem txt_small (q : Rat) (a b : Nat) (h0 : 0 ≤ q.num) (h1 : q.num.natAbs = a) (h2 : q.den = b) (ha : a < 10) (hb : b < 10) (h3 : ¬ b = 1) : Tx q ⟨#[UInt8.ofNat (48 + a), 47, UInt8.ofNat (48 + b)]⟩ := by
  refine ⟨h0, by omega, by omega, ?_⟩
  unfold txt
  rw [h1, h2, if_neg h3, Lib.decDigits_one ha, Lib.decDigits_one hb]; rfl
theorem cell_four (w : World) (b : Nat) (hb : b = w.heap.size) (v0 v1 v2 v3 : Value) (T : TypeId) : ∀ j u, [v0, v1, v2, v3][j]? = some u → (w.alloc (.cells #[v0, v1, v2, v3] T)).cell? ((⟨b, 0, none⟩ : Addr).add j) = some u := by
  subst hb
  intro j u hj
  match j, hj with
  | 0, hj => simp at hj; subst hj; simp [Addr.add]
  | 1, hj => simp at hj; subst hj; simp [Addr.add]
  | 2, hj => simp at hj; subst hj; simp [Addr.add]
  | 3, hj => simp at hj; subst hj; simp [Addr.add]
theorem Ot.alloc {B : Nat} {w : World} {v : Value} {n : Nat} {t : Nat → Nat → Nat} (h : Ot B w v n t) (o : Obj) : Ot B (w.alloc o) v n t := by
  obtain ⟨xs, h1, h2⟩ := h
  exact ⟨xs, World.ownsRow.alloc h1 _, h2⟩
def SwpPost (w : World) (n : Nat) (t : Nat → Nat → Nat) (e : Ending) (w' : World) : Prop := ∃ p cap, e = .returned (.slice p n cap) ∧ Tz w' p n cap t ∧ Below w.heap.size w w'
set_option maxRecDepth 20000 in
set_option maxHeartbeats 4000000 in
theorem swapped_any (a : Option Addr) (n cap : Nat) (t : Nat → Nat → Nat) (w : World) (h : Tz w a n cap t) (hn : n ≤ 20) (hc : cntS t n) :
    Calls Tryd.prog 8 #[.slice a n cap] w (SwpPost w n (swS t)) := by
  obtain ⟨i0, hi, hzz⟩ := Option.map_eq_some_iff.1 Tryd.infoTab
  simp only [Prod.mk.injEq] at hzz
  obtain ⟨hz0, hz1, hz2⟩ := hzz
  have HA := Lib.hid h
  have HCN := Lib.hid hc
  have bc := h.1
  have bm := h.2.1
  unfold maxLen at bm
  clear h hc
  go_enter Tryd.func8, Tryd.ntmps8
  go_wp2_with fail
  go_loopw [3, 8] (fun mv ix wr => ∃ k : Nat, k ≤ n ∧ ix = .int .i64 k ∧ Ot w.heap.size wr mv k (swS t) ∧ Below w.heap.size w wr) (fun _ ix _ => n - (intOf ix).toNat)
  case atStart => exact ⟨0, Nat.zero_le _, rfl, Ot.start _ _ _, Below.refl _ _⟩
  case round =>
    obtain ⟨k, hk, rfl, hot, hbel⟩ := hrel
    have HB := Lib.hid hbel
    have hs0 : w.heap.size ≤ wr.heap.size := hbel.size
    by_cases hkn : k < n
    · obtain ⟨b, off, rfl, hcc⟩ := (HA.out.below hbel).2.2 (by omega)
      obtain ⟨g0, g1, g2, g3⟩ := hcc k hkn
      clear hcc
      have hx0 := HCN.out k hkn 0 (by omega)
      obtain ⟨x0, ex0⟩ : ∃ x, t k 0 = x := ⟨_, rfl⟩
      rw [ex0] at hx0 g0
      have EX0 := Lib.hid ex0
      clear ex0
      have hx1 := HCN.out k hkn 1 (by omega)
      obtain ⟨x1, ex1⟩ : ∃ x, t k 1 = x := ⟨_, rfl⟩
      rw [ex1] at hx1 g1
      have EX1 := Lib.hid ex1
      clear ex1
      have hx2 := HCN.out k hkn 2 (by omega)
      obtain ⟨x2, ex2⟩ : ∃ x, t k 2 = x := ⟨_, rfl⟩
      rw [ex2] at hx2 g2
      have EX2 := Lib.hid ex2
      clear ex2
      have hx3 := HCN.out k hkn 3 (by omega)
      obtain ⟨x3, ex3⟩ : ∃ x, t k 3 = x := ⟨_, rfl⟩
      rw [ex3] at hx3 g3
      have EX3 := Lib.hid ex3
      clear ex3
      have hix0 : (0 : Int) ≤ (k : Int) := by omega
      have hix1 : (k : Int) < (n : Int) := by omega
      clear hbel
      obtain ⟨xs, hown, hc4⟩ := hot
      have HO := Lib.hid hown
      have HC4 := Lib.hid hc4
      clear hown hc4
      go_wp2_with (at_builtin; refine wpList_append_own_at _ rfl (.tmp 12) (.tmp 22) 22 rfl w.heap.size 50 i0 (.agg #[.int .i64 0, .int .i64 0, .int .i64 0, .int .i64 0]) 4 32 Tryd.underTabs hi hz0 hz1 hz2 rfl (by decide) _ k xs rfl (World.ownsRow.alloc (World.ownsRow.alloc HO.out _) _) ⟨wr.heap.size + 1, 0, none⟩ 1 1 [.int .i64 ((x2 : Nat) : Int), .int .i64 ((x3 : Nat) : Int), .int .i64 ((x0 : Nat) : Int), .int .i64 ((x1 : Nat) : Int)] (by first | rfl | simp) rfl (cell_four _ _ (by simp) _ _ _ _ _) (by intro u hu; simp at hu; rcases hu with rfl | rfl | rfl | rfl <;> rfl) (by unfold maxLen; omega) (by omega) (by simp; omega) ?_; intro v2 w2 hm2 hg2 _ hat2; have HO2 := Lib.hid (show Ot w.heap.size w2 v2 (k + 1) (swS t) from ⟨_, hm2, HC4.out.push (by show _ = Value.int .i64 ((t k 2 : Nat) : Int); rw [EX2.out]) (by show _ = Value.int .i64 ((t k 3 : Nat) : Int); rw [EX3.out]) (by show _ = Value.int .i64 ((t k 0 : Nat) : Int); rw [EX0.out]) (by show _ = Value.int .i64 ((t k 1 : Nat) : Int); rw [EX1.out])⟩); have HB2 := Lib.hid (((HB.out.alloc hs0 _).alloc (by simp; omega) _).grown hg2 (by simp; omega) (fun k hk => (World.ownsRow.lt HO.out k hk).1)); clear hm2 hg2 hat2)
      go_roundw
      case rel =>
        exact ⟨k + 1, by omega, by go_num, HO2.out, HB2.out⟩
      case measure => simp [intOf]; omega
    · obtain rfl : k = n := by omega
      obtain ⟨p, cp, rfl, htz⟩ := hot.open
      have pc1 := htz.1
      have pc2 := htz.2.1
      unfold maxLen at pc2
      have HTZ := Lib.hid htz
      clear hbel htz hot
      go_wp2_with fail
      go_ret
      exact ⟨p, cp, rfl, HTZ.out, HB.out⟩
end Go.Proofs.YtmecipfdelgfbaaDoor
