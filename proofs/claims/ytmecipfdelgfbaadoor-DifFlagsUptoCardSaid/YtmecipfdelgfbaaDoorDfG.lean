/- Contracts of law 30's limbs, equal, equals, small, few, swapped and awake. The table of powers of ten must lie in memory. -/
import Derived.Test.YtmecipfdelgfbaaDoorDfH
import Derived.Test.YtmecipfdelgfbaaDoorJoPr
import Derived.Maps.AppendAt
namespace Go.Proofs.YtmecipfdelgfbaaDoor
open Go.RowKit

set_option maxHeartbeats 2000000 in
theorem limbs30_any {N : Nat} (a b : Option Addr) (n ca cb m : Nat) (w : World) (ha : Nt N w a n ca m) (hb : Nt N w b n cb m) :
    Calls Tryd.prog 30 #[.slice a n ca, .slice b n cb] w fun e w' => e = .returned (.bool true) ∧ Below w.heap.size w w' := by
  have l3 : n ≤ 9223372036854775807 := by have := ha.1.1; have := ha.2.1; unfold maxLen at this; omega
  have HA := Lib.hid ha
  have HB := Lib.hid hb
  clear ha hb
  go_enter Tryd.func30, Tryd.ntmps30
  go_wp2_with fail
  go_loopw [13] (fun i wr => ∃ k : Nat, k ≤ n ∧ i = .int .i64 k ∧ Below w.heap.size w wr) (fun i _ => n - (intOf i).toNat)
  case atStart => exact ⟨0, Nat.zero_le _, rfl, Below.refl _ _⟩
  case round =>
    obtain ⟨k, hk, rfl, hbel⟩ := hrel
    by_cases hkn : k < n
    · obtain ⟨b1, o1, rfl, _, hc1⟩ := HA.out.2.2.2 (by omega)
      obtain ⟨b2, o2, rfl, _, hc2⟩ := HB.out.2.2.2 (by omega)
      have hcell1 := cell_mono (hc1 k hkn) hbel
      have hcell2 := cell_mono (hc2 k hkn) hbel
      have HBel := Lib.hid hbel
      clear hc1 hc2 hbel
      go_wp2_with fail
      go_quiet (fail)
      go_wp2_with fail
      go_roundw
      case rel => exact ⟨k + 1, by omega, by go_num, below_drewN HBel.out _⟩
      case measure => simp [intOf]; omega
    · obtain rfl : k = n := by omega
      have HBel := Lib.hid hbel
      clear hbel
      go_wp2_with fail
      go_ret
      exact ⟨rfl, HBel.out⟩

set_option maxHeartbeats 2000000 in
theorem equal30_any {N : Nat} (s : Bool) (a a2 b b2 : Option Addr) (n1 m1 n2 m2 c c2 cb cb2 : Nat) (w : World) (h1 : Nt N w a n1 c m1) (h2 : Nt N w a2 n2 c2 m2) (g1 : Nt N w b n1 cb m1) (g2 : Nt N w b2 n2 cb2 m2) :
    Calls Tryd.prog 11 #[.agg #[.bool s, .slice a n1 c, .slice a2 n2 c2], .agg #[.bool s, .slice b n1 cb, .slice b2 n2 cb2]] w fun e w' => e = .returned (.bool true) ∧ Below w.heap.size w w' := by
  have Hh1 := Lib.hid ((h1.alloc (.cells #[.bool s, .slice a n1 c, .slice a2 n2 c2] 28)).alloc (.cells #[.bool s, .slice b n1 cb, .slice b2 n2 cb2] 28))
  have Hh2 := Lib.hid ((h2.alloc (.cells #[.bool s, .slice a n1 c, .slice a2 n2 c2] 28)).alloc (.cells #[.bool s, .slice b n1 cb, .slice b2 n2 cb2] 28))
  have Hg1 := Lib.hid ((g1.alloc (.cells #[.bool s, .slice a n1 c, .slice a2 n2 c2] 28)).alloc (.cells #[.bool s, .slice b n1 cb, .slice b2 n2 cb2] 28))
  have Hg2 := Lib.hid ((g2.alloc (.cells #[.bool s, .slice a n1 c, .slice a2 n2 c2] 28)).alloc (.cells #[.bool s, .slice b n1 cb, .slice b2 n2 cb2] 28))
  clear h1 h2 g1 g2
  go_enter Tryd.func11, Tryd.ntmps11
  go_wp2_with fail
  refine (limbs30_any (N := N) _ _ _ _ _ m1 _ Hh1.out Hg1.out).mono ?_
  rintro e wa ⟨rfl, hb⟩
  obtain ⟨hcwa, hfwa⟩ := bcell hb
  have hzwa0 : w.heap.size < wa.heap.size := by have := hb.size; (try simp at this); omega
  have hzwa1 : w.heap.size + 1 < wa.heap.size := by have := hb.size; (try simp at this); omega
  have HBwa := Lib.hid hb
  clear hb 
  go_wp2_with fail
  refine (limbs30_any (N := N) _ _ _ _ _ m2 _ (Hh2.out.below HBwa.out) (Hg2.out.below HBwa.out)).mono ?_
  rintro e wb ⟨rfl, hb⟩
  obtain ⟨hcwb, hfwb⟩ := bcell hb
  have hzwb0 : w.heap.size < wb.heap.size := by have := hb.size; (try simp at this); omega
  have hzwb1 : w.heap.size + 1 < wb.heap.size := by have := hb.size; (try simp at this); omega
  have HBwb := Lib.hid hb
  clear hb 
  go_wp2_with fail
  go_ret
  exact ⟨rfl, (((bel2 w _ _).trans (HBwa.out.mono (by first | omega | (simp; done) | (simp; omega)))).trans (HBwb.out.mono (by first | omega | (simp; done) | (simp; omega))))⟩

set_option maxHeartbeats 4000000 in
set_option maxHeartbeats 2000000 in
theorem equals30_any {N : Nat} (b1 b2 n : Nat) (q : Nat → Rat) (w : World) (hN : N ≤ w.heap.size) (hn : n ≤ 1000) (h : Rl N w b1 n n q) (h' : Rl N w b2 n n q) :
    Calls Tryd.prog 19 #[.slice (some ⟨b1, 0, none⟩) n n, .slice (some ⟨b2, 0, none⟩) n n] w fun e w' => e = .returned (.bool true) ∧ Below w.heap.size w w' := by
  have HA := Lib.hid h
  have HC := Lib.hid h'
  clear h h'
  have hN0 := hN
  go_enter Tryd.func19, Tryd.ntmps19
  go_wp2_with fail
  go_loopw [13] (fun i wr => ∃ k : Nat, k ≤ n ∧ i = .int .i64 k ∧ Below w.heap.size w wr ∧ w.heap.size ≤ wr.heap.size) (fun i _ => n - (intOf i).toNat)
  case atStart => exact ⟨0, Nat.zero_le _, rfl, Below.refl _ _, Nat.le_refl _⟩
  case round =>
    obtain ⟨k, hk, rfl, hbel, hsz⟩ := hrel
    have HAr := Lib.hid (HA.out.below hbel)
    have HCr := Lib.hid (HC.out.below hbel)
    have HB := Lib.hid hbel
    have hs0 : w.heap.size ≤ wr.heap.size := by omega
    have hN2 : N ≤ wr.heap.size := by omega
    clear hbel
    clear hN
    have hN := hN2
    clear hN2
    by_cases hkn : k < n
    · obtain ⟨r, c, r2, c2, g0, g1, g2, e1, e2⟩ := HAr.out.2 k hkn
      obtain ⟨t, d, t2, d2, g3, g4, g5, e3, e4⟩ := HCr.out.2 k hkn
      have H1 := Lib.hid e1
      have H2 := Lib.hid e2
      have H3 := Lib.hid e3
      have H4 := Lib.hid e4
      have hl1 := HAr.out.lt
      have hl2 := HCr.out.lt
      clear e1 e2 e3 e4 HAr HCr
      have hix0 : (0 : Int) ≤ (k : Int) := by omega
      have hix1 : (k : Int) < (n : Int) := by omega
      go_wp2_with fail
      go_region_held3 (fun w' => w'.cell? ⟨b1, k * 3, none⟩ = some (.bool (decide ((q k).num < 0))) ∧ w'.cell? ⟨b1, k * 3 + 1, none⟩ = some (.slice r (nlen (q k).num.natAbs) c) ∧ w'.cell? ⟨b1, k * 3 + 2, none⟩ = some (.slice r2 (nlen (q k).den) c2) ∧ w'.cell? ⟨b2, k * 3, none⟩ = some (.bool (decide ((q k).num < 0))) ∧ w'.cell? ⟨b2, k * 3 + 1, none⟩ = some (.slice t (nlen (q k).num.natAbs) d) ∧ w'.cell? ⟨b2, k * 3 + 2, none⟩ = some (.slice t2 (nlen (q k).den) d2))
        (first | (go_keep; done) | ((try dsimp only); (repeat' apply And.intro) <;> (first | (go_keep; done) | (exact cell_keep_alloc_drew (by first | omega | (simp; omega)) (by first | assumption | go_simp)) | (exact cell_keep_alloc (by first | omega | (simp; omega)) (by first | assumption | go_simp)) | (rw [cell_set2 _ _ _ _ _ _ _ _ (by omega)]; assumption) | (rw [cell_set3 _ _ _ _ _ _ _ _ _ _ (by omega)]; assumption))))
        (first
          | (go_at_call 11; refine (equal30_any (N := N) _ _ _ _ _ _ (q k).num.natAbs _ (q k).den _ _ _ _ _ (by exact H1.out) (by exact H2.out) (by exact H3.out) (by exact H4.out)).mono ?_; rintro e wa ⟨rfl, hb⟩; replace hb : Below wr.heap.size wr wa := (by first | exact hb | exact bel_of_drew hb); have g0' : wa.cell? ⟨b1, k * 3, none⟩ = some (.bool (decide ((q k).num < 0))) := (hb.cell (p := ⟨b1, k * 3, none⟩) hl1).trans g0; have g1' : wa.cell? ⟨b1, k * 3 + 1, none⟩ = some (.slice r (nlen (q k).num.natAbs) c) := (hb.cell (p := ⟨b1, k * 3 + 1, none⟩) hl1).trans g1; have g2' : wa.cell? ⟨b1, k * 3 + 2, none⟩ = some (.slice r2 (nlen (q k).den) c2) := (hb.cell (p := ⟨b1, k * 3 + 2, none⟩) hl1).trans g2; have g3' : wa.cell? ⟨b2, k * 3, none⟩ = some (.bool (decide ((q k).num < 0))) := (hb.cell (p := ⟨b2, k * 3, none⟩) hl2).trans g3; have g4' : wa.cell? ⟨b2, k * 3 + 1, none⟩ = some (.slice t (nlen (q k).num.natAbs) d) := (hb.cell (p := ⟨b2, k * 3 + 1, none⟩) hl2).trans g4; have g5' : wa.cell? ⟨b2, k * 3 + 2, none⟩ = some (.slice t2 (nlen (q k).den) d2) := (hb.cell (p := ⟨b2, k * 3 + 2, none⟩) hl2).trans g5; have hs_wa : wr.heap.size ≤ wa.heap.size := hb.size; replace H1 := Lib.hid (H1.out.below hb); replace H2 := Lib.hid (H2.out.below hb); replace H3 := Lib.hid (H3.out.below hb); replace H4 := Lib.hid (H4.out.below hb); replace HB := Lib.hid (HB.out.trans (hb.mono hs0)); replace hN : N ≤ wa.heap.size := Nat.le_trans hN hb.size; replace hs0 : w.heap.size ≤ wa.heap.size := Nat.le_trans hs0 hb.size; clear hb; skip))
      go_wp2_with fail
      go_roundw
      case rel => exact ⟨k + 1, by omega, by go_num, HB.out, hs0⟩
      case measure => simp [intOf]; omega
    · obtain rfl : k = n := by omega
      go_wp2_with fail
      go_ret
      exact ⟨rfl, HB.out⟩

/-- the text of q is sv, and q is small -/
def Tx (q : Rat) (sv : ByteArray) : Prop := 0 ≤ q.num ∧ q.num.natAbs < 1000000000 ∧ q.den < 1000000000 ∧ (⟨(txt q).toArray⟩ : ByteArray) = sv
theorem print_is {N : Nat} (s : Bool) (a d : Option Addr) (na ca nd cd L : Nat) (q : Rat) (w : World) (hN : N ≤ w.heap.size) (h : Rt N w s a na ca d nd cd q L) (hL : L ≤ 68719476736) (htab : TabW w) (sv : ByteArray) (ht : Tx q sv) :
    Calls Tryd.prog 34 #[.agg #[.bool s, .slice a na ca, .slice d nd cd]] w fun e w' => e = .returned (.string sv) ∧ Below w.heap.size w w' := by
  refine (ratPrint_any s a d na ca nd cd L q w hN h hL htab).mono ?_
  rintro e w' ⟨l, rfl, _, hl, hb⟩
  obtain ⟨h1, h2, h3, h4⟩ := ht
  exact ⟨by rw [hl h1 h2 h3, h4], hb⟩
theorem txt_small (q : Rat) (a b : Nat) (h0 : 0 ≤ q.num) (h1 : q.num.natAbs = a) (h2 : q.den = b) (ha : a < 10) (hb : b < 10) (h3 : ¬ b = 1) : Tx q ⟨#[UInt8.ofNat (48 + a), 47, UInt8.ofNat (48 + b)]⟩ := by
  refine ⟨h0, by omega, by omega, ?_⟩
  unfold txt
  rw [h1, h2, if_neg h3, Lib.decDigits_one ha, Lib.decDigits_one hb]; rfl

/-- a count from 0 to 6 -/
def sml (z : Int) : Bool := decide (0 ≤ z ∧ z ≤ 6)
theorem sml_nat {z : Int} (h : sml z = true) : ∃ y : Nat, z = (y : Int) ∧ y ≤ 6 := by
  unfold sml at h
  have h2 := of_decide_eq_true h
  exact ⟨z.toNat, by omega, by omega⟩

set_option maxHeartbeats 1000000 in
theorem small_any (z : Int) (w : World) (b : Bool) (hb : sml z = b) :
    Calls Tryd.prog 24 #[.int .i64 z] w fun e w' => e = .returned (.bool b) ∧ w = w' := by
  by_cases h0 : 0 ≤ z
  · by_cases h1 : z ≤ 6
    · obtain rfl : b = true := by rw [← hb]; exact decide_eq_true ⟨h0, h1⟩
      clear hb
      go_enter Tryd.func24, Tryd.ntmps24
      go_wp2_with fail
      go_ret
      exact ⟨rfl, rfl⟩
    · obtain rfl : b = false := by rw [← hb]; exact decide_eq_false (fun h => h1 h.2)
      clear hb
      go_enter Tryd.func24, Tryd.ntmps24
      go_wp2_with fail
      go_ret
      exact ⟨rfl, rfl⟩
  · obtain rfl : b = false := by rw [← hb]; exact decide_eq_false (fun h => h0 h.1)
    clear hb
    go_enter Tryd.func24, Tryd.ntmps24
    go_wp2_with fail
    go_ret
    exact ⟨rfl, rfl⟩

theorem cell_four (w : World) (b : Nat) (hb : b = w.heap.size) (v0 v1 v2 v3 : Value) (T : TypeId) : ∀ j u, [v0, v1, v2, v3][j]? = some u → (w.alloc (.cells #[v0, v1, v2, v3] T)).cell? ((⟨b, 0, none⟩ : Addr).add j) = some u := by
  subst hb
  intro j u hj
  match j, hj with
  | 0, hj => simp at hj; subst hj; simp [Addr.add]
  | 1, hj => simp at hj; subst hj; simp [Addr.add]
  | 2, hj => simp at hj; subst hj; simp [Addr.add]
  | 3, hj => simp at hj; subst hj; simp [Addr.add]
theorem Ot.alloc {B : Nat} {w : World} {v : Value} {n : Nat} {t : Nat → Nat → Nat} (h : Ot B w v n t) (o : Obj) : Ot B (w.alloc o) v n t := by
  obtain ⟨xs, h1, h2⟩ := h
  exact ⟨xs, World.ownsRow.alloc h1 _, h2⟩

def FewPost (w : World) (e : Ending) (w' : World) : Prop := ∃ p n cap t, e = .returned (.slice p n cap) ∧ n ≤ 6 ∧ Tz w' p n cap t ∧ (∀ i, i < n → ∀ c, c < 4 → t i c ≤ 6) ∧ Below w.heap.size w w'

set_option maxRecDepth 20000 in
set_option maxHeartbeats 4000000 in
theorem few_any (a : Option Addr) (n cap : Nat) (z : Nat → Nat → Int) (w : World) (h : Ts w a n cap z) :
    Calls Tryd.prog 7 #[.slice a n cap] w (FewPost w) := by
  obtain ⟨i0, hi, hzz⟩ := Option.map_eq_some_iff.1 Tryd.infoTab
  simp only [Prod.mk.injEq] at hzz
  obtain ⟨hz0, hz1, hz2⟩ := hzz
  have HA := Lib.hid h
  have bc := h.1
  have bm := h.2.1
  unfold maxLen at bm
  clear h
  go_enter Tryd.func7, Tryd.ntmps7
  go_wp2_with fail
  go_loopw [3, 8] (fun mv ix wr => ∃ (k j : Nat) (t : Nat → Nat → Nat), k ≤ n ∧ ix = .int .i64 k ∧ j ≤ 6 ∧ Ot w.heap.size wr mv j t ∧ Hid (∀ i, i < j → ∀ c, c < 4 → t i c ≤ 6) ∧ Below w.heap.size w wr) (fun _ ix _ => n - (intOf ix).toNat)
  case atStart => exact ⟨0, 0, fun _ _ => 0, Nat.zero_le _, rfl, by omega, Ot.start _ _ _, Lib.hid (fun i hi => by omega), Below.refl _ _⟩
  case round =>
    obtain ⟨k, j, t, hk, rfl, hj6, hot, hbd, hbel⟩ := hrel
    have HB := Lib.hid hbel
    have hs0 : w.heap.size ≤ wr.heap.size := hbel.size
    obtain ⟨p, cp, rfl, htz⟩ := hot.open
    have HOT := Lib.hid hot
    have pc1 := htz.1
    have pc2 := htz.2.1
    unfold maxLen at pc2
    have HTZ := Lib.hid htz
    clear hot htz
    by_cases hkn : k < n
    · obtain ⟨b, off, rfl, hcc⟩ := (HA.out.below hbel).2.2 (by omega)
      obtain ⟨g0, g1, g2, g3⟩ := hcc k hkn
      clear hcc hbel
      obtain ⟨x0, ex0⟩ : ∃ x, z k 0 = x := ⟨_, rfl⟩
      rw [ex0] at g0
      clear ex0
      obtain ⟨x1, ex1⟩ : ∃ x, z k 1 = x := ⟨_, rfl⟩
      rw [ex1] at g1
      clear ex1
      obtain ⟨x2, ex2⟩ : ∃ x, z k 2 = x := ⟨_, rfl⟩
      rw [ex2] at g2
      clear ex2
      obtain ⟨x3, ex3⟩ : ∃ x, z k 3 = x := ⟨_, rfl⟩
      rw [ex3] at g3
      clear ex3
      have hix0 : (0 : Int) ≤ (k : Int) := by omega
      have hix1 : (k : Int) < (n : Int) := by omega
      by_cases hj : j < 6
      · rcases Bool.eq_false_or_eq_true (sml x0) with hs0 | hs0
        · have HS0 := Lib.hid hs0
          clear hs0
          rcases Bool.eq_false_or_eq_true (sml x1) with hs1 | hs1
          · have HS1 := Lib.hid hs1
            clear hs1
            rcases Bool.eq_false_or_eq_true (sml x2) with hs2 | hs2
            · have HS2 := Lib.hid hs2
              clear hs2
              rcases Bool.eq_false_or_eq_true (sml x3) with hs3 | hs3
              · have HS3 := Lib.hid hs3
                clear hs3
                obtain ⟨y0, hy0, hyl0⟩ := sml_nat HS0.out
                obtain ⟨y1, hy1, hyl1⟩ := sml_nat HS1.out
                obtain ⟨y2, hy2, hyl2⟩ := sml_nat HS2.out
                obtain ⟨y3, hy3, hyl3⟩ := sml_nat HS3.out
                subst hy0
                subst hy1
                subst hy2
                subst hy3
                go_wp2_with fail
                refine (small_any _ _ true HS0.out).mono ?_
                rintro e w' ⟨rfl, rfl⟩
                go_wp2_with fail
                refine (small_any _ _ true HS1.out).mono ?_
                rintro e w' ⟨rfl, rfl⟩
                go_wp2_with fail
                refine (small_any _ _ true HS2.out).mono ?_
                rintro e w' ⟨rfl, rfl⟩
                go_wp2_with fail
                refine (small_any _ _ true HS3.out).mono ?_
                rintro e w' ⟨rfl, rfl⟩
                obtain ⟨xs, hown, hc4⟩ := HOT.out
                have HO := Lib.hid hown
                have HC4 := Lib.hid hc4
                clear hown hc4
                obtain ⟨t2, ht2⟩ : ∃ t2 : Nat → Nat → Nat, t2 = fun i c => if i = j then sel4 y0 y1 y2 y3 c else t i c := ⟨_, rfl⟩
                have HTA := Lib.hid (show ∀ i c, i ≠ j → t2 i c = t i c from fun i c h => by rw [ht2]; exact if_neg h)
                have HTB := Lib.hid (show ∀ c, t2 j c = sel4 y0 y1 y2 y3 c from fun c => by rw [ht2]; exact if_pos rfl)
                clear ht2
                go_wp2_with (at_builtin; refine wpList_append_own_at _ rfl (.tmp 35) (.tmp 37) 22 rfl w.heap.size 50 i0 (.agg #[.int .i64 0, .int .i64 0, .int .i64 0, .int .i64 0]) 4 32 Tryd.underTabs hi hz0 hz1 hz2 rfl (by decide) _ j xs rfl (World.ownsRow.alloc (World.ownsRow.alloc HO.out _) _) ⟨wr.heap.size + 1, 0, none⟩ 1 1 [.int .i64 ((y0 : Nat) : Int), .int .i64 ((y1 : Nat) : Int), .int .i64 ((y2 : Nat) : Int), .int .i64 ((y3 : Nat) : Int)] (by first | rfl | simp) rfl (cell_four _ _ (by simp) _ _ _ _ _) (by intro u hu; simp at hu; rcases hu with rfl | rfl | rfl | rfl <;> rfl) (by unfold maxLen; omega) (by omega) (by simp; omega) ?_; intro v2 w2 hm2 hg2 _ hat2; have HO2 := Lib.hid (show Ot w.heap.size w2 v2 (j + 1) t2 from ⟨_, hm2, C4.push (HC4.out.congr (fun i hi c _ => (HTA.out i c (by omega)).symm)) (by rw [HTB.out]; rfl) (by rw [HTB.out]; rfl) (by rw [HTB.out]; rfl) (by rw [HTB.out]; rfl)⟩); have HB2 := Lib.hid (((HB.out.alloc hs0 _).alloc (by simp; omega) _).grown hg2 (by simp; omega) (fun k hk => (World.ownsRow.lt HO.out k hk).1)); clear hm2 hg2 hat2)
                go_roundw
                case rel =>
                  refine ⟨k + 1, j + 1, t2, by omega, by go_num, by omega, HO2.out, Lib.hid (fun i hi c hc => ?_), HB2.out⟩
                  by_cases e : i = j
                  · subst e; rw [HTB.out]; unfold sel4; split
                    · exact hyl0
                    · split
                      · exact hyl1
                      · split
                        · exact hyl2
                        · exact hyl3
                  · rw [HTA.out i c e]; exact hbd.out i (by omega) c hc
                case measure => simp [intOf]; omega
              · have HS3 := Lib.hid hs3
                clear hs3
                go_wp2_with fail
                refine (small_any _ _ true HS0.out).mono ?_
                rintro e w' ⟨rfl, rfl⟩
                go_wp2_with fail
                refine (small_any _ _ true HS1.out).mono ?_
                rintro e w' ⟨rfl, rfl⟩
                go_wp2_with fail
                refine (small_any _ _ true HS2.out).mono ?_
                rintro e w' ⟨rfl, rfl⟩
                go_wp2_with fail
                refine (small_any _ _ false HS3.out).mono ?_
                rintro e w' ⟨rfl, rfl⟩
                go_wp2_with fail
                go_roundw
                case rel =>
                  exact ⟨k + 1, j, t, by omega, by go_num, hj6, HOT.out.alloc _, hbd, HB.out.alloc hs0 _⟩
                case measure => simp [intOf]; omega
            · have HS2 := Lib.hid hs2
              clear hs2
              go_wp2_with fail
              refine (small_any _ _ true HS0.out).mono ?_
              rintro e w' ⟨rfl, rfl⟩
              go_wp2_with fail
              refine (small_any _ _ true HS1.out).mono ?_
              rintro e w' ⟨rfl, rfl⟩
              go_wp2_with fail
              refine (small_any _ _ false HS2.out).mono ?_
              rintro e w' ⟨rfl, rfl⟩
              go_wp2_with fail
              go_roundw
              case rel =>
                exact ⟨k + 1, j, t, by omega, by go_num, hj6, HOT.out.alloc _, hbd, HB.out.alloc hs0 _⟩
              case measure => simp [intOf]; omega
          · have HS1 := Lib.hid hs1
            clear hs1
            go_wp2_with fail
            refine (small_any _ _ true HS0.out).mono ?_
            rintro e w' ⟨rfl, rfl⟩
            go_wp2_with fail
            refine (small_any _ _ false HS1.out).mono ?_
            rintro e w' ⟨rfl, rfl⟩
            go_wp2_with fail
            go_roundw
            case rel =>
              exact ⟨k + 1, j, t, by omega, by go_num, hj6, HOT.out.alloc _, hbd, HB.out.alloc hs0 _⟩
            case measure => simp [intOf]; omega
        · have HS0 := Lib.hid hs0
          clear hs0
          go_wp2_with fail
          refine (small_any _ _ false HS0.out).mono ?_
          rintro e w' ⟨rfl, rfl⟩
          go_wp2_with fail
          go_roundw
          case rel =>
            exact ⟨k + 1, j, t, by omega, by go_num, hj6, HOT.out.alloc _, hbd, HB.out.alloc hs0 _⟩
          case measure => simp [intOf]; omega
      · have hjz : ¬ (j : Int) < 6 := by omega
        go_wp2_with fail
        go_roundw
        case rel =>
          exact ⟨k + 1, j, t, by omega, by go_num, hj6, HOT.out.alloc _, hbd, HB.out.alloc hs0 _⟩
        case measure => simp [intOf]; omega
    · obtain rfl : k = n := by omega
      clear hbel
      go_wp2_with fail
      go_ret
      exact ⟨p, j, cp, t, rfl, hj6, HTZ.out, hbd.out, HB.out⟩

def SwpPost (w : World) (n : Nat) (t : Nat → Nat → Nat) (e : Ending) (w' : World) : Prop := ∃ p cap, e = .returned (.slice p n cap) ∧ Tz w' p n cap t ∧ Below w.heap.size w w'

set_option maxRecDepth 20000 in
set_option maxHeartbeats 4000000 in
theorem swapped_any (a : Option Addr) (n cap : Nat) (t : Nat → Nat → Nat) (w : World) (h : Tz w a n cap t) (hn : n ≤ 20) (hc : cntS t n) :
    Calls Tryd.prog 8 #[.slice a n cap] w (SwpPost w n (swS t)) := by
  obtain ⟨i0, hi, hzz⟩ := Option.map_eq_some_iff.1 Tryd.infoTab
  simp only [Prod.mk.injEq] at hzz
  obtain ⟨hz0, hz1, hz2⟩ := hzz
  have HA := Lib.hid h
  have HCN := Lib.hid hc
  have bc := h.1
  have bm := h.2.1
  unfold maxLen at bm
  clear h hc
  go_enter Tryd.func8, Tryd.ntmps8
  go_wp2_with fail
  go_loopw [3, 8] (fun mv ix wr => ∃ k : Nat, k ≤ n ∧ ix = .int .i64 k ∧ Ot w.heap.size wr mv k (swS t) ∧ Below w.heap.size w wr) (fun _ ix _ => n - (intOf ix).toNat)
  case atStart => exact ⟨0, Nat.zero_le _, rfl, Ot.start _ _ _, Below.refl _ _⟩
  case round =>
    obtain ⟨k, hk, rfl, hot, hbel⟩ := hrel
    have HB := Lib.hid hbel
    have hs0 : w.heap.size ≤ wr.heap.size := hbel.size
    by_cases hkn : k < n
    · obtain ⟨b, off, rfl, hcc⟩ := (HA.out.below hbel).2.2 (by omega)
      obtain ⟨g0, g1, g2, g3⟩ := hcc k hkn
      clear hcc
      have hx0 := HCN.out k hkn 0 (by omega)
      obtain ⟨x0, ex0⟩ : ∃ x, t k 0 = x := ⟨_, rfl⟩
      rw [ex0] at hx0 g0
      have EX0 := Lib.hid ex0
      clear ex0
      have hx1 := HCN.out k hkn 1 (by omega)
      obtain ⟨x1, ex1⟩ : ∃ x, t k 1 = x := ⟨_, rfl⟩
      rw [ex1] at hx1 g1
      have EX1 := Lib.hid ex1
      clear ex1
      have hx2 := HCN.out k hkn 2 (by omega)
      obtain ⟨x2, ex2⟩ : ∃ x, t k 2 = x := ⟨_, rfl⟩
      rw [ex2] at hx2 g2
      have EX2 := Lib.hid ex2
      clear ex2
      have hx3 := HCN.out k hkn 3 (by omega)
      obtain ⟨x3, ex3⟩ : ∃ x, t k 3 = x := ⟨_, rfl⟩
      rw [ex3] at hx3 g3
      have EX3 := Lib.hid ex3
      clear ex3
      have hix0 : (0 : Int) ≤ (k : Int) := by omega
      have hix1 : (k : Int) < (n : Int) := by omega
      clear hbel
      obtain ⟨xs, hown, hc4⟩ := hot
      have HO := Lib.hid hown
      have HC4 := Lib.hid hc4
      clear hown hc4
      go_wp2_with (at_builtin; refine wpList_append_own_at _ rfl (.tmp 12) (.tmp 22) 22 rfl w.heap.size 50 i0 (.agg #[.int .i64 0, .int .i64 0, .int .i64 0, .int .i64 0]) 4 32 Tryd.underTabs hi hz0 hz1 hz2 rfl (by decide) _ k xs rfl (World.ownsRow.alloc (World.ownsRow.alloc HO.out _) _) ⟨wr.heap.size + 1, 0, none⟩ 1 1 [.int .i64 ((x2 : Nat) : Int), .int .i64 ((x3 : Nat) : Int), .int .i64 ((x0 : Nat) : Int), .int .i64 ((x1 : Nat) : Int)] (by first | rfl | simp) rfl (cell_four _ _ (by simp) _ _ _ _ _) (by intro u hu; simp at hu; rcases hu with rfl | rfl | rfl | rfl <;> rfl) (by unfold maxLen; omega) (by omega) (by simp; omega) ?_; intro v2 w2 hm2 hg2 _ hat2; have HO2 := Lib.hid (show Ot w.heap.size w2 v2 (k + 1) (swS t) from ⟨_, hm2, HC4.out.push (by show _ = Value.int .i64 ((t k 2 : Nat) : Int); rw [EX2.out]) (by show _ = Value.int .i64 ((t k 3 : Nat) : Int); rw [EX3.out]) (by show _ = Value.int .i64 ((t k 0 : Nat) : Int); rw [EX0.out]) (by show _ = Value.int .i64 ((t k 1 : Nat) : Int); rw [EX1.out])⟩); have HB2 := Lib.hid (((HB.out.alloc hs0 _).alloc (by simp; omega) _).grown hg2 (by simp; omega) (fun k hk => (World.ownsRow.lt HO.out k hk).1)); clear hm2 hg2 hat2)
      go_roundw
      case rel =>
        exact ⟨k + 1, by omega, by go_num, HO2.out, HB2.out⟩
      case measure => simp [intOf]; omega
    · obtain rfl : k = n := by omega
      obtain ⟨p, cp, rfl, htz⟩ := hot.open
      have pc1 := htz.1
      have pc2 := htz.2.1
      unfold maxLen at pc2
      have HTZ := Lib.hid htz
      clear hbel htz hot
      go_wp2_with fail
      go_ret
      exact ⟨p, cp, rfl, HTZ.out, HB.out⟩

end Go.Proofs.YtmecipfdelgfbaaDoor
