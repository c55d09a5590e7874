/- Contracts of slices.insertionSortCmpFunc, swapRangeCmpFunc, rotateCmpFunc, symMergeCmpFunc, stableCmpFunc, SortStableFunc at a row of int that the call made: at most 80 elements; 'cmp' may lay blocks. -/
import Derived.Test.YtnillajhhimeiaaDoorSrtP
import Derived.WalkKit
import Derived.WalkSpells
import Derived.Deep.QuietTactic
import Derived.BigQuiet
import Derived.Outline
import Derived.Lib.Hide
import Derived.WalkSmall
import Derived.Deep.OwnRows
import Derived.Deep.DeepCutAuto
import Derived.Deep.RegionHeld3
import Derived.Shelf.RegionOpenPlain
namespace Go.Proofs.YtnillajhhimeiaaDoor
open Go.RowKit

/-- block b is a row of k numbers of type int, none frozen -/
def Ri (w : World) (b k : Nat) : Prop := ∃ cur, w.heap[b]? = some (.cells cur 3 (0, 0)) ∧ cur.size = k
theorem Ri.lt {w : World} {b k : Nat} (h : Ri w b k) : b < w.heap.size := by obtain ⟨c, h, _⟩ := h; exact (Array.getElem?_eq_some_iff.1 h).1
theorem Ri.below {w w' : World} {b k : Nat} (h : Ri w b k) (hb : Below w.heap.size w w') : Ri w' b k := by
  have hl := h.lt
  obtain ⟨c, h, hk⟩ := h; exact ⟨c, (hb.block b hl).trans h, hk⟩
theorem Ri.frozen {w : World} {b k : Nat} (h : Ri w b k) (o : Nat) : w.frozen? ⟨b, o, none⟩ = false := by
  obtain ⟨c, h, rfl⟩ := h; simp [World.frozen?, h]
theorem Ri.set {w : World} {b k : Nat} (h : Ri w b k) (p : Addr) (v : Value) : Ri (w.setCell p v) b k := by
  obtain ⟨c, h, hk⟩ := h
  by_cases e : b = p.block
  · subst e
    refine ⟨if p.spot.isSome then c else c.setIfInBounds p.off v, ?_, ?_⟩
    · simp [World.setCell, Array.getElem?_modify, h]
    · split <;> simp [hk]
  · exact ⟨c, (Below.heap_setCell _ _ _ _ e).trans h, hk⟩

theorem bel_of_drw {w w' : World} (h : Below w.drew.heap.size w.drew w') : Below w.heap.size w w' := (Below.refl _ _).drew.trans h

/-- since w0 nothing has turned but block g and new blocks -/
def Skp (g : Nat) (w0 w : World) : Prop := Below 0 w0 w ∧ ∀ b, b < w0.heap.size → b ≠ g → w.heap[b]? = w0.heap[b]?
theorem Skp.refl (g : Nat) (w : World) : Skp g w w := ⟨Below.refl _ _, fun _ _ _ => rfl⟩
theorem Skp.size {g : Nat} {w0 w : World} (h : Skp g w0 w) : w0.heap.size ≤ w.heap.size := h.1.size
theorem Skp.below {g : Nat} {w0 w w' : World} (h : Skp g w0 w) (hb : Below w.heap.size w w') : Skp g w0 w' :=
  ⟨h.1.trans (hb.mono (Nat.zero_le _)), fun b hl hne => (hb.block b (Nat.lt_of_lt_of_le hl h.size)).trans (h.2 b hl hne)⟩
theorem Skp.set {g : Nat} {w0 w : World} (h : Skp g w0 w) (o : Nat) (v : Value) : Skp g w0 (w.setCell ⟨g, o, none⟩ v) :=
  ⟨h.1.setCell (Nat.zero_le _) v, fun b hl hne => (Below.heap_setCell w ⟨g, o, none⟩ v b hne).trans (h.2 b hl hne)⟩
theorem Skp.drew {g : Nat} {w0 w : World} (h : Skp g w0 w) : Skp g w0 w.drew := ⟨h.1.drew, h.2⟩

/-- since w0 only the row g has turned: n numbers below K, which are d -/
structure Sw (g n K : Nat) (d : Nat → Nat) (w0 w : World) : Prop where
  sk : Skp g w0 w
  bk : Ri w g n
  cell : ∀ i, i < n → w.cell? ⟨g, i, none⟩ = some (.int .i64 (d i))
  lt : ∀ i, i < n → d i < K
theorem Sw.below {g n K : Nat} {d : Nat → Nat} {w0 w w' : World} (h : Sw g n K d w0 w) (hb : Below w.heap.size w w') : Sw g n K d w0 w' :=
  ⟨h.sk.below hb, h.bk.below hb, fun i hi => (hb.cell (p := ⟨g, i, none⟩) h.bk.lt).trans (h.cell i hi), h.lt⟩
theorem Sw.drew {g n K : Nat} {d : Nat → Nat} {w0 w : World} (h : Sw g n K d w0 w) : Sw g n K d w0 w.drew := ⟨h.sk.drew, h.bk, h.cell, h.lt⟩
theorem Sw.of_drew {g n K : Nat} {d : Nat → Nat} {w0 w w' : World} (h : Sw g n K d w0 w) (hb : Below w.heap.size w.drew w') : Sw g n K d w0 w' := h.drew.below hb
theorem Sw.swp {g n K i j : Nat} {d : Nat → Nat} {w0 w : World} (h : Sw g n K d w0 w) (hi : i < n) (hj : j < n) :
    Sw g n K (swpN d i j) w0 ((w.setCell ⟨g, i, none⟩ (.int .i64 (d j))).setCell ⟨g, j, none⟩ (.int .i64 (d i))) := by
  refine ⟨(h.sk.set _ _).set _ _, (h.bk.set _ _).set _ _, fun k hk => ?_, fun k hk => ?_⟩ <;> unfold swpN
  · by_cases e2 : k = j
    · subst e2
      rw [World.cell?_setCell_same' _ _ _ (by
        by_cases e : i = k
        · subst e; rw [World.cell?_setCell_same _ _ _ (h.cell _ hk)]; rfl
        · rw [World.cell?_setCell_other _ _ _ _ (by intro e'; simp only [Addr.mk.injEq] at e'; omega), h.cell _ hk]; rfl)]
      by_cases e : k = i
      · rw [if_pos e, e]
      · rw [if_neg e, if_pos rfl]
    · rw [World.cell?_setCell_other _ _ _ _ (by intro e'; simp only [Addr.mk.injEq] at e'; omega)]
      by_cases e : k = i
      · subst e; rw [if_pos rfl, World.cell?_setCell_same _ _ _ (h.cell _ hk)]
      · rw [if_neg e, if_neg e2, World.cell?_setCell_other _ _ _ _ (by intro e'; simp only [Addr.mk.injEq] at e'; omega), h.cell _ hk]
  · by_cases e : k = i
    · rw [if_pos e]; exact h.lt j hj
    · rw [if_neg e]
      by_cases e2 : k = j
      · rw [if_pos e2]; exact h.lt i hi
      · rw [if_neg e2]; exact h.lt k hk
/-- the second place still holds a number behind the first store -/
theorem Sw.mid {g n K i j : Nat} {d : Nat → Nat} {w0 w : World} (h : Sw g n K d w0 w) (hj : j < n) (v : Value) : ∃ u, (w.setCell ⟨g, i, none⟩ v).cell? ⟨g, j, none⟩ = some u := by
  by_cases e : i = j
  · subst e; exact ⟨v, World.cell?_setCell_same _ _ _ (h.cell _ hj)⟩
  · exact ⟨_, (World.cell?_setCell_other _ _ _ _ (by intro e'; simp only [Addr.mk.injEq] at e'; omega)).trans (h.cell j hj)⟩

/-- what is asked of 'cmp': called with x and a smaller number y it tells whether x stands before y -/
def Cmp (g K : Nat) (T : Nat → Nat → Bool) (cf : Nat) (cb : Array Value) (w0 : World) : Prop :=
  ∀ W x y, Skp g w0 W → y < x → x < K → Calls Tryd.prog cf (#[.int .i64 x, .int .i64 y] ++ cb) W fun e w' => ∃ c : Int, e = .returned (.int .i64 c) ∧ Below W.heap.size W w' ∧ (c < 0 ↔ T x y = true)
theorem Cmp.at {g n K : Nat} {d : Nat → Nat} {T : Nat → Nat → Bool} {cf : Nat} {cb : Array Value} {w0 W : World} (h : Cmp g K T cf cb w0) (S : Sw g n K d w0 W) {i j : Nat} (hi : i < n) (hd : d j < d i) :
    Calls Tryd.prog cf (#[.int .i64 (d i : Nat), .int .i64 (d j : Nat)] ++ cb) W fun e w' => ∃ c : Int, e = .returned (.int .i64 c) ∧ Below W.heap.size W w' ∧ (c < 0 ↔ T (d i) (d j) = true) :=
  h W (d i) (d j) S.sk hd (S.lt i hi)


set_option maxHeartbeats 8000000 in
set_option maxRecDepth 100000 in
/-- slices.insertionSortCmpFunc at growing numbers -/
theorem insertion_any (g n K cap a b : Nat) (T : Nat → Nat → Bool) (hO : Ord T) (cf : Nat) (cb : Array Value) (d : Nat → Nat) (w0 w : World) (eg : ∀ args w, (callFunc cf args).run Tryd.prog w = .ok (.enter cf args) w)
    (hC : Cmp g K T cf cb w0) (hS : Sw g n K d w0 w) (hI : Inc a b d) (hab : a ≤ b) (hb : b ≤ n) (hn : n ≤ 2 ^ 40) :
    Calls Tryd.prog 81 #[.slice (some ⟨g, 0, none⟩) n cap, .int .i64 a, .int .i64 b, .func (.func cf) #[] cb] w fun e w' => e = .returned (.tuple #[]) ∧ ∃ d', Sw g n K d' w0 w' ∧ Rng a b d d' ∧ Srt T a b d' := by
  have HO := Lib.hid hO
  have HC := Lib.hid hC
  have HS := Lib.hid hS
  have HI := Lib.hid hI
  clear hO hC hS hI
  have mixed : Tryd.prog.follows Departure.mixedOrders = true := by kernel_rfl
  go_enter Tryd.func81, Tryd.ntmps81
  go_wp2
  go_loopw [8] (fun vi wr => ∃ (i : Nat) (dk : Nat → Nat), vi = .int .i64 i ∧ a < i ∧ (i ≤ b ∨ i = a + 1) ∧ Hid (Sw g n K dk w0 wr) ∧ Hid (Rng a i d dk) ∧ Hid (Srt T a i dk)) (fun vi _ => b + 1 - (intOf vi).toNat)
  case atStart => exact ⟨a + 1, d, by go_num, by omega, .inr rfl, HS, Lib.hid (Rng.refl _ _ _), Lib.hid (fun i j h1 h2 h3 => by omega)⟩
  case round =>
    clear HS
    obtain ⟨i, dk, rfl, hai, hib, HS, HR, HT⟩ := hrel
    by_cases hlt : i < b
    · have hltz : (i : Int) < (b : Int) := by omega
      go_wp2
      go_loopw [9] (fun vj wr2 => ∃ (j : Nat) (dj : Nat → Nat), vj = .int .i64 j ∧ a ≤ j ∧ j ≤ i ∧ Hid (Sw g n K dj w0 wr2) ∧ Hid (Ins T a i j d dj)) (fun vj _ => (intOf vj).toNat)
      case atStart => exact ⟨i, dk, rfl, by omega, Nat.le_refl _, HS, Lib.hid (Ins.start HI.out hlt hai HR.out HT.out)⟩
      case round =>
        clear HS
        obtain ⟨j, dj, rfl, haj, hji, HS, HJ⟩ := hrel
        have OUT := Lib.hid (fun (hh : j ≤ a ∨ ¬ T (dj j) (dj (j - 1)) = true) => Ins.stop HO.out HJ.out haj hji hh)
        by_cases hja : a < j
        · have hjaz : (a : Int) < (j : Int) := by omega
          obtain ⟨jp, rfl⟩ : ∃ q, j = q + 1 := ⟨j - 1, by omega⟩
          have zj : ((jp + 1 : Nat) : Int) = (jp : Int) + 1 := by omega
          have hjad : decide ((jp : Int) + 1 > (a : Int)) = true := decide_eq_true (by omega)
          have hjaz' : (a : Int) < (jp : Int) + 1 := by omega
          have ea : ((jp : Int) + 1).toNat = jp + 1 := by omega
          have pa : (0 : Int) ≤ (jp : Int) + 1 := by omega
          have ba : (jp : Int) + 1 < (n : Int) := by omega
          have ra : IntKind.i64.wrap ((jp : Int) + 1) = (jp : Int) + 1 := by rw [IntKind.wrap_i64]; omega
          have bc : (jp : Int) < (n : Int) := by omega
          have rc : IntKind.i64.wrap ((jp : Int)) = (jp : Int) := by rw [IntKind.wrap_i64]; omega
          have l1 := HS.out.cell (jp + 1) (by omega)
          have l2 := HS.out.cell jp (by omega)
          obtain ⟨x, hx⟩ : ∃ x, dj (jp + 1) = x := ⟨_, rfl⟩
          obtain ⟨y, hy⟩ : ∃ x, dj jp = x := ⟨_, rfl⟩
          rw [hx] at l1
          rw [hy] at l2
          have hlt2 : y < x := by have := HJ.out.big jp (by omega) (by omega) (by omega); omega
          have hxK : x < K := by have := HS.out.lt (jp + 1) (by omega); omega
          have HX := Lib.hid hx
          have HY := Lib.hid hy
          clear hx hy
          by_cases hT : T x y = true
          · have HT2 := Lib.hid hT
            clear hT
            go_wp2_with fail
            go_region_held3 (fun w' => w'.cell? ⟨g, jp + 1, none⟩ = some (.int .i64 x) ∧ w'.cell? ⟨g, jp, none⟩ = some (.int .i64 y))
              (first | (go_keep; done) | ((try dsimp only); (repeat' apply And.intro) <;> (first | assumption | (go_keep; done))))
              (first | (go_at_fn cf; refine (HC.out _ x y (by first | with_reducible exact HS.out.sk | with_reducible exact HS.out.sk.drew) hlt2 hxK).mono ?_; rintro e w1 ⟨c, rfl, hb, hc⟩; replace hb : Below wr.heap.size wr w1 := bel_of_drw hb; have l3 := (hb.cell (p := ⟨g, jp + 1, none⟩) HS.out.bk.lt).trans l1; have l4 := (hb.cell (p := ⟨g, jp, none⟩) HS.out.bk.lt).trans l2; have HS1 := Lib.hid (HS.out.below hb); have hcl : c < 0 := hc.2 HT2.out; clear hc hb l1 l2 HS))
            have hcd : decide (c < 0) = true := decide_eq_true hcl
            clear hcl
            go_wp2_with fail
            have HS2 := Lib.hid (HS1.out.swp (i := jp + 1) (j := jp) (by omega) (by omega))
            have hf1 := HS1.out.bk.frozen (jp + 1)
            have hf2 := HS1.out.bk.frozen jp
            obtain ⟨u, l5⟩ := HS1.out.mid (i := jp + 1) (j := jp) (by omega) (.int .i64 y)
            rw [HX.out, HY.out] at HS2
            go_big_region_o
            clear l3 l4 l5 hf1 hf2 HS1
            generalize hw2 : World.setCell (World.setCell w1 _ _) _ _ = w2 at HS2 ⊢
            clear hw2
            go_wp2
            go_roundw
            case rel => exact ⟨jp, swpN dj (jp + 1) jp, by first | rfl | go_num | (congr 1; omega), by omega, by omega, by first | exact HS2 | exact Lib.hid HS2.out.drew, Lib.hid (HJ.out.step hja hji (by rw [HX.out, Nat.add_sub_cancel, HY.out]; exact HT2.out))⟩
            case measure => (first | (simp [intOf]; done) | (simp [intOf]; omega))
          · have HT2 := Lib.hid hT
            clear hT
            go_wp2_with fail
            go_region_held3 (fun w' => w'.cell? ⟨g, jp + 1, none⟩ = some (.int .i64 x) ∧ w'.cell? ⟨g, jp, none⟩ = some (.int .i64 y))
              (first | (go_keep; done) | ((try dsimp only); (repeat' apply And.intro) <;> (first | assumption | (go_keep; done))))
              (first | (go_at_fn cf; refine (HC.out _ x y (by first | with_reducible exact HS.out.sk | with_reducible exact HS.out.sk.drew) hlt2 hxK).mono ?_; rintro e w1 ⟨c, rfl, hb, hc⟩; replace hb : Below wr.heap.size wr w1 := bel_of_drw hb; have l3 := (hb.cell (p := ⟨g, jp + 1, none⟩) HS.out.bk.lt).trans l1; have l4 := (hb.cell (p := ⟨g, jp, none⟩) HS.out.bk.lt).trans l2; have HS1 := Lib.hid (HS.out.below hb); have hcl : ¬ c < 0 := fun hh => HT2.out (hc.1 hh); clear hc hb l1 l2 HS))
            have hcd : decide (c < 0) = false := decide_eq_false (by omega)
            clear l3 l4
            have HZ := Lib.hid (OUT.out (.inr (by rw [Nat.add_sub_cancel, HX.out, HY.out]; exact HT2.out)))
            go_wp2
            go_roundw
            case rel => exact ⟨i + 1, dj, by go_num, by omega, by omega, HS1, Lib.hid HZ.out.1, Lib.hid HZ.out.2⟩
            case measure => (first | (simp [intOf]; done) | (simp [intOf]; omega))
        · have hjaz : decide ((j : Int) > (a : Int)) = false := decide_eq_false (by omega)
          have hjaz' : ¬ (a : Int) < (j : Int) := by omega
          have HZ := Lib.hid (OUT.out (.inl (by omega)))
          go_wp2_with fail
          go_big_region_o
          have HS1 := Lib.hid HS.out.drew
          clear HS
          go_wp2
          go_roundw
          case rel => exact ⟨i + 1, dj, by go_num, by omega, by omega, HS1, Lib.hid HZ.out.1, Lib.hid HZ.out.2⟩
          case measure => (first | (simp [intOf]; done) | (simp [intOf]; omega))
    · have hltz : ¬ (i : Int) < (b : Int) := by omega
      go_wp2
      go_end0
      refine ⟨rfl, dk, HS.out, ?_⟩
      by_cases e : i ≤ b
      · obtain rfl : i = b := by omega
        exact ⟨HR.out, HT.out⟩
      · refine ⟨⟨fun k hk => ?_, fun k h1 h2 => by omega⟩, fun p q h1 h2 h3 => by omega⟩
        by_cases e2 : k = a
        · obtain ⟨j, j1, j2, e3⟩ := HR.out.2 k (by omega) (by omega)
          rw [e3]; congr 1; omega
        · exact HR.out.1 k (by omega)

set_option maxHeartbeats 8000000 in
set_option maxRecDepth 100000 in
/-- slices.swapRangeCmpFunc: two ranges exchanged -/
theorem swapRange_any (g n K cap a b k : Nat) (cv : Value) (d : Nat → Nat) (w0 w : World) (hS : Sw g n K d w0 w) (hab : a + k ≤ b) (hb : b + k ≤ n) (hn : n ≤ 2 ^ 40) :
    Calls Tryd.prog 102 #[.slice (some ⟨g, 0, none⟩) n cap, .int .i64 a, .int .i64 b, .int .i64 k, cv] w fun e w' => e = .returned (.tuple #[]) ∧ Sw g n K (swr a b k d) w0 w' := by
  have HS := Lib.hid hS
  clear hS
  have mixed : Tryd.prog.follows Departure.mixedOrders = true := by kernel_rfl
  go_enter Tryd.func102, Tryd.ntmps102
  go_wp2
  go_loopw [10] (fun vi wr => ∃ i : Nat, vi = .int .i64 i ∧ i ≤ k ∧ Hid (Sw g n K (swr a b i d) w0 wr)) (fun vi _ => k - (intOf vi).toNat)
  case atStart => exact ⟨0, rfl, Nat.zero_le _, by rw [swr_zero]; exact HS⟩
  case round =>
    clear HS
    obtain ⟨i, rfl, hik, HS⟩ := hrel
    by_cases hlt : i < k
    · have hltz : (i : Int) < (k : Int) := by omega
      have ea : ((a : Int) + (i : Int)).toNat = a + i := by omega
      have eb : ((b : Int) + (i : Int)).toNat = b + i := by omega
      have pa : (0 : Int) ≤ (a : Int) + (i : Int) := by omega
      have pb : (0 : Int) ≤ (b : Int) + (i : Int) := by omega
      have ba : (a : Int) + (i : Int) < (n : Int) := by omega
      have bb : (b : Int) + (i : Int) < (n : Int) := by omega
      have ra : IntKind.i64.wrap ((a : Int) + (i : Int)) = (a : Int) + (i : Int) := by rw [IntKind.wrap_i64]; omega
      have rb : IntKind.i64.wrap ((b : Int) + (i : Int)) = (b : Int) + (i : Int) := by rw [IntKind.wrap_i64]; omega
      have l1 := HS.out.cell (a + i) (by omega)
      have l2 := HS.out.cell (b + i) (by omega)
      have HS2 := Lib.hid (HS.out.swp (i := a + i) (j := b + i) (by omega) (by omega))
      rw [swr_succ a b i d (by omega)] at HS2
      obtain ⟨x, hx⟩ : ∃ x, swr a b i d (a + i) = x := ⟨_, rfl⟩
      obtain ⟨y, hy⟩ : ∃ x, swr a b i d (b + i) = x := ⟨_, rfl⟩
      rw [hx] at l1 HS2
      rw [hy] at l2 HS2
      clear hx hy
      have hf1 := HS.out.bk.frozen (a + i)
      have hf2 := HS.out.bk.frozen (b + i)
      obtain ⟨u, l5⟩ := HS.out.mid (i := a + i) (j := b + i) (by omega) (.int .i64 y)
      clear HS
      go_wp2_with fail
      go_big_region_o
      clear l1 l2 l5 hf1 hf2
      generalize hw2 : World.setCell (World.setCell wr _ _) _ _ = w2 at HS2 ⊢
      clear hw2
      go_wp2
      go_roundw
      case rel => exact ⟨i + 1, by go_num, by omega, by first | exact HS2 | exact Lib.hid HS2.out.drew⟩
      case measure => (first | (simp [intOf]; done) | (simp [intOf]; omega))
    · have hltz : ¬ (i : Int) < (k : Int) := by omega
      obtain rfl : i = k := by omega
      go_wp2
      go_end0
      exact ⟨rfl, HS.out⟩

end Go.Proofs.YtnillajhhimeiaaDoor
