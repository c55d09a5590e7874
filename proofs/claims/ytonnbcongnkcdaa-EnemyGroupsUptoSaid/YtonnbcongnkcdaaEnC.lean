/- slices.Compact at a slice of pairs of the call's own. No condition. -/
import Derived.Test.YtonnbcongnkcdaaEnA
import Derived.Lib.SliceRun
namespace Go.Proofs.Ytonnbcongnkcdaa
open Go.RowKit

theorem own_setCell {w : World} {base g n size cap : Nat} {e : TypeId} {xs : List Value} (h : w.ownsRow base e size (.slice (some ⟨g, 0, none⟩) n cap) n xs) (i : Nat) (v : Value) : (w.setCell ⟨g, i, none⟩ v).ownsRow base e size (.slice (some ⟨g, 0, none⟩) n cap) n (xs.set i v) := by
  refine ⟨by rw [List.length_set]; exact h.1, ?_⟩
  rcases h.2 with ⟨hv, _⟩ | ⟨g', cap', cur, hv, hb, hh, hn', hcap, hs, ht⟩
  · cases hv
  · simp only [Value.slice.injEq, Option.some.injEq, Addr.mk.injEq] at hv
    obtain ⟨⟨rfl, _⟩, _, rfl⟩ := hv
    refine .inr ⟨g, cap, cur.setIfInBounds i v, rfl, hb, ?_, hn', hcap, by simpa using hs, ?_⟩
    · rw [Go.Sort.setCell_eq]
      unfold Go.Sort.mapBlock
      simp only [Array.getElem?_modify, if_true, hh, Option.map_some, Go.Sort.onCells]
    · rw [Array.toList_setIfInBounds, List.take_set, ht]
theorem flat_set : ∀ (L : List (Int × Int)) (k : Nat) (x y : Int), ((L.flatMap enc2).set (k * 2) (.int .i64 x)).set (k * 2 + 1) (.int .i64 y) = (L.set k (x, y)).flatMap enc2
  | [], k, x, y => by simp
  | p :: L, 0, x, y => by simp [enc2]
  | p :: L, k + 1, x, y => by
    rw [List.flatMap_cons, List.set_cons_succ, List.flatMap_cons, ← flat_set L k x y, show (k + 1) * 2 = k * 2 + 1 + 1 by omega]
    simp [enc2]
theorem Op2.set {B : Nat} {E : TypeId} {w : World} {g cap : Nat} {L : List (Int × Int)} (h : Op2 B E w (.slice (some ⟨g, 0, none⟩) L.length cap) L) (k : Nat) (x y : Int) :
    Op2 B E ((w.setCell ⟨g, k * 2, none⟩ (.int .i64 x)).setCell ⟨g, k * 2 + 1, none⟩ (.int .i64 y)) (.slice (some ⟨g, 0, none⟩) (L.set k (x, y)).length cap) (L.set k (x, y)) := by
  unfold Op2 at *
  rw [List.length_set, ← flat_set]
  exact own_setCell (own_setCell h _ _) _ _
theorem own_setCells {base g n size cap : Nat} {e : TypeId} {xs : List Value} : ∀ (vs : List Value) (i : Nat) (w : World), n * size ≤ i → w.ownsRow base e size (.slice (some ⟨g, 0, none⟩) n cap) n xs → (w.setCells g i vs).ownsRow base e size (.slice (some ⟨g, 0, none⟩) n cap) n xs ∧ w.grownBy (w.setCells g i vs) (some g)
  | [], i, w, _, h => ⟨h, ⟨rfl, rfl, rfl, Nat.le_refl _, fun _ _ _ => rfl⟩⟩
  | v :: vs, i, w, hi, h => by
    have h1 := own_setCell h i v
    rw [List.set_eq_of_length_le (by rw [h.1]; exact hi)] at h1
    obtain ⟨h2, h3⟩ := own_setCells vs (i + 1) (w.setCell ⟨g, i, none⟩ v) (by omega) h1
    refine ⟨h2, ⟨h3.os, h3.tape, h3.output, Nat.le_trans (by simp [World.setCell]) h3.size, fun k hk hne => ?_⟩⟩
    rw [show w.setCells g i (v :: vs) = (w.setCell ⟨g, i, none⟩ v).setCells g (i + 1) vs from rfl, h3.block k (by simpa [World.setCell] using hk) hne]
    exact Below.heap_setCell w _ _ k (fun e => hne (by rw [e]))
theorem own_frozen {w : World} {base g n size cap : Nat} {e : TypeId} {xs : List Value} (h : w.ownsRow base e size (.slice (some ⟨g, 0, none⟩) n cap) n xs) (o : Nat) : w.frozen? ⟨g, o, none⟩ = false := by
  rcases h.2 with ⟨hv, _⟩ | ⟨g', cap', cur, hv, hb, hh, _⟩
  · cases hv
  · simp only [Value.slice.injEq, Option.some.injEq, Addr.mk.injEq] at hv
    obtain ⟨⟨rfl, _⟩, _⟩ := hv
    simp [World.frozen?, hh]
theorem zero_two (n : Nat) : (Builtin.zeroCells #[.int .i64 0, .int .i64 0] n).toList = List.replicate (n * 2) (.int .i64 0) := by
  apply List.ext_getElem
  · simp [Builtin.zeroCells]
  · intro i h1 h2
    simp [Builtin.zeroCells]
    rcases Nat.mod_two_eq_zero_or_one i with e | e <;> simp [e]
theorem clear_two {P : Program} (w : World) (t e ty : TypeId) (ht : P.underlying t = some (.slice e)) (hv : ∀ w, (zeroValue e).run P w = .ok (.agg #[.int .i64 0, .int .i64 0]) w) (b o n c : Nat) (hn : 0 < n)
    (hc : ∀ j, j < n * 2 → (w.cell? ⟨b, o + j, none⟩).isSome = true) (hf : ∀ j, j < n * 2 → w.frozen? ⟨b, o + j, none⟩ = false) :
    (Builtin.clear_ #[t] ty #[.slice (some ⟨b, o, none⟩) n c]).run P w = .ok (.tuple #[]) (w.setCells b o (List.replicate (n * 2) (.int .i64 0))) := by
  have hst := run_storeCells_cells (P := P) b o (List.replicate (n * 2) (.int .i64 0)) 0 w (by simpa using hc) (by simpa using hf) (by intro v hv'; rw [List.eq_of_mem_replicate hv']; rfl)
  simp only [Nat.add_zero] at hst
  have hz : Value.cells (.agg #[.int .i64 0, .int .i64 0]) = #[.int .i64 0, .int .i64 0] := by simp [Value.cells]
  obtain ⟨m, rfl⟩ : ∃ m, n = m + 1 := ⟨n - 1, by omega⟩
  simp only [Builtin.clear_]
  simp [run_underlying ht, hv, hz, zero_two, hst]

/-- the row g holds the n pairs L -/
def Oq (B : Nat) (E : TypeId) (w : World) (g cap n : Nat) (L : List (Int × Int)) : Prop := L.length = n ∧ w.ownsRow B E 2 (.slice (some ⟨g, 0, none⟩) n cap) n (L.flatMap enc2)
theorem Oq.op2 {B : Nat} {E : TypeId} {w : World} {g cap n : Nat} {L : List (Int × Int)} (h : Oq B E w g cap n L) : Op2 B E w (.slice (some ⟨g, 0, none⟩) n cap) L := by obtain ⟨rfl, h⟩ := h; exact h
theorem Oq.cell {B : Nat} {E : TypeId} {w : World} {g cap n : Nat} {L : List (Int × Int)} (h : Oq B E w g cap n L) {j : Nat} (hj : j < n) {x y : Int} (e : L.toArray[j]! = (x, y)) : w.cell? ⟨g, j * 2, none⟩ = some (.int .i64 x) ∧ w.cell? ⟨g, j * 2 + 1, none⟩ = some (.int .i64 y) := by
  obtain ⟨rfl, h⟩ := h
  rcases Op2.open (show Op2 B E w _ L from h) with ⟨hv, _⟩ | ⟨g', cap', hv, _, _, _, _, hx⟩
  · cases hv
  · simp only [Value.slice.injEq, Option.some.injEq, Addr.mk.injEq] at hv
    obtain ⟨⟨rfl, _⟩, _⟩ := hv
    have e2 : L.getD j (0, 0) = (x, y) := by rw [← e]; simp [hj, List.getD]
    have := hx j hj
    rw [e2] at this
    exact this
theorem Oq.set {B : Nat} {E : TypeId} {w : World} {g cap n : Nat} {L : List (Int × Int)} (h : Oq B E w g cap n L) (k : Nat) (x y : Int) : Oq B E ((w.setCell ⟨g, k * 2, none⟩ (.int .i64 x)).setCell ⟨g, k * 2 + 1, none⟩ (.int .i64 y)) g cap n (L.set k (x, y)) := by
  obtain ⟨rfl, h⟩ := h
  refine ⟨by simp, ?_⟩
  rw [← flat_set]
  exact own_setCell (own_setCell h _ _) _ _
theorem Oq.drewN {B : Nat} {E : TypeId} {w : World} {g cap n : Nat} {L : List (Int × Int)} (h : Oq B E w g cap n L) (q : Nat) : Oq B E (w.drewN q) g cap n L := ⟨h.1, h.2.kept (row := none) ⟨rfl, rfl, rfl, Nat.le_refl _, fun _ _ _ => rfl⟩ (by simp [Value.ownBlock])⟩
theorem gr_set {w wr : World} {g : Nat} (h : w.grownBy wr (some g)) (o : Nat) (v : Value) : w.grownBy (wr.setCell ⟨g, o, none⟩ v) (some g) :=
  ⟨h.os, h.tape, h.output, Nat.le_trans h.size (by simp [World.setCell]), fun k hk hne => (Below.heap_setCell wr _ _ k (fun e => hne (by rw [e]))).trans (h.block k hk hne)⟩
theorem gr_drewN {w wr : World} {row : Option Nat} (h : w.grownBy wr row) (q : Nat) : w.grownBy (wr.drewN q) row := ⟨h.os, h.tape, h.output, h.size, h.block⟩
theorem gr_trans {a b c : World} {g : Nat} (h : a.grownBy b (some g)) (k : b.grownBy c (some g)) : a.grownBy c (some g) :=
  ⟨k.os.trans h.os, k.tape.trans h.tape, k.output.trans h.output, Nat.le_trans h.size k.size, fun i hi hne => (k.block i (Nat.lt_of_lt_of_le hi h.size) hne).trans (h.block i hi hne)⟩
theorem gr_refl (w : World) (row : Option Nat) : w.grownBy w row := ⟨rfl, rfl, rfl, Nat.le_refl _, fun _ _ _ => rfl⟩
theorem comp_take {d dk : Array (Int × Int)} {k : Nat} (h : Lib.CompInv d d.size k dk) : dk.toList.take k = Lib.compactUpTo d d.size := by
  apply List.ext_getElem?
  intro j
  by_cases hj : j < k
  · have h1 := h.low j hj
    have h2 := h.size
    have h3 := h.lt
    rw [h1, List.getElem?_take, if_pos hj]
    simp [show j < dk.size by omega]
  · rw [List.getElem?_take, if_neg hj, List.getElem?_eq_none (by rw [h.len]; omega)]
theorem pairUnder : Try.prog.underlying 22 = some (.slice 47) := by kernel_rfl
theorem pairZero (w : World) : (zeroValue 47).run Try.prog w = .ok (.agg #[.int .i64 0, .int .i64 0]) w := by kernel_rfl
theorem own_some {w : World} {base g n size cap : Nat} {e : TypeId} {xs : List Value} (h : w.ownsRow base e size (.slice (some ⟨g, 0, none⟩) n cap) n xs) {i : Nat} (hi : i < n * size) : (w.cell? ⟨g, i, none⟩).isSome = true := by
  have h1 := (own_holdsV h i (by simpa [h.1] using hi)).1
  rw [Nat.zero_add] at h1
  rw [h1]; rfl
theorem flat_take : ∀ (L : List (Int × Int)) (k : Nat), (L.flatMap enc2).take (k * 2) = (L.take k).flatMap enc2
  | [], k => by simp
  | p :: L, 0 => by simp
  | p :: L, k + 1 => by
    rw [List.flatMap_cons, List.take_succ_cons, List.flatMap_cons, ← flat_take L k, show (k + 1) * 2 = k * 2 + 1 + 1 by omega]
    simp [enc2]
theorem comp_fin {B : Nat} {E : TypeId} {w : World} {g cap kk : Nat} {L zs : List (Int × Int)} {d : Array (Int × Int)} (hd : zs.toArray = d) (ht : L.toArray.toList.take kk = Lib.compactUpTo d d.size) (hk : kk ≤ L.length)
    (h : w.ownsRow B E 2 (.slice (some ⟨g, 0, none⟩) kk cap) kk ((L.flatMap enc2).take (kk * 2))) : Op2 B E w (.slice (some ⟨g, 0, none⟩) kk cap) (Lib.compact zs) := by
  have e : Lib.compact zs = L.take kk := by
    unfold Lib.compact
    rw [hd, show zs.length = d.size by rw [← hd]; simp, ← ht]
  unfold Op2
  rw [e, List.length_take, Nat.min_eq_left hk, ← flat_take]
  exact h

set_option maxRecDepth 20000 in
set_option maxHeartbeats 8000000 in
theorem compactP_own {B : Nat} (v : Value) (zs : List (Int × Int)) (w : World) (h : Op2 B 47 w v zs) :
    Calls Try.prog 34 #[v] w fun e w' => ∃ v', e = .returned v' ∧ v'.ownBlock = v.ownBlock ∧ Op2 B 47 w' v' (Lib.compact zs) ∧ w.grownBy w' v.ownBlock := by
  rcases h.open with ⟨rfl, rfl⟩ | ⟨g, cap, rfl, hb, hg, hc, hm, _⟩
  · have HH := Lib.hid h
    clear h
    go_enter Try.func34, Try.ntmps34
    go_wp2_with fail
    go_ret
    exact ⟨_, rfl, rfl, HH.out, gr_refl _ _⟩
  · have hq : Oq B 47 w g cap zs.length zs := ⟨rfl, h⟩
    obtain ⟨n, hn⟩ : ∃ n, zs.length = n := ⟨_, rfl⟩
    rw [hn] at hq hc ⊢
    have HQ := Lib.hid hq
    have HN := Lib.hid hn
    have HD := Lib.hid (show zs.toArray.size = n by simpa using hn)
    obtain ⟨d, hd⟩ : ∃ d, zs.toArray = d := ⟨_, rfl⟩
    rw [hd] at HD
    have HZD := Lib.hid hd
    unfold maxLen at hm
    clear h hq hn hd
    by_cases hn2 : n < 2
    · have hn3 : (n : Int) < 2 := by omega
      have HC := Lib.hid (show Lib.compact zs = zs from Lib.compact_all zs (fun j hj => Lib.keeps_lt_one _ j (by have := HN.out; omega)))
      go_enter Try.func34, Try.ntmps34
      go_wp2_with fail
      go_ret
      exact ⟨_, rfl, rfl, by rw [HC.out]; exact HQ.out.op2, gr_refl _ _⟩
    · have hn3 : ¬ (n : Int) < 2 := by omega
      have mixed : Try.prog.follows Departure.mixedOrders = true := by kernel_rfl
      go_enter Try.func34, Try.ntmps34
      go_wp2_with fail
      go_loopw [3] (fun i wr => ∃ k : Nat, 1 ≤ k ∧ k ≤ n ∧ i = .int .i64 k ∧ Hid (∀ j, j < k → Lib.keeps d j = true) ∧ Oq B 47 wr g cap n zs ∧ w.grownBy wr (some g)) (fun i _ => n - (intOf i).toNat)
      case atStart => exact ⟨1, Nat.le_refl _, by omega, rfl, Lib.hid (Lib.keeps_lt_one d), HQ.out, gr_refl _ _⟩
      case round =>
        obtain ⟨k, hk1, hk, rfl, hall, hq, hgr⟩ := hrel
        have HQ2 := Lib.hid hq
        have HG := Lib.hid hgr
        clear hq hgr
        by_cases hkn : k < n
        · obtain ⟨p, hp⟩ : ∃ p, k = p + 1 := ⟨k - 1, by omega⟩
          obtain ⟨x1, x2, ex⟩ : ∃ a b, d[k]! = (a, b) := ⟨_, _, rfl⟩
          obtain ⟨y1, y2, ey⟩ : ∃ a b, d[p]! = (a, b) := ⟨_, _, rfl⟩
          obtain ⟨g0, g1⟩ := HQ2.out.cell hkn (x := x1) (y := x2) (by rw [HZD.out]; exact ex)
          obtain ⟨g2, g3⟩ := HQ2.out.cell (show p < n by omega) (x := y1) (y := y2) (by rw [HZD.out]; exact ey)
          have HX := Lib.hid ex
          have HY := Lib.hid (show d[k - 1]! = (y1, y2) by rw [show k - 1 = p by omega]; exact ey)
          have hix0 : (0 : Int) ≤ (k : Int) := by omega
          have hix1 : (k : Int) < (n : Int) := by omega
          have ep : (k : Int) - 1 = (p : Int) := by omega
          have hp0 : (0 : Int) ≤ (p : Int) := by omega
          have hp1 : (p : Int) < (n : Int) := by omega
          have wp : IntKind.i64.wrap ((k : Int) - 1) = (p : Int) := by rw [IntKind.wrap_i64]; omega
          clear ex ey hp
          by_cases h1 : x1 = y1
          · subst h1
            by_cases h2 : x2 = y2
            · subst h2
              have HK := Lib.hid (show Lib.keeps d k = false from Lib.keeps_neg (by omega) (by rw [HX.out, HY.out]))
              have hkc : (k : Int) ≤ (cap : Int) := by omega
              have hkn2 : (k : Int) ≤ (n : Int) := by omega
              go_wp2_with fail
              go_region_o
              go_wp2_with fail
              go_loopw [3, 5] (fun s3 s5 wr => ∃ (kk k2 : Nat) (L : List (Int × Int)), s3 = .int .i64 kk ∧ s5 = .int .i64 k2 ∧ 1 ≤ k2 ∧ k + k2 ≤ n ∧ Hid (Lib.CompInv d (k + k2) kk L.toArray) ∧ Oq B 47 wr g cap n L ∧ w.grownBy wr (some g)) (fun _ s5 _ => n - (intOf s5).toNat)
              case atStart => exact ⟨k, 1, zs, rfl, rfl, Nat.le_refl _, by omega, Lib.hid (by rw [HZD.out]; exact Lib.CompInv.start hall.out HK.out), by first | exact HQ2.out.drewN 1 | exact HQ2.out.drewN _, by first | exact gr_drewN HG.out 1 | exact gr_drewN HG.out _⟩
              case round =>
                obtain ⟨kk, k2, L, rfl, rfl, h21, hle, hI, hq3, hgr3⟩ := hrel
                have HQ3 := Lib.hid hq3
                have HG3 := Lib.hid hgr3
                have hkk := hI.out.lt
                clear hq3 hgr3
                by_cases hlt : k + k2 < n
                · obtain ⟨r, hr⟩ : ∃ r, k2 = r + 1 := ⟨k2 - 1, by omega⟩
                  obtain ⟨u1, u2, eu⟩ : ∃ a b, d[k + k2]! = (a, b) := ⟨_, _, rfl⟩
                  obtain ⟨v1, v2, ev⟩ : ∃ a b, d[k + r]! = (a, b) := ⟨_, _, rfl⟩
                  have HU := Lib.hid eu
                  have HV := Lib.hid (show d[k + k2 - 1]! = (v1, v2) by rw [show k + k2 - 1 = k + r by omega]; exact ev)
                  obtain ⟨g0, g1⟩ := HQ3.out.cell hlt (x := u1) (y := u2) (by rw [hI.out.high _ (by omega)]; exact eu)
                  obtain ⟨g2, g3⟩ := HQ3.out.cell (show k + r < n by omega) (x := v1) (y := v2) (by rw [hI.out.high _ (by omega)]; exact ev)
                  rw [Nat.add_mul] at g0 g1 g2 g3
                  obtain ⟨o1, o2, eo⟩ : ∃ a b, L.toArray[kk]! = (a, b) := ⟨_, _, rfl⟩
                  obtain ⟨g4, g5⟩ := HQ3.out.cell (show kk < n by omega) (x := o1) (y := o2) eo
                  have fz := own_frozen HQ3.out.2
                  have i0 : (0 : Int) ≤ (k2 : Int) := by omega
                  have i1 : (k2 : Int) < (n : Int) - (k : Int) := by omega
                  have i2 : k2 < n - k := by omega
                  have er : (k2 : Int) - 1 = (r : Int) := by omega
                  have r0 : (0 : Int) ≤ (r : Int) := by omega
                  have r1 : (r : Int) < (n : Int) - (k : Int) := by omega
                  have r2 : r < n - k := by omega
                  have wr2 : IntKind.i64.wrap ((k2 : Int) - 1) = (r : Int) := by rw [IntKind.wrap_i64]; omega
                  have kk0 : (0 : Int) ≤ (kk : Int) := by omega
                  have kk1 : (kk : Int) < (n : Int) := by omega
                  clear eu ev eo hr
                  by_cases h3 : u1 = v1
                  · subst h3
                    by_cases h4 : u2 = v2
                    · subst h4
                      go_wp2_with fail
                      go_region_o
                      go_wp2_with fail
                      go_roundw
                      case rel => exact ⟨kk, k2 + 1, L, rfl, by go_num, by omega, by omega, Lib.hid (hI.out.skip (Lib.keeps_neg (by omega) (by rw [HU.out, HV.out]))), by first | exact HQ3.out.drewN 1 | exact HQ3.out.drewN _, by first | exact gr_drewN HG3.out 1 | exact gr_drewN HG3.out _⟩
                      case measure => simp [intOf]; omega
                    · have hb4 : (u2 == v2) = false := by simpa using h4
                      have HNE := Lib.hid h4
                      clear h4
                      go_wp2_with fail
                      go_region_o
                      go_wp2_with fail
                      go_roundw
                      case rel => exact ⟨kk + 1, k2 + 1, L.set kk (u1, u2), by go_num, by go_num, by omega, by omega, Lib.hid (by have h := hI.out.keep (by have := HD.out; omega) (Lib.keeps_pos (by rw [HU.out, HV.out]; intro h; cases h; exact HNE.out rfl)); rw [HU.out] at h; rw [← List.setIfInBounds_toArray]; exact h), by first | exact (HQ3.out.drewN 1).set _ _ _ | exact (HQ3.out.drewN _).set _ _ _ | exact HQ3.out.set _ _ _, by first | exact gr_set (gr_set (gr_drewN HG3.out 1) _ _) _ _ | exact gr_set (gr_set (gr_drewN HG3.out _) _ _) _ _ | exact gr_set (gr_set HG3.out _ _) _ _⟩
                      case measure => simp [intOf]; omega
                  · have hb3 : (u1 == v1) = false := by simpa using h3
                    have HNE := Lib.hid h3
                    clear h3
                    go_wp2_with fail
                    go_region_o
                    go_wp2_with fail
                    go_roundw
                    case rel => exact ⟨kk + 1, k2 + 1, L.set kk (u1, u2), by go_num, by go_num, by omega, by omega, Lib.hid (by have h := hI.out.keep (by have := HD.out; omega) (Lib.keeps_pos (by rw [HU.out, HV.out]; intro h; cases h; exact HNE.out rfl)); rw [HU.out] at h; rw [← List.setIfInBounds_toArray]; exact h), by first | exact (HQ3.out.drewN 1).set _ _ _ | exact (HQ3.out.drewN _).set _ _ _ | exact HQ3.out.set _ _ _, by first | exact gr_set (gr_set (gr_drewN HG3.out 1) _ _) _ _ | exact gr_set (gr_set (gr_drewN HG3.out _) _ _) _ _ | exact gr_set (gr_set HG3.out _ _) _ _⟩
                    case measure => simp [intOf]; omega
                · have hend : k + k2 = n := by omega
                  have HI := Lib.hid (show Lib.CompInv d d.size kk L.toArray by rw [HD.out, ← hend]; exact hI.out)
                  have hnk : ¬ (k2 : Int) < (n : Int) - (k : Int) := by omega
                  have hnk2 : ¬ k2 < n - k := by omega
                  have hkn3 : kk < n := by omega
                  have fz := own_frozen HQ3.out.2
                  have hcl : ∀ ty, (Builtin.clear_ #[22] ty #[.slice (some ⟨g, kk * 2, none⟩) (n - kk) (cap - kk)]).run Try.prog wr = .ok (.tuple #[]) (wr.setCells g (kk * 2) (List.replicate ((n - kk) * 2) (.int .i64 0))) := fun ty => clear_two wr _ _ ty pairUnder pairZero g (kk * 2) (n - kk) (cap - kk) (by omega) (fun j hj => own_some HQ3.out.2 (by omega)) (fun j hj => fz _)
                  have HCUT := Lib.hid (own_setCells (List.replicate ((n - kk) * 2) (.int .i64 0)) (kk * 2) wr (Nat.le_refl _) (own_cut HQ3.out.2 (show kk ≤ n by omega)))
                  have HTK := Lib.hid (comp_take HI.out)
                  have hkc2 : (kk : Int) ≤ (cap : Int) := by omega
                  have hkn4 : (kk : Int) ≤ (n : Int) := by omega
                  have kk0 : (0 : Int) ≤ (kk : Int) := by omega
                  go_wp2_with fail
                  go_ret
                  exact ⟨_, rfl, rfl, comp_fin HZD.out HTK.out (by have := HQ3.out.1; omega) HCUT.out.1, gr_trans HG3.out HCUT.out.2⟩
            · have hb2 : (x2 == y2) = false := by simpa using h2
              have HNE := Lib.hid h2
              clear h2
              go_wp2_with fail
              go_region_o
              go_wp2_with fail
              go_roundw
              case rel => exact ⟨k + 1, by omega, by omega, by go_num, Lib.hid (fun j hj => by by_cases e : j = k; (· subst e; exact Lib.keeps_pos (by rw [HX.out, HY.out]; intro h; cases h; exact HNE.out rfl)); (· exact hall.out j (by omega))), by first | exact HQ2.out.drewN 1 | exact HQ2.out.drewN _, by first | exact gr_drewN HG.out 1 | exact gr_drewN HG.out _⟩
              case measure => simp [intOf]; omega
          · have hb1 : (x1 == y1) = false := by simpa using h1
            have HNE := Lib.hid h1
            clear h1
            go_wp2_with fail
            go_region_o
            go_wp2_with fail
            go_roundw
            case rel => exact ⟨k + 1, by omega, by omega, by go_num, Lib.hid (fun j hj => by by_cases e : j = k; (· subst e; exact Lib.keeps_pos (by rw [HX.out, HY.out]; intro h; cases h; exact HNE.out rfl)); (· exact hall.out j (by omega))), by first | exact HQ2.out.drewN 1 | exact HQ2.out.drewN _, by first | exact gr_drewN HG.out 1 | exact gr_drewN HG.out _⟩
            case measure => simp [intOf]; omega
        · obtain rfl : k = n := by omega
          have HC := Lib.hid (show Lib.compact zs = zs from Lib.compact_all zs (fun j hj => by rw [HZD.out]; exact hall.out j (by have := HN.out; omega)))
          go_wp2_with fail
          go_ret
          exact ⟨_, rfl, rfl, by rw [HC.out]; exact HQ2.out.op2, HG.out⟩

end Go.Proofs.Ytonnbcongnkcdaa
