/- Contract of enemy.Groups. Conditions: lists of at most 2^39 elements. -/
import Derived.Test.YtonnbcongnkcdaaEnV
namespace Go.Proofs.Ytonnbcongnkcdaa
open Go.RowKit

theorem clone_any (a : Option Addr) (n cap : Nat) (zs : List Int) (w : World) (h : Zl w a n cap zs) (hn : n ≤ 1099511627776) :
    Calls Try.prog 42 #[.slice a n cap] w fun e w' => ∃ v, e = .returned v ∧ Ow w.heap.size 3 w' v zs ∧ Below w.heap.size w w' := by
  obtain ⟨h0, h1, h2, h3⟩ := h
  cases a with
  | none =>
    have hz : n = 0 := Classical.byContradiction fun hh => by obtain ⟨b, off, e, _⟩ := h3 (by omega); cases e
    subst hz
    obtain rfl := List.length_eq_zero_iff.1 h0
    refine (Try.slices_Clone_int_nil _ _ w).mono fun e w' he => ?_
    obtain ⟨rfl, rfl⟩ := he
    exact ⟨_, rfl, Ow.nil _ _ _, Below.refl _ _⟩
  | some p =>
    rcases Nat.eq_zero_or_pos n with hz | hp
    · subst hz
      obtain rfl := List.length_eq_zero_iff.1 h0
      refine (Try.slices_Clone_int_zero p _ w).mono fun e w' he => ?_
      obtain ⟨v, rfl, ho, _, hb⟩ := he
      exact ⟨v, rfl, ho, hb⟩
    · obtain ⟨b, off, e, hc⟩ := h3 hp
      cases e
      refine (Try.slices_Clone_int b off n cap zs w (by omega) (by omega) (fun j hj => hc j (by omega))).mono fun e w' he => ?_
      obtain ⟨v, rfl, ho, _, hb⟩ := he
      refine ⟨v, rfl, ?_, hb⟩
      unfold Ow
      rw [List.take_of_length_le (by omega)] at ho
      rw [h0]; exact ho
theorem infoSlG : (Try.prog.info? 31).map (fun i => (i.zero, i.size, i.bytes)) = some (some (.slice none 0 0), 1, 24) := by kernel_rfl
theorem slsUnder : Try.prog.underlying 37 = some (.slice 31) := by kernel_rfl
theorem ow_ne_box {base : Nat} {w : World} {v : Value} {zs : List Int} {g : Nat} {c : Array Value} {fz : Nat × Nat} (h : Ow base 3 w v zs) (hb : w.heap[g]? = some (.cells c 47 fz)) : v.ownBlock ≠ some g := by
  rcases h.2 with ⟨rfl, _⟩ | ⟨g', cap, cur, rfl, _, hh, _⟩
  · intro e; cases e
  · intro e
    obtain rfl : g' = g := by simpa [Value.ownBlock] using e
    rw [hh] at hb
    simp at hb
theorem ow_one {B : Nat} (w : World) (x : Int) (hB : B ≤ w.heap.size) : Ow B 3 (w.alloc (.cells #[.int .i64 x] 3)) (.slice (some ⟨w.heap.size, 0, none⟩) 1 1) [x] :=
  ⟨rfl, .inr ⟨w.heap.size, 1, #[.int .i64 x], rfl, hB, heap_alloc_new w _, Nat.le_refl _, by unfold maxLen; omega, rfl, rfl⟩⟩
theorem inL_take {ids : List Int} {n : Nat} (h : ids.length = n) : inL (ids.take n) = inL ids := by rw [List.take_of_length_le (by omega)]
theorem gr_below2 {w w' : World} (h : Below w.heap.size w w') (row : Option Nat) : w.grownBy w' row := ⟨h.os, h.tape, h.output, h.size, fun k hk _ => h.block k hk⟩
theorem own_ne {v : Value} {b : Nat} (h : ∀ g, v.ownBlock = some g → g ≠ b) : v.ownBlock = none ∨ v.ownBlock ≠ some b := by
  cases hc : v.ownBlock with
  | none => exact .inl rfl
  | some g => exact .inr fun e => h g hc (Option.some.inj e)
theorem nb_ne {v : Value} {b : Nat} (h : ∀ g, v.ownBlock = some g → g ≠ b) : some b ≠ v.ownBlock := fun e => h b e.symm rfl
def GpA (base b n g : Nat) (x y : Int) (v0 : Value) (zs : List Int) (f : Int → List Int) (W : World) (z0 : Act) (L : Nat → Bool) (z1 : Act) (w : World) : Prop :=
  ∃ u44 u45 u46 u47 u48 u49 u50 u51 u52 u53 u54, z1 = (((((((((((z0.put (some 44) u44).put (some 45) u45).put (some 46) u46).put (some 47) u47).put (some 48) u48).put (some 49) u49).put (some 50) u50).put (some 51) u51).put (some 52) u52).put (some 53) u53).put (some 54) u54) ∧
    ((L 10 = false ∧ L 11 = false ∧ CloG L ∧ Since W w ∧ (L 0 = true → u44 = .map (some (b))) ∧ (L 1 = true → u45 = .pointer (some ⟨g, 0, none⟩)) ∧ (L 2 = true → u46 = .int .i64 x) ∧ (L 3 = true → u47 = .map (some (b))) ∧ (L 4 = true → u48 = .pointer (some ⟨g, 0, none⟩)) ∧ (L 5 = true → u49 = .int .i64 x) ∧ (L 6 = true → u50 = v0) ∧ (L 7 = true → u51 = .pointer (some ⟨g, 1, none⟩)) ∧ (L 8 = true → u52 = .int .i64 y) ∧ (L 9 = true → NewS y u53 w)) ∨
     (L 10 = true ∧ L 11 = false ∧ CloG L ∧ (∀ j, 3 ≤ j → j ≤ 9 → L j = true) ∧ AppS base W v0 (zs ++ [y]) u54 w ∧ (L 0 = true → u44 = .map (some (b))) ∧ (L 1 = true → u45 = .pointer (some ⟨g, 0, none⟩)) ∧ (L 2 = true → u46 = .int .i64 x)) ∨
     (L 11 = true ∧ (∀ j, j < 11 → L j = true) ∧ FinS base b n g x (zs ++ [y]) f W w))

def GpB (base b n g : Nat) (x y : Int) (v0 : Value) (zs : List Int) (f : Int → List Int) (W : World) (z0 : Act) (L : Nat → Bool) (z1 : Act) (w : World) : Prop :=
  ∃ u55 u56 u57 u58 u59 u60 u61 u62 u63 u64 u65, z1 = (((((((((((z0.put (some 55) u55).put (some 56) u56).put (some 57) u57).put (some 58) u58).put (some 59) u59).put (some 60) u60).put (some 61) u61).put (some 62) u62).put (some 63) u63).put (some 64) u64).put (some 65) u65) ∧
    ((L 10 = false ∧ L 11 = false ∧ CloG L ∧ Since W w ∧ (L 0 = true → u55 = .map (some (b))) ∧ (L 1 = true → u56 = .pointer (some ⟨g, 1, none⟩)) ∧ (L 2 = true → u57 = .int .i64 x) ∧ (L 3 = true → u58 = .map (some (b))) ∧ (L 4 = true → u59 = .pointer (some ⟨g, 1, none⟩)) ∧ (L 5 = true → u60 = .int .i64 x) ∧ (L 6 = true → u61 = v0) ∧ (L 7 = true → u62 = .pointer (some ⟨g, 0, none⟩)) ∧ (L 8 = true → u63 = .int .i64 y) ∧ (L 9 = true → NewS y u64 w)) ∨
     (L 10 = true ∧ L 11 = false ∧ CloG L ∧ (∀ j, 3 ≤ j → j ≤ 9 → L j = true) ∧ AppS base W v0 (zs ++ [y]) u65 w ∧ (L 0 = true → u55 = .map (some (b))) ∧ (L 1 = true → u56 = .pointer (some ⟨g, 1, none⟩)) ∧ (L 2 = true → u57 = .int .i64 x)) ∨
     (L 11 = true ∧ (∀ j, j < 11 → L j = true) ∧ FinS base b n g x (zs ++ [y]) f W w))

theorem grp_push {B B2 : Nat} {w w' : World} {v v' : Value} {G : List (List Int)} {xs : List Value} {g : List Int} {gg ng gc : Nat} {T : Obj} (hx : ∀ i (h : i < G.length), ∃ u g, xs[i]? = some u ∧ u.ownBlock = some g ∧ v.ownBlock ≠ some g ∧ Ow B 3 w u G[i]) (hxo : w.ownsRow B 31 1 v G.length xs) (hu : Ow B2 3 w (.slice (some ⟨gg, 0, none⟩) ng gc) g) (hv : ∀ b, v.ownBlock = some b → b < B2) (hgg : B2 ≤ gg) (hB : B ≤ B2)
    (ho : w'.ownsRow B 31 1 v' (G.length + 1) (xs ++ [.slice (some ⟨gg, 0, none⟩) ng gc])) (hg : (w.alloc T).grownBy w' v.ownBlock) (hat : v'.ownBlock = v.ownBlock ∨ v'.ownBlock = some (w.alloc T).heap.size) : GrO B w' v' (G ++ [g]) := by
  have hbl : Below w.heap.size w (w.alloc T) := Below.alloc (Below.refl _ _) (Nat.le_refl _) _
  have hu2 : Ow B 3 (w.alloc T) (.slice (some ⟨gg, 0, none⟩) ng gc) g := by
    have h := hu.below hbl
    refine ⟨h.1, ?_⟩
    rcases h.2 with h2 | ⟨g', c, cur, e, h3, h4⟩
    · exact .inl h2
    · exact .inr ⟨g', c, cur, e, by omega, h4⟩
  exact GrO.push (fun i hi => by obtain ⟨u, b, h1, h2, h3, h4⟩ := hx i hi; exact ⟨u, b, h1, h2, h3, h4.below hbl⟩) (by have := hxo.1; omega) ho hg hat hu2 rfl (fun e => by have := hv gg e; omega)
set_option maxRecDepth 20000 in
set_option maxHeartbeats 16000000 in
theorem groups_any (a : Option Addr) (n cap : Nat) (L : List (Int × Int)) (ia : Option Addr) (m ic : Nat) (ids : List Int) (w : World) (h : Pr w a n cap L) (hL64 : ∀ p ∈ L, W64 p.1 ∧ W64 p.2) (hz : Zl w ia m ic ids) (h64 : ∀ y ∈ ids, W64 y) (hn : n ≤ 549755813888) (hm : m ≤ 549755813888) :
    Calls Try.prog 25 #[.slice a n cap, .slice ia m ic] w fun e w' => ∃ v G, e = .returned v ∧ IsGroups (distR ids) (Rch (cfl (normR L) ids)) G ∧ GrN w.heap.size w' v G ∧ Below w.heap.size w w' := by
  have HPL := Lib.hid h
  have HZ := Lib.hid hz
  have hLn := h.1
  have HLN := Lib.hid hLn
  have hZn := hz.1
  have HZN := Lib.hid hZn
  have H64 := Lib.hid h64
  have HL64 := Lib.hid hL64
  clear h hz hLn hZn h64 hL64
  have hmm := @run_makeMap Try.prog
  obtain ⟨i0, hi, hzz⟩ := Option.map_eq_some_iff.1 infoIntG
  simp only [Prod.mk.injEq] at hzz
  obtain ⟨hz0, hz1, hz2⟩ := hzz
  obtain ⟨i1, hi1, hzz⟩ := Option.map_eq_some_iff.1 infoSlG
  simp only [Prod.mk.injEq] at hzz
  obtain ⟨hy0, hy1, hy2⟩ := hzz
  go_enter Try.func25, Try.ntmps25
  go_wp2_with fail
  refine (clone_any ia m ic ids _ HZ.out (by omega)).mono ?_
  rintro e w1 ⟨v1, rfl, ho, hb⟩
  have HO1 := Lib.hid ho
  have HB1 := Lib.hid hb
  have hs1 := hb.size
  clear ho hb
  go_wp2_with fail
  refine (sort_own v1 ids _ HO1.out (by have := HZN.out; omega)).mono ?_
  rintro e w2 ⟨rfl, ho, hg⟩
  have HO2 := Lib.hid (show Ow w.heap.size 3 w2 v1 (srtL ids) from ho)
  have HB2 := Lib.hid (HB1.out.grown hg hs1 (fun j hj => (HO1.out.lt j hj).1))
  have hs2 := HB2.out.size
  clear ho hg
  go_wp2_with fail
  refine (compact_own v1 (srtL ids) _ HO2.out).mono ?_
  rintro e w3 ⟨v3, rfl, hv3, ho, hg⟩
  have HB3 := Lib.hid (HB2.out.grown hg hs2 (fun j hj => (HO2.out.lt j hj).1))
  have hs3 := HB3.out.size
  obtain ⟨D, hD⟩ : ∃ D, distR ids = D := ⟨_, rfl⟩
  have HO3 := Lib.hid (show Ow w.heap.size 3 w3 v3 D by rw [← hD, ← rise_distR]; exact ho)
  have HD := Lib.hid hD
  clear ho hg hv3 HO1 HO2 HB1 HB2
  have hDs := (distR_spec ids)
  rw [hD] at hDs
  have HDS := Lib.hid hDs
  have hDl : D.length ≤ m := by rw [← HZN.out, ← hD, ← rise_distR]; exact rise_len ids
  clear hD hDs
  have HD64 := Lib.hid (show ∀ x ∈ D, W64 x from fun x hx => H64.out x ((HDS.out.2 x).1 hx))
  obtain ⟨a3, c3, rfl, hz3⟩ := HO3.out.zl
  have hc3 := hz3.2.1
  have hm3 := hz3.2.2.1
  unfold maxLen at hm3
  clear hz3
  obtain ⟨nd, hnd⟩ : ∃ nd, D.length = nd := ⟨_, rfl⟩
  have HND := Lib.hid hnd
  rw [hnd] at HO3 hDl hc3 ⊢
  clear hnd
  have HO3lt : ∀ g, Value.ownBlock (.slice a3 nd c3) = some g → g < w3.heap.size := fun g hg => (HO3.out.lt g hg).2
  go_wp2_with fail
  go_loopw [8, 28] (fun _ i wr => ∃ k : Nat, k ≤ nd ∧ i = .int .i64 k ∧ Mb Try.prog 3 4 wr w3.heap.size k (inL (D.take k)) ∧ Below w3.heap.size w3 wr) (fun _ i _ => nd - (intOf i).toNat)
  case atStart => exact ⟨0, Nat.zero_le _, rfl, Mb.made w3, bel1 _ _⟩
  case round =>
    obtain ⟨k, hk, rfl, hm1, hbel⟩ := hrel
    have HM := Lib.hid hm1
    have HB := Lib.hid hbel
    have hs0 := hbel.size
    clear hm1
    by_cases hkm : k < nd
    · have hkL : k < D.length := by have := HND.out; omega
      obtain ⟨a9, c9, he9, hz9⟩ := (HO3.out.below hbel).zl
      rw [HND.out] at he9 hz9
      simp only [Value.slice.injEq, true_and] at he9
      obtain ⟨rfl, rfl⟩ := he9
      obtain ⟨b, off, rfl, hc⟩ := hz9.2.2.2 (by omega)
      have g0 := hc k hkm
      rw [getD_lt1 hkL] at g0
      obtain ⟨x, hx⟩ : ∃ x, D[k] = x := ⟨_, rfl⟩
      rw [hx] at g0
      have HX := Lib.hid hx
      have HX64 := Lib.hid (show W64 x by rw [← hx]; exact HD64.out _ (List.getElem_mem hkL))
      clear hc hx hbel hz9
      have hkx : k < maxLen := by unfold maxLen; omega
      have hix0 : (0 : Int) ≤ (k : Int) := by omega
      have hix1 : (k : Int) < (nd : Int) := by omega
      go_wp2_with (at_mapUpdate; refine wp_put_b _ rfl _ _ _ rfl mtB w3.heap.size _ _ rfl HM.out hkx x true rfl HX64.out rfl ?_; intro w9 hm9 hg9; have HM9 := Lib.hid hm9; have HB9 := Lib.hid (HB.out.grown hg9 hs0 (fun j hj => by cases hj; exact Nat.le_refl _)); clear hm9 hg9)
      go_roundw
      case rel => exact ⟨k + 1, by omega, by go_num, HM9.out.congr (Nat.le_refl _) (fun y _ => inL_up hkL HX.out y), HB9.out⟩
      case measure => simp [intOf]; omega
    · obtain rfl : k = nd := by omega
      obtain ⟨w4, hw4⟩ : ∃ w4, w4 = wr := ⟨_, rfl⟩
      subst hw4
      have HM4 := Lib.hid (show Mb Try.prog 3 4 w4 w3.heap.size k (inL D) by have h := HM.out; rw [inL_take HND.out] at h; exact h)
      have HO4 := Lib.hid (HO3.out.below hbel)
      have HB4 := Lib.hid (HB3.out.trans (HB.out.mono hs3))
      have hbl : w3.heap.size < w4.heap.size := HM4.out.lt
      clear hbel HM HB HO3 HB3
      go_wp2_with fail
      refine calls_name fun W5 hW => ?_
      have HBw := Lib.hid (show Below w4.heap.size w4 W5 by rw [← hW]; (repeat' (first | with_reducible exact Below.refl _ _ | (with_reducible refine Below.alloc ?_ ?_ _; rotate_left; (focus (first | omega | (simp; done) | (simp; omega)))) | with_reducible apply Below.drew | (with_reducible refine Below.setCell ?_ ?_ _; rotate_left; (focus (first | omega | (simp; done) | (simp; omega)))))))
      have hem : W5.heap[w4.heap.size]? = some (.map #[] 0) := by rw [← hW]; first | exact heap_alloc_new w4 _ | simp
      have hs5 : w4.heap.size < W5.heap.size := by rw [← hW]; simp
      clear hW
      have HB5 := Lib.hid (HB4.out.trans (HBw.out.mono (by omega)))
      have HO5 := Lib.hid (HO4.out.below HBw.out)
      have HM5 := Lib.hid (HM4.out.below HBw.out)
      clear HO4 HM4 HB4
      refine (conflicts_any a n cap L ia m ic ids _ (HPL.out.below HB5.out) HL64.out (HZ.out.below HB5.out) H64.out (by omega) (by omega)).mono ?_
      rintro e w6 ⟨v6, rfl, ho, hb⟩
      have HB6 := Lib.hid (HB5.out.trans (hb.mono HB5.out.size))
      have hs6 := hb.size
      have HO6 := Lib.hid (HO5.out.below hb)
      have HM6 := Lib.hid (HM5.out.below hb)
      have hem6 := (hb.block _ hs5).trans hem
      have HMG := Lib.hid (show Mg Try.prog 3 3 w6 w6.heap.size w4.heap.size 0 (fun _ => []) from Mg.empty hem6 (by omega))
      obtain ⟨B6, hB6, hop⟩ := ho
      have hEl : (cfl (normR L) ids).length ≤ n := Nat.le_trans (cfl_len _ _) (by have := normR_len L L.length (Nat.le_refl _); rw [List.take_length] at this; have := HLN.out; omega)
      have hE64 : ∀ p ∈ cfl (normR L) ids, W64 p.1 ∧ W64 p.2 := fun p hp => normR_64 HL64.out p (List.mem_filter.1 hp).1
      have hED : ∀ p ∈ cfl (normR L) ids, p.1 ∈ D ∧ p.2 ∈ D := fun p hp => by have := (List.mem_filter.1 hp).2; rw [Bool.and_eq_true, inL_iff, inL_iff] at this; exact ⟨(HDS.out.2 _).2 this.1, (HDS.out.2 _).2 this.2⟩
      obtain ⟨E, hE⟩ : ∃ E, cfl (normR L) ids = E := ⟨_, rfl⟩
      rw [hE] at hop hEl hE64 hED
      have HE := Lib.hid hE
      have HE64 := Lib.hid hE64
      have HED := Lib.hid hED
      have HOP := Lib.hid hop
      clear hb hem hem6 hE hE64 hED HO5 HM5 HB5 HBw
      obtain ⟨a6, c6, rfl, hp6⟩ := hop.pr
      have hc6 := hp6.2.1
      have hm6 := hp6.2.2.1
      unfold maxLen at hm6
      obtain ⟨ne, hne⟩ : ∃ ne, E.length = ne := ⟨_, rfl⟩
      have HNE0 := Lib.hid hne
      rw [hne] at HOP hEl hc6 ⊢
      clear hop hp6 hne
      go_wp2_with fail
      go_loopw [11, 40] (fun _ i wr => ∃ q : Nat, q ≤ ne ∧ i = .int .i64 q ∧ Mg Try.prog 3 3 wr w6.heap.size w4.heap.size (2 * q) (nbl (E.take q)) ∧ w6.grownBy wr (some w4.heap.size)) (fun _ i _ => ne - (intOf i).toNat)
      case atStart => exact ⟨0, Nat.zero_le _, rfl, HMG.out.congr (fun x _ => by simp [nbl]), gr_refl _ _⟩
      case round =>
        obtain ⟨q, hq, rfl, hmg, hgr⟩ := hrel
        have HMG1 := Lib.hid hmg
        have HGR := Lib.hid hgr
        have hsr := hgr.size
        clear hmg hgr HMG
        by_cases hqn : q < ne
        · have hqE : q < E.length := by have := HNE0.out; omega
          obtain ⟨a9, c9, he9, hp9⟩ := (HOP.out.grown HGR.out (own_ne fun g hg => by have := (HOP.out.lt g hg).1; omega)).pr
          rw [HNE0.out] at he9 hp9
          simp only [Value.slice.injEq, true_and] at he9
          obtain ⟨rfl, rfl⟩ := he9
          obtain ⟨b, off, rfl, hc⟩ := hp9.2.2.2 (by omega)
          obtain ⟨g0, g1⟩ := hc q hqn
          rw [getD_lt hqE] at g0 g1
          obtain ⟨p1, p2, epq⟩ : ∃ x y, E[q] = (x, y) := ⟨_, _, rfl⟩
          rw [epq] at g0 g1
          simp only at g0 g1
          have h6 := HE64.out _ (List.getElem_mem hqE)
          rw [epq] at h6
          have HX64 := Lib.hid h6.1
          have HY64 := Lib.hid h6.2
          have HPQ := Lib.hid epq
          clear hc epq h6 hp9
          have hix0 : (0 : Int) ≤ (q : Int) := by omega
          have hix1 : (q : Int) < (ne : Int) := by omega
          go_wp2_with fail
          refine region_name fun W7 hW => ?_
          have HBw := Lib.hid (show Below wr.heap.size wr W7 by rw [← hW]; (repeat' (first | with_reducible exact Below.refl _ _ | (with_reducible refine Below.alloc ?_ ?_ _; rotate_left; (focus (first | omega | (simp; done) | (simp; omega)))) | with_reducible apply Below.drew | (with_reducible refine Below.setCell ?_ ?_ _; rotate_left; (focus (first | omega | (simp; done) | (simp; omega)))))))
          have k_P_0 : W7.cell? ⟨wr.heap.size, 0, none⟩ = some (.int .i64 p1) := by rw [← hW]; first | (go_simp; done) | (simp; done) | (simp [go_sem]; done)
          have k_P_1 : W7.cell? ⟨wr.heap.size, 1, none⟩ = some (.int .i64 p2) := by rw [← hW]; first | (go_simp; done) | (simp; done) | (simp [go_sem]; done)
          have hl_P : wr.heap.size < W7.heap.size := by rw [← hW]; simp
          have hty : ∃ c fz, W7.heap[wr.heap.size]? = some (.cells c 47 fz) := by rw [← hW]; exact ⟨_, _, heap_alloc_new wr _⟩
          clear hW
          have HMG := Lib.hid (HMG1.out.below HBw.out)
          have HG7 := Lib.hid (gr_below HGR.out HBw.out)
          have hlb : w4.heap.size < W7.heap.size := by omega
          have hnb : w4.heap.size ≠ wr.heap.size := by omega
          have hbase : w6.heap.size ≤ W7.heap.size := by omega
          obtain ⟨z1, hz1'⟩ : ∃ z, nbl (E.take q) p1 = z := ⟨_, rfl⟩
          have HZ1 := Lib.hid hz1'
          obtain ⟨v0, hrun, how, hz64, hzl, hbk⟩ := HMG.out.here mtG (by unfold maxLen; omega) HX64.out
          rw [hz1'] at how hz64 hzl
          have HRUN := Lib.hid hrun
          have HOW := Lib.hid how
          have HZ64 := Lib.hid hz64
          have HZL := Lib.hid hzl
          have HBK := Lib.hid hbk
          obtain ⟨tc, tf, hty⟩ := hty
          have HTY := Lib.hid hty
          have HNE := Lib.hid (ow_ne_box how hty)
          clear hrun how hz64 hzl hbk hz1' hty HMG1 HGR
          refine region_inv2 (by kernel_rfl) (GpA (w6.heap.size) (w4.heap.size) (2 * q) (wr.heap.size) p1 p2 v0 z1 (nbl (E.take q)) (W7)) ?_ ?_ ?_ ?_
          · exact ⟨u44, u45, u46, u47, u48, u49, u50, u51, u52, u53, u54, by simp only [Act.put, List.setIfInBounds_toArray, List.set_cons_zero, List.set_cons_succ], .inl ⟨rfl, rfl, CloG.none, Since.drawn _, (fun h => by cases h), (fun h => by cases h), (fun h => by cases h), (fun h => by cases h), (fun h => by cases h), (fun h => by cases h), (fun h => by cases h), (fun h => by cases h), (fun h => by cases h), (fun h => by cases h)⟩⟩
          · exact acyc_spec (by kernel_rfl)
          · intro Ls a0 wq i o ho hLi hafter hJ
            have hio : i < 12 := (Array.getElem?_eq_some_iff.1 ho).1
            obtain ⟨u44, u45, u46, u47, u48, u49, u50, u51, u52, u53, u54, rfl, hJ | hJ | hJ⟩ := hJ
            · obtain ⟨h10, h11, hcl, hS, p0, p1, p2, p3, p4, p5, p6, p7, p8, p9⟩ := hJ
              have HCL := Lib.hid hcl
              clear hcl
              obtain rfl | rfl | rfl | rfl | rfl | rfl | rfl | rfl | rfl | rfl | rfl | rfl : i = 0 ∨ i = 1 ∨ i = 2 ∨ i = 3 ∨ i = 4 ∨ i = 5 ∨ i = 6 ∨ i = 7 ∨ i = 8 ∨ i = 9 ∨ i = 10 ∨ i = 11 := by omega
              · simp only [List.getElem?_toArray, List.getElem?_cons_zero, Option.some.injEq] at ho
                subst ho
                have P0 := Lib.hid p0; have P1 := Lib.hid p1; have P2 := Lib.hid p2; have P3 := Lib.hid p3; have P4 := Lib.hid p4; have P5 := Lib.hid p5; have P6 := Lib.hid p6; have P7 := Lib.hid p7; have P8 := Lib.hid p8; have P9 := Lib.hid p9; clear hLi hafter p0 p1 p2 p3 p4 p5 p6 p7 p8 p9
                have HS := Lib.hid hS
                clear hS
                simp only [Act.put, List.setIfInBounds_toArray, List.set_cons_zero, List.set_cons_succ]
                go_wp2_with fail
                exact ⟨.map (some (w4.heap.size)), u45, u46, u47, u48, u49, u50, u51, u52, u53, u54, by simp only [Act.put, List.setIfInBounds_toArray, List.set_cons_zero, List.set_cons_succ], .inl ⟨by simpa using h10, by simpa using h11, (by first | exact HCL.out.set 0 (by intro p hp e; simp only [cloP, List.mem_cons, List.not_mem_nil, or_false] at hp; rcases hp with rfl | rfl | rfl | rfl | rfl | rfl <;> first | (exact absurd e (by decide)) | assumption) | exact HCL.out.set' 0 (by intro p hp e; simp only [cloP, List.mem_cons, List.not_mem_nil, or_false] at hp; rcases hp with rfl | rfl | rfl | rfl | rfl | rfl <;> first | (exact absurd e (by decide)) | assumption)), HS.out, (fun _ => rfl), (fun h => by first | rfl | exact P1.out (by simpa using h)), (fun h => by first | rfl | exact P2.out (by simpa using h)), (fun h => by first | rfl | exact P3.out (by simpa using h)), (fun h => by first | rfl | exact P4.out (by simpa using h)), (fun h => by first | rfl | exact P5.out (by simpa using h)), (fun h => by first | rfl | exact P6.out (by simpa using h)), (fun h => by first | rfl | exact P7.out (by simpa using h)), (fun h => by first | rfl | exact P8.out (by simpa using h)), (fun h => P9.out (by simpa using h))⟩⟩
              · simp only [List.getElem?_toArray, List.getElem?_cons_zero, List.getElem?_cons_succ, Option.some.injEq] at ho
                subst ho
                have P0 := Lib.hid p0; have P1 := Lib.hid p1; have P2 := Lib.hid p2; have P3 := Lib.hid p3; have P4 := Lib.hid p4; have P5 := Lib.hid p5; have P6 := Lib.hid p6; have P7 := Lib.hid p7; have P8 := Lib.hid p8; have P9 := Lib.hid p9; clear hLi hafter p0 p1 p2 p3 p4 p5 p6 p7 p8 p9
                have HS := Lib.hid hS
                clear hS
                simp only [Act.put, List.setIfInBounds_toArray, List.set_cons_zero, List.set_cons_succ]
                go_wp2_with fail
                exact ⟨u44, .pointer (some ⟨wr.heap.size, 0, none⟩), u46, u47, u48, u49, u50, u51, u52, u53, u54, by simp only [Act.put, List.setIfInBounds_toArray, List.set_cons_zero, List.set_cons_succ], .inl ⟨by simpa using h10, by simpa using h11, (by first | exact HCL.out.set 1 (by intro p hp e; simp only [cloP, List.mem_cons, List.not_mem_nil, or_false] at hp; rcases hp with rfl | rfl | rfl | rfl | rfl | rfl <;> first | (exact absurd e (by decide)) | assumption) | exact HCL.out.set' 1 (by intro p hp e; simp only [cloP, List.mem_cons, List.not_mem_nil, or_false] at hp; rcases hp with rfl | rfl | rfl | rfl | rfl | rfl <;> first | (exact absurd e (by decide)) | assumption)), HS.out, (fun h => by first | rfl | exact P0.out (by simpa using h)), (fun _ => rfl), (fun h => by first | rfl | exact P2.out (by simpa using h)), (fun h => by first | rfl | exact P3.out (by simpa using h)), (fun h => by first | rfl | exact P4.out (by simpa using h)), (fun h => by first | rfl | exact P5.out (by simpa using h)), (fun h => by first | rfl | exact P6.out (by simpa using h)), (fun h => by first | rfl | exact P7.out (by simpa using h)), (fun h => by first | rfl | exact P8.out (by simpa using h)), (fun h => P9.out (by simpa using h))⟩⟩
              · simp only [List.getElem?_toArray, List.getElem?_cons_zero, List.getElem?_cons_succ, Option.some.injEq] at ho
                subst ho
                have q1 : Ls 1 = true := hafter ⟨1, .data⟩ (by simp) rfl
                obtain rfl := p1 (hafter ⟨1, .data⟩ (by simp) rfl)
                have c0 := (hS.1.cell (p := ⟨wr.heap.size, 0, none⟩) hl_P).trans k_P_0
                have P0 := Lib.hid p0; have P1 := Lib.hid p1; have P2 := Lib.hid p2; have P3 := Lib.hid p3; have P4 := Lib.hid p4; have P5 := Lib.hid p5; have P6 := Lib.hid p6; have P7 := Lib.hid p7; have P8 := Lib.hid p8; have P9 := Lib.hid p9; clear hLi hafter p0 p1 p2 p3 p4 p5 p6 p7 p8 p9
                have HS := Lib.hid hS
                clear hS
                simp only [Act.put, List.setIfInBounds_toArray, List.set_cons_zero, List.set_cons_succ]
                go_wp2_with fail
                exact ⟨u44, .pointer (some ⟨wr.heap.size, 0, none⟩), .int .i64 p1, u47, u48, u49, u50, u51, u52, u53, u54, by simp only [Act.put, List.setIfInBounds_toArray, List.set_cons_zero, List.set_cons_succ], .inl ⟨by simpa using h10, by simpa using h11, (by first | exact HCL.out.set 2 (by intro p hp e; simp only [cloP, List.mem_cons, List.not_mem_nil, or_false] at hp; rcases hp with rfl | rfl | rfl | rfl | rfl | rfl <;> first | (exact absurd e (by decide)) | assumption) | exact HCL.out.set' 2 (by intro p hp e; simp only [cloP, List.mem_cons, List.not_mem_nil, or_false] at hp; rcases hp with rfl | rfl | rfl | rfl | rfl | rfl <;> first | (exact absurd e (by decide)) | assumption)), HS.out, (fun h => by first | rfl | exact P0.out (by simpa using h)), (fun h => by first | rfl | exact P1.out (by simpa using h)), (fun _ => rfl), (fun h => by first | rfl | exact P3.out (by simpa using h)), (fun h => by first | rfl | exact P4.out (by simpa using h)), (fun h => by first | rfl | exact P5.out (by simpa using h)), (fun h => by first | rfl | exact P6.out (by simpa using h)), (fun h => by first | rfl | exact P7.out (by simpa using h)), (fun h => by first | rfl | exact P8.out (by simpa using h)), (fun h => P9.out (by simpa using h))⟩⟩
              · simp only [List.getElem?_toArray, List.getElem?_cons_zero, List.getElem?_cons_succ, Option.some.injEq] at ho
                subst ho
                have P0 := Lib.hid p0; have P1 := Lib.hid p1; have P2 := Lib.hid p2; have P3 := Lib.hid p3; have P4 := Lib.hid p4; have P5 := Lib.hid p5; have P6 := Lib.hid p6; have P7 := Lib.hid p7; have P8 := Lib.hid p8; have P9 := Lib.hid p9; clear hLi hafter p0 p1 p2 p3 p4 p5 p6 p7 p8 p9
                have HS := Lib.hid hS
                clear hS
                simp only [Act.put, List.setIfInBounds_toArray, List.set_cons_zero, List.set_cons_succ]
                go_wp2_with fail
                exact ⟨u44, u45, u46, .map (some (w4.heap.size)), u48, u49, u50, u51, u52, u53, u54, by simp only [Act.put, List.setIfInBounds_toArray, List.set_cons_zero, List.set_cons_succ], .inl ⟨by simpa using h10, by simpa using h11, (by first | exact HCL.out.set 3 (by intro p hp e; simp only [cloP, List.mem_cons, List.not_mem_nil, or_false] at hp; rcases hp with rfl | rfl | rfl | rfl | rfl | rfl <;> first | (exact absurd e (by decide)) | assumption) | exact HCL.out.set' 3 (by intro p hp e; simp only [cloP, List.mem_cons, List.not_mem_nil, or_false] at hp; rcases hp with rfl | rfl | rfl | rfl | rfl | rfl <;> first | (exact absurd e (by decide)) | assumption)), HS.out, (fun h => by first | rfl | exact P0.out (by simpa using h)), (fun h => by first | rfl | exact P1.out (by simpa using h)), (fun h => by first | rfl | exact P2.out (by simpa using h)), (fun _ => rfl), (fun h => by first | rfl | exact P4.out (by simpa using h)), (fun h => by first | rfl | exact P5.out (by simpa using h)), (fun h => by first | rfl | exact P6.out (by simpa using h)), (fun h => by first | rfl | exact P7.out (by simpa using h)), (fun h => by first | rfl | exact P8.out (by simpa using h)), (fun h => P9.out (by simpa using h))⟩⟩
              · simp only [List.getElem?_toArray, List.getElem?_cons_zero, List.getElem?_cons_succ, Option.some.injEq] at ho
                subst ho
                have P0 := Lib.hid p0; have P1 := Lib.hid p1; have P2 := Lib.hid p2; have P3 := Lib.hid p3; have P4 := Lib.hid p4; have P5 := Lib.hid p5; have P6 := Lib.hid p6; have P7 := Lib.hid p7; have P8 := Lib.hid p8; have P9 := Lib.hid p9; clear hLi hafter p0 p1 p2 p3 p4 p5 p6 p7 p8 p9
                have HS := Lib.hid hS
                clear hS
                simp only [Act.put, List.setIfInBounds_toArray, List.set_cons_zero, List.set_cons_succ]
                go_wp2_with fail
                exact ⟨u44, u45, u46, u47, .pointer (some ⟨wr.heap.size, 0, none⟩), u49, u50, u51, u52, u53, u54, by simp only [Act.put, List.setIfInBounds_toArray, List.set_cons_zero, List.set_cons_succ], .inl ⟨by simpa using h10, by simpa using h11, (by first | exact HCL.out.set 4 (by intro p hp e; simp only [cloP, List.mem_cons, List.not_mem_nil, or_false] at hp; rcases hp with rfl | rfl | rfl | rfl | rfl | rfl <;> first | (exact absurd e (by decide)) | assumption) | exact HCL.out.set' 4 (by intro p hp e; simp only [cloP, List.mem_cons, List.not_mem_nil, or_false] at hp; rcases hp with rfl | rfl | rfl | rfl | rfl | rfl <;> first | (exact absurd e (by decide)) | assumption)), HS.out, (fun h => by first | rfl | exact P0.out (by simpa using h)), (fun h => by first | rfl | exact P1.out (by simpa using h)), (fun h => by first | rfl | exact P2.out (by simpa using h)), (fun h => by first | rfl | exact P3.out (by simpa using h)), (fun _ => rfl), (fun h => by first | rfl | exact P5.out (by simpa using h)), (fun h => by first | rfl | exact P6.out (by simpa using h)), (fun h => by first | rfl | exact P7.out (by simpa using h)), (fun h => by first | rfl | exact P8.out (by simpa using h)), (fun h => P9.out (by simpa using h))⟩⟩
              · simp only [List.getElem?_toArray, List.getElem?_cons_zero, List.getElem?_cons_succ, Option.some.injEq] at ho
                subst ho
                have q4 : Ls 4 = true := hafter ⟨4, .data⟩ (by simp) rfl
                obtain rfl := p4 (hafter ⟨4, .data⟩ (by simp) rfl)
                have c0 := (hS.1.cell (p := ⟨wr.heap.size, 0, none⟩) hl_P).trans k_P_0
                have P0 := Lib.hid p0; have P1 := Lib.hid p1; have P2 := Lib.hid p2; have P3 := Lib.hid p3; have P4 := Lib.hid p4; have P5 := Lib.hid p5; have P6 := Lib.hid p6; have P7 := Lib.hid p7; have P8 := Lib.hid p8; have P9 := Lib.hid p9; clear hLi hafter p0 p1 p2 p3 p4 p5 p6 p7 p8 p9
                have HS := Lib.hid hS
                clear hS
                simp only [Act.put, List.setIfInBounds_toArray, List.set_cons_zero, List.set_cons_succ]
                go_wp2_with fail
                exact ⟨u44, u45, u46, u47, .pointer (some ⟨wr.heap.size, 0, none⟩), .int .i64 p1, u50, u51, u52, u53, u54, by simp only [Act.put, List.setIfInBounds_toArray, List.set_cons_zero, List.set_cons_succ], .inl ⟨by simpa using h10, by simpa using h11, (by first | exact HCL.out.set 5 (by intro p hp e; simp only [cloP, List.mem_cons, List.not_mem_nil, or_false] at hp; rcases hp with rfl | rfl | rfl | rfl | rfl | rfl <;> first | (exact absurd e (by decide)) | assumption) | exact HCL.out.set' 5 (by intro p hp e; simp only [cloP, List.mem_cons, List.not_mem_nil, or_false] at hp; rcases hp with rfl | rfl | rfl | rfl | rfl | rfl <;> first | (exact absurd e (by decide)) | assumption)), HS.out, (fun h => by first | rfl | exact P0.out (by simpa using h)), (fun h => by first | rfl | exact P1.out (by simpa using h)), (fun h => by first | rfl | exact P2.out (by simpa using h)), (fun h => by first | rfl | exact P3.out (by simpa using h)), (fun h => by first | rfl | exact P4.out (by simpa using h)), (fun _ => rfl), (fun h => by first | rfl | exact P6.out (by simpa using h)), (fun h => by first | rfl | exact P7.out (by simpa using h)), (fun h => by first | rfl | exact P8.out (by simpa using h)), (fun h => P9.out (by simpa using h))⟩⟩
              · simp only [List.getElem?_toArray, List.getElem?_cons_zero, List.getElem?_cons_succ, Option.some.injEq] at ho
                subst ho
                have q3 : Ls 3 = true := hafter ⟨3, .data⟩ (by simp) rfl
                have q5 : Ls 5 = true := hafter ⟨5, .data⟩ (by simp) rfl
                obtain rfl := p3 (hafter ⟨3, .data⟩ (by simp) rfl)
                obtain rfl := p5 (hafter ⟨5, .data⟩ (by simp) rfl)
                have P0 := Lib.hid p0; have P1 := Lib.hid p1; have P2 := Lib.hid p2; have P3 := Lib.hid p3; have P4 := Lib.hid p4; have P5 := Lib.hid p5; have P6 := Lib.hid p6; have P7 := Lib.hid p7; have P8 := Lib.hid p8; have P9 := Lib.hid p9; clear hLi hafter p0 p1 p2 p3 p4 p5 p6 p7 p8 p9
                have HS := Lib.hid hS
                clear hS
                simp only [Act.put, List.setIfInBounds_toArray, List.set_cons_zero, List.set_cons_succ]
                go_wp2_with (at_lookup; refine wp_look_h _ rfl _ _ rfl (w4.heap.size) rfl _ v0 rfl (HRUN.out _ (HS.out.1.block _ hlb)) ?_)
                exact ⟨u44, u45, u46, .map (some (w4.heap.size)), u48, .int .i64 p1, v0, u51, u52, u53, u54, by simp only [Act.put, List.setIfInBounds_toArray, List.set_cons_zero, List.set_cons_succ], .inl ⟨by simpa using h10, by simpa using h11, (by first | exact HCL.out.set 6 (by intro p hp e; simp only [cloP, List.mem_cons, List.not_mem_nil, or_false] at hp; rcases hp with rfl | rfl | rfl | rfl | rfl | rfl <;> first | (exact absurd e (by decide)) | assumption) | exact HCL.out.set' 6 (by intro p hp e; simp only [cloP, List.mem_cons, List.not_mem_nil, or_false] at hp; rcases hp with rfl | rfl | rfl | rfl | rfl | rfl <;> first | (exact absurd e (by decide)) | assumption)), HS.out, (fun h => by first | rfl | exact P0.out (by simpa using h)), (fun h => by first | rfl | exact P1.out (by simpa using h)), (fun h => by first | rfl | exact P2.out (by simpa using h)), (fun h => by first | rfl | exact P3.out (by simpa using h)), (fun h => by first | rfl | exact P4.out (by simpa using h)), (fun h => by first | rfl | exact P5.out (by simpa using h)), (fun _ => rfl), (fun h => by first | rfl | exact P7.out (by simpa using h)), (fun h => by first | rfl | exact P8.out (by simpa using h)), (fun h => P9.out (by simpa using h))⟩⟩
              · simp only [List.getElem?_toArray, List.getElem?_cons_zero, List.getElem?_cons_succ, Option.some.injEq] at ho
                subst ho
                have P0 := Lib.hid p0; have P1 := Lib.hid p1; have P2 := Lib.hid p2; have P3 := Lib.hid p3; have P4 := Lib.hid p4; have P5 := Lib.hid p5; have P6 := Lib.hid p6; have P7 := Lib.hid p7; have P8 := Lib.hid p8; have P9 := Lib.hid p9; clear hLi hafter p0 p1 p2 p3 p4 p5 p6 p7 p8 p9
                have HS := Lib.hid hS
                clear hS
                simp only [Act.put, List.setIfInBounds_toArray, List.set_cons_zero, List.set_cons_succ]
                go_wp2_with fail
                exact ⟨u44, u45, u46, u47, u48, u49, u50, .pointer (some ⟨wr.heap.size, 1, none⟩), u52, u53, u54, by simp only [Act.put, List.setIfInBounds_toArray, List.set_cons_zero, List.set_cons_succ], .inl ⟨by simpa using h10, by simpa using h11, (by first | exact HCL.out.set 7 (by intro p hp e; simp only [cloP, List.mem_cons, List.not_mem_nil, or_false] at hp; rcases hp with rfl | rfl | rfl | rfl | rfl | rfl <;> first | (exact absurd e (by decide)) | assumption) | exact HCL.out.set' 7 (by intro p hp e; simp only [cloP, List.mem_cons, List.not_mem_nil, or_false] at hp; rcases hp with rfl | rfl | rfl | rfl | rfl | rfl <;> first | (exact absurd e (by decide)) | assumption)), HS.out, (fun h => by first | rfl | exact P0.out (by simpa using h)), (fun h => by first | rfl | exact P1.out (by simpa using h)), (fun h => by first | rfl | exact P2.out (by simpa using h)), (fun h => by first | rfl | exact P3.out (by simpa using h)), (fun h => by first | rfl | exact P4.out (by simpa using h)), (fun h => by first | rfl | exact P5.out (by simpa using h)), (fun h => by first | rfl | exact P6.out (by simpa using h)), (fun _ => rfl), (fun h => by first | rfl | exact P8.out (by simpa using h)), (fun h => P9.out (by simpa using h))⟩⟩
              · simp only [List.getElem?_toArray, List.getElem?_cons_zero, List.getElem?_cons_succ, Option.some.injEq] at ho
                subst ho
                have q7 : Ls 7 = true := hafter ⟨7, .data⟩ (by simp) rfl
                obtain rfl := p7 (hafter ⟨7, .data⟩ (by simp) rfl)
                have c0 := (hS.1.cell (p := ⟨wr.heap.size, 1, none⟩) hl_P).trans k_P_1
                have P0 := Lib.hid p0; have P1 := Lib.hid p1; have P2 := Lib.hid p2; have P3 := Lib.hid p3; have P4 := Lib.hid p4; have P5 := Lib.hid p5; have P6 := Lib.hid p6; have P7 := Lib.hid p7; have P8 := Lib.hid p8; have P9 := Lib.hid p9; clear hLi hafter p0 p1 p2 p3 p4 p5 p6 p7 p8 p9
                have HS := Lib.hid hS
                clear hS
                simp only [Act.put, List.setIfInBounds_toArray, List.set_cons_zero, List.set_cons_succ]
                go_wp2_with fail
                exact ⟨u44, u45, u46, u47, u48, u49, u50, .pointer (some ⟨wr.heap.size, 1, none⟩), .int .i64 p2, u53, u54, by simp only [Act.put, List.setIfInBounds_toArray, List.set_cons_zero, List.set_cons_succ], .inl ⟨by simpa using h10, by simpa using h11, (by first | exact HCL.out.set 8 (by intro p hp e; simp only [cloP, List.mem_cons, List.not_mem_nil, or_false] at hp; rcases hp with rfl | rfl | rfl | rfl | rfl | rfl <;> first | (exact absurd e (by decide)) | assumption) | exact HCL.out.set' 8 (by intro p hp e; simp only [cloP, List.mem_cons, List.not_mem_nil, or_false] at hp; rcases hp with rfl | rfl | rfl | rfl | rfl | rfl <;> first | (exact absurd e (by decide)) | assumption)), HS.out, (fun h => by first | rfl | exact P0.out (by simpa using h)), (fun h => by first | rfl | exact P1.out (by simpa using h)), (fun h => by first | rfl | exact P2.out (by simpa using h)), (fun h => by first | rfl | exact P3.out (by simpa using h)), (fun h => by first | rfl | exact P4.out (by simpa using h)), (fun h => by first | rfl | exact P5.out (by simpa using h)), (fun h => by first | rfl | exact P6.out (by simpa using h)), (fun h => by first | rfl | exact P7.out (by simpa using h)), (fun _ => rfl), (fun h => P9.out (by simpa using h))⟩⟩
              · simp only [List.getElem?_toArray, List.getElem?_cons_zero, List.getElem?_cons_succ, Option.some.injEq] at ho
                subst ho
                have q8 : Ls 8 = true := hafter ⟨8, .data⟩ (by simp) rfl
                obtain rfl := p8 (hafter ⟨8, .data⟩ (by simp) rfl)
                have P0 := Lib.hid p0; have P1 := Lib.hid p1; have P2 := Lib.hid p2; have P3 := Lib.hid p3; have P4 := Lib.hid p4; have P5 := Lib.hid p5; have P6 := Lib.hid p6; have P7 := Lib.hid p7; have P8 := Lib.hid p8; have P9 := Lib.hid p9; clear hLi hafter p0 p1 p2 p3 p4 p5 p6 p7 p8 p9
                have HS := Lib.hid hS
                clear hS
                simp only [Act.put, List.setIfInBounds_toArray, List.set_cons_zero, List.set_cons_succ]
                go_wp2_with fail
                exact ⟨u44, u45, u46, u47, u48, u49, u50, u51, .int .i64 p2, _, u54, by simp only [Act.put, List.setIfInBounds_toArray, List.set_cons_zero, List.set_cons_succ], .inl ⟨by simpa using h10, by simpa using h11, (by first | exact HCL.out.set 9 (by intro p hp e; simp only [cloP, List.mem_cons, List.not_mem_nil, or_false] at hp; rcases hp with rfl | rfl | rfl | rfl | rfl | rfl <;> first | (exact absurd e (by decide)) | assumption) | exact HCL.out.set' 9 (by intro p hp e; simp only [cloP, List.mem_cons, List.not_mem_nil, or_false] at hp; rcases hp with rfl | rfl | rfl | rfl | rfl | rfl <;> first | (exact absurd e (by decide)) | assumption)), HS.out.alloc1 _, (fun h => by first | rfl | exact P0.out (by simpa using h)), (fun h => by first | rfl | exact P1.out (by simpa using h)), (fun h => by first | rfl | exact P2.out (by simpa using h)), (fun h => by first | rfl | exact P3.out (by simpa using h)), (fun h => by first | rfl | exact P4.out (by simpa using h)), (fun h => by first | rfl | exact P5.out (by simpa using h)), (fun h => by first | rfl | exact P6.out (by simpa using h)), (fun h => by first | rfl | exact P7.out (by simpa using h)), (fun h => by first | rfl | exact P8.out (by simpa using h)), (fun _ => NewS.mk _ _ _)⟩⟩
              · simp only [List.getElem?_toArray, List.getElem?_cons_zero, List.getElem?_cons_succ, Option.some.injEq] at ho
                subst ho
                have q6 : Ls 6 = true := hafter ⟨6, .data⟩ (by simp) rfl
                have q9 : Ls 9 = true := hafter ⟨9, .data⟩ (by simp) rfl
                obtain rfl := (p6 q6).symm
                obtain ⟨g9, c9, rfl, hc9, hs9⟩ := p9 q9
                have HALL := Lib.hid (HCL.out.all q6 q9)
                have P0 := Lib.hid p0; have P1 := Lib.hid p1; have P2 := Lib.hid p2; have HS := Lib.hid hS; clear hLi hafter hS p0 p1 p2 p3 p4 p5 p6 p7 p8 p9
                have hsW := HS.out.2
                simp only [Act.put, List.setIfInBounds_toArray, List.set_cons_zero, List.set_cons_succ]
                go_wp2_with (at_builtin; refine wpList_append_own_at _ rfl (.tmp 50) (.tmp 53) 31 rfl (w6.heap.size) 3 i0 (.int .i64 0) 1 8 slUnder hi hz0 hz1 hz2 rfl (by decide) v0 z1.length (z1.map (Value.int .i64)) rfl (HOW.out.below HS.out.1) ⟨g9, 0, none⟩ 1 c9 [.int .i64 p2] rfl rfl (cell_oneN hc9) (by intro u hu; rcases List.mem_cons.1 hu with rfl | hu; (· rfl); (· cases hu)) (by have := HZL.out; unfold maxLen; omega) (by have := HZL.out; omega) (by omega) ?_; intro v9 w9 hm9 hg9 _ hat9; have HA9 := Lib.hid (AppS.mk' HS.out (Ow.push hm9) hg9 hat9); clear hm9 hg9 hat9)
                exact ⟨u44, u45, u46, u47, u48, u49, v0, u51, u52, .slice (some ⟨g9, 0, none⟩) 1 c9, v9, by simp only [Act.put, List.setIfInBounds_toArray, List.set_cons_zero, List.set_cons_succ], .inr (.inl ⟨by simp, by simpa using h11, (by first | exact HCL.out.set 10 (by intro p hp e; simp only [cloP, List.mem_cons, List.not_mem_nil, or_false] at hp; rcases hp with rfl | rfl | rfl | rfl | rfl | rfl <;> first | (exact absurd e (by decide)) | assumption) | exact HCL.out.set' 10 (by intro p hp e; simp only [cloP, List.mem_cons, List.not_mem_nil, or_false] at hp; rcases hp with rfl | rfl | rfl | rfl | rfl | rfl <;> first | (exact absurd e (by decide)) | assumption)), (fun j h3 h9 => by have := HALL.out j h3 h9; simp [this]), HA9.out, (fun h => by first | rfl | exact P0.out (by simpa using h)), (fun h => by first | rfl | exact P1.out (by simpa using h)), (fun h => by first | rfl | exact P2.out (by simpa using h))⟩)⟩
              · exfalso
                simp only [List.getElem?_toArray, List.getElem?_cons_zero, List.getElem?_cons_succ, Option.some.injEq] at ho
                subst ho
                have q10 : Ls 10 = true := hafter ⟨10, .data⟩ (by simp) rfl
                rw [h10] at q10; cases q10
            · obtain ⟨h10, h11, hcl, hall, hA, p0, p1, p2⟩ := hJ
              have HCL := Lib.hid hcl
              have HA := Lib.hid hA
              clear hcl hA
              have HALL := Lib.hid hall
              clear hall
              obtain rfl | rfl | rfl | rfl | rfl | rfl | rfl | rfl | rfl | rfl | rfl | rfl : i = 0 ∨ i = 1 ∨ i = 2 ∨ i = 3 ∨ i = 4 ∨ i = 5 ∨ i = 6 ∨ i = 7 ∨ i = 8 ∨ i = 9 ∨ i = 10 ∨ i = 11 := by omega
              · simp only [List.getElem?_toArray, List.getElem?_cons_zero, Option.some.injEq] at ho
                subst ho
                have P0 := Lib.hid p0; have P1 := Lib.hid p1; have P2 := Lib.hid p2; clear hLi hafter p0 p1 p2
                simp only [Act.put, List.setIfInBounds_toArray, List.set_cons_zero, List.set_cons_succ]
                go_wp2_with fail
                exact ⟨.map (some (w4.heap.size)), u45, u46, u47, u48, u49, u50, u51, u52, u53, u54, by simp only [Act.put, List.setIfInBounds_toArray, List.set_cons_zero, List.set_cons_succ], .inr (.inl ⟨by simpa using h10, by simpa using h11, (by first | exact HCL.out.set 0 (by intro p hp e; simp only [cloP, List.mem_cons, List.not_mem_nil, or_false] at hp; rcases hp with rfl | rfl | rfl | rfl | rfl | rfl <;> first | (exact absurd e (by decide)) | assumption) | exact HCL.out.set' 0 (by intro p hp e; simp only [cloP, List.mem_cons, List.not_mem_nil, or_false] at hp; rcases hp with rfl | rfl | rfl | rfl | rfl | rfl <;> first | (exact absurd e (by decide)) | assumption)), (fun j h3 h9 => by have := HALL.out j h3 h9; simp [this]), HA.out, (fun _ => rfl), (fun h => by first | rfl | exact P1.out (by simpa using h)), (fun h => by first | rfl | exact P2.out (by simpa using h))⟩)⟩
              · simp only [List.getElem?_toArray, List.getElem?_cons_zero, List.getElem?_cons_succ, Option.some.injEq] at ho
                subst ho
                have P0 := Lib.hid p0; have P1 := Lib.hid p1; have P2 := Lib.hid p2; clear hLi hafter p0 p1 p2
                simp only [Act.put, List.setIfInBounds_toArray, List.set_cons_zero, List.set_cons_succ]
                go_wp2_with fail
                exact ⟨u44, .pointer (some ⟨wr.heap.size, 0, none⟩), u46, u47, u48, u49, u50, u51, u52, u53, u54, by simp only [Act.put, List.setIfInBounds_toArray, List.set_cons_zero, List.set_cons_succ], .inr (.inl ⟨by simpa using h10, by simpa using h11, (by first | exact HCL.out.set 1 (by intro p hp e; simp only [cloP, List.mem_cons, List.not_mem_nil, or_false] at hp; rcases hp with rfl | rfl | rfl | rfl | rfl | rfl <;> first | (exact absurd e (by decide)) | assumption) | exact HCL.out.set' 1 (by intro p hp e; simp only [cloP, List.mem_cons, List.not_mem_nil, or_false] at hp; rcases hp with rfl | rfl | rfl | rfl | rfl | rfl <;> first | (exact absurd e (by decide)) | assumption)), (fun j h3 h9 => by have := HALL.out j h3 h9; simp [this]), HA.out, (fun h => by first | rfl | exact P0.out (by simpa using h)), (fun _ => rfl), (fun h => by first | rfl | exact P2.out (by simpa using h))⟩)⟩
              · simp only [List.getElem?_toArray, List.getElem?_cons_zero, List.getElem?_cons_succ, Option.some.injEq] at ho
                subst ho
                have q1 : Ls 1 = true := hafter ⟨1, .data⟩ (by simp) rfl
                obtain rfl := p1 (hafter ⟨1, .data⟩ (by simp) rfl)
                have c0 := (HA.out.cell HNE.out hl_P 0).trans k_P_0
                have P0 := Lib.hid p0; have P1 := Lib.hid p1; have P2 := Lib.hid p2; clear hLi hafter p0 p1 p2
                simp only [Act.put, List.setIfInBounds_toArray, List.set_cons_zero, List.set_cons_succ]
                go_wp2_with fail
                exact ⟨u44, .pointer (some ⟨wr.heap.size, 0, none⟩), .int .i64 p1, u47, u48, u49, u50, u51, u52, u53, u54, by simp only [Act.put, List.setIfInBounds_toArray, List.set_cons_zero, List.set_cons_succ], .inr (.inl ⟨by simpa using h10, by simpa using h11, (by first | exact HCL.out.set 2 (by intro p hp e; simp only [cloP, List.mem_cons, List.not_mem_nil, or_false] at hp; rcases hp with rfl | rfl | rfl | rfl | rfl | rfl <;> first | (exact absurd e (by decide)) | assumption) | exact HCL.out.set' 2 (by intro p hp e; simp only [cloP, List.mem_cons, List.not_mem_nil, or_false] at hp; rcases hp with rfl | rfl | rfl | rfl | rfl | rfl <;> first | (exact absurd e (by decide)) | assumption)), (fun j h3 h9 => by have := HALL.out j h3 h9; simp [this]), HA.out, (fun h => by first | rfl | exact P0.out (by simpa using h)), (fun h => by first | rfl | exact P1.out (by simpa using h)), (fun _ => rfl)⟩)⟩
              · exfalso; rw [HALL.out 3 (by decide) (by decide)] at hLi; cases hLi
              · exfalso; rw [HALL.out 4 (by decide) (by decide)] at hLi; cases hLi
              · exfalso; rw [HALL.out 5 (by decide) (by decide)] at hLi; cases hLi
              · exfalso; rw [HALL.out 6 (by decide) (by decide)] at hLi; cases hLi
              · exfalso; rw [HALL.out 7 (by decide) (by decide)] at hLi; cases hLi
              · exfalso; rw [HALL.out 8 (by decide) (by decide)] at hLi; cases hLi
              · exfalso; rw [HALL.out 9 (by decide) (by decide)] at hLi; cases hLi
              · exfalso; rw [h10] at hLi; cases hLi
              · simp only [List.getElem?_toArray, List.getElem?_cons_zero, List.getElem?_cons_succ, Option.some.injEq] at ho
                subst ho
                have q0 : Ls 0 = true := hafter ⟨0, .data⟩ (by simp) rfl
                have q2 : Ls 2 = true := hafter ⟨2, .data⟩ (by simp) rfl
                obtain rfl := p0 q0
                obtain rfl := p2 q2
                have HL11 := Lib.hid (show ∀ j, j < 11 → Ls j = true from CloG.low HCL.out HALL.out q0 q2 h10)
                have P1 := Lib.hid p1; clear hLi hafter p0 p1 p2
                simp only [Act.put, List.setIfInBounds_toArray, List.set_cons_zero, List.set_cons_succ]
                go_wp2_with (at_mapUpdate; refine wp_back_g _ rfl _ _ _ rfl HBK.out rfl rfl rfl HA.out.gr HA.out.own (all_app HZ64.out HY64.out) (by have := HZL.out; rw [List.length_append]; simp; omega) (HA.out.loc.imp id .inr) ?_; intro w9 hm9 hg9; have HF9 := Lib.hid (HA.out.fin HNE.out hl_P hnb HOW.out hm9 hg9); clear hm9 hg9)
                exact ⟨.map (some (w4.heap.size)), u45, .int .i64 p1, u47, u48, u49, u50, u51, u52, u53, u54, by simp only [Act.put, List.setIfInBounds_toArray, List.set_cons_zero, List.set_cons_succ], .inr (.inr ⟨by simp, (fun j hj => by have := HL11.out j hj; simp [this]), HF9.out⟩)⟩
            · obtain ⟨h11, hall, _⟩ := hJ
              exfalso
              rcases Nat.lt_or_ge i 11 with h | h
              · rw [hall i h] at hLi; cases hLi
              · obtain rfl : i = 11 := by omega
                rw [h11] at hLi; cases hLi
          · intro Ls a0 wq hall hJ
            obtain ⟨u44, u45, u46, u47, u48, u49, u50, u51, u52, u53, u54, rfl, hJ | hJ | hJ⟩ := hJ
            · have h11 := hJ.2.1
              rw [hall 11 (by decide)] at h11; cases h11
            · have h11 := hJ.2.1
              rw [hall 11 (by decide)] at h11; cases h11
            · obtain ⟨_, _, hfin⟩ := hJ
              have HFIN := Lib.hid hfin
              clear hfin hall
              simp only [Act.put, List.setIfInBounds_toArray, List.set_cons_zero, List.set_cons_succ]
              go_wp2_with fail
              refine region_name fun W8 hW => ?_
              have HBw8 := Lib.hid (show Below wq.heap.size wq W8 by rw [← hW]; (repeat' (first | with_reducible exact Below.refl _ _ | (with_reducible refine Below.alloc ?_ ?_ _; rotate_left; (focus (first | omega | (simp; done) | (simp; omega)))) | with_reducible apply Below.drew | (with_reducible refine Below.setCell ?_ ?_ _; rotate_left; (focus (first | omega | (simp; done) | (simp; omega)))))))
              clear hW
              have hs7 := HFIN.out.size
              have hs8 := HBw8.out.size
              have hbx : W8.heap[wr.heap.size]? = W7.heap[wr.heap.size]? := (HBw8.out.block _ (by omega)).trans HFIN.out.box
              replace k_P_0 : W8.cell? ⟨wr.heap.size, 0, none⟩ = some (.int .i64 p1) := by simp only [World.cell?, hbx] at k_P_0 ⊢; exact k_P_0
              replace k_P_1 : W8.cell? ⟨wr.heap.size, 1, none⟩ = some (.int .i64 p2) := by simp only [World.cell?, hbx] at k_P_1 ⊢; exact k_P_1
              have hty8 := hbx.trans HTY.out
              have HMG8 := Lib.hid (HFIN.out.mg.below HBw8.out)
              have HG8 := Lib.hid (gr_below (HFIN.out.fr w6 (Nat.le_refl _) HG7.out) HBw8.out)
              replace hl_P : wr.heap.size < W8.heap.size := by omega
              replace hlb : w4.heap.size < W8.heap.size := by omega
              replace hbase : w6.heap.size ≤ W8.heap.size := by omega
              clear hbx HRUN HOW HZ64 HZL HBK HNE HFIN HBw8
              obtain ⟨z2, hz2'⟩ : ∃ z, (if p2 = p1 then z1 ++ [p2] else nbl (E.take q) p2) = z := ⟨_, rfl⟩
              have HZ2 := Lib.hid hz2'
              obtain ⟨f8, hf8⟩ : ∃ f, (fun z => if z = p1 then z1 ++ [p2] else nbl (E.take q) z) = f := ⟨_, rfl⟩
              rw [hf8] at HMG8
              have HF8 := Lib.hid hf8
              obtain ⟨u0, hrun, how, hz64, hzl, hbk⟩ := HMG8.out.here mtG (by unfold maxLen; omega) HY64.out
              have e8 : f8 p2 = z2 := by rw [← hf8]; exact hz2'
              rw [e8] at how hz64 hzl
              have HRUN := Lib.hid hrun
              have HOW := Lib.hid how
              have HZ64 := Lib.hid hz64
              have HZL := Lib.hid hzl
              have HBK := Lib.hid hbk
              have HNE := Lib.hid (ow_ne_box how hty8)
              have HY64' := HY64
              replace HY64 := HX64
              clear hrun how hz64 hzl hbk hz2' hf8 e8 hty8 HMG HTY
              refine region_inv2 (by kernel_rfl) (GpB (w6.heap.size) (w4.heap.size) (2 * q + 1) (wr.heap.size) p2 p1 u0 z2 (f8) (W8)) ?_ ?_ ?_ ?_
              · exact ⟨u55, u56, u57, u58, u59, u60, u61, u62, u63, u64, u65, by simp only [Act.put, List.setIfInBounds_toArray, List.set_cons_zero, List.set_cons_succ], .inl ⟨rfl, rfl, CloG.none, Since.drawn _, (fun h => by cases h), (fun h => by cases h), (fun h => by cases h), (fun h => by cases h), (fun h => by cases h), (fun h => by cases h), (fun h => by cases h), (fun h => by cases h), (fun h => by cases h), (fun h => by cases h)⟩⟩
              · exact acyc_spec (by kernel_rfl)
              · intro Ls a0 wq i o ho hLi hafter hJ
                have hio : i < 12 := (Array.getElem?_eq_some_iff.1 ho).1
                obtain ⟨u55, u56, u57, u58, u59, u60, u61, u62, u63, u64, u65, rfl, hJ | hJ | hJ⟩ := hJ
                · obtain ⟨h10, h11, hcl, hS, p0, p1, p2, p3, p4, p5, p6, p7, p8, p9⟩ := hJ
                  have HCL := Lib.hid hcl
                  clear hcl
                  obtain rfl | rfl | rfl | rfl | rfl | rfl | rfl | rfl | rfl | rfl | rfl | rfl : i = 0 ∨ i = 1 ∨ i = 2 ∨ i = 3 ∨ i = 4 ∨ i = 5 ∨ i = 6 ∨ i = 7 ∨ i = 8 ∨ i = 9 ∨ i = 10 ∨ i = 11 := by omega
                  · simp only [List.getElem?_toArray, List.getElem?_cons_zero, Option.some.injEq] at ho
                    subst ho
                    have P0 := Lib.hid p0; have P1 := Lib.hid p1; have P2 := Lib.hid p2; have P3 := Lib.hid p3; have P4 := Lib.hid p4; have P5 := Lib.hid p5; have P6 := Lib.hid p6; have P7 := Lib.hid p7; have P8 := Lib.hid p8; have P9 := Lib.hid p9; clear hLi hafter p0 p1 p2 p3 p4 p5 p6 p7 p8 p9
                    have HS := Lib.hid hS
                    clear hS
                    simp only [Act.put, List.setIfInBounds_toArray, List.set_cons_zero, List.set_cons_succ]
                    go_wp2_with fail
                    exact ⟨.map (some (w4.heap.size)), u56, u57, u58, u59, u60, u61, u62, u63, u64, u65, by simp only [Act.put, List.setIfInBounds_toArray, List.set_cons_zero, List.set_cons_succ], .inl ⟨by simpa using h10, by simpa using h11, (by first | exact HCL.out.set 0 (by intro p hp e; simp only [cloP, List.mem_cons, List.not_mem_nil, or_false] at hp; rcases hp with rfl | rfl | rfl | rfl | rfl | rfl <;> first | (exact absurd e (by decide)) | assumption) | exact HCL.out.set' 0 (by intro p hp e; simp only [cloP, List.mem_cons, List.not_mem_nil, or_false] at hp; rcases hp with rfl | rfl | rfl | rfl | rfl | rfl <;> first | (exact absurd e (by decide)) | assumption)), HS.out, (fun _ => rfl), (fun h => by first | rfl | exact P1.out (by simpa using h)), (fun h => by first | rfl | exact P2.out (by simpa using h)), (fun h => by first | rfl | exact P3.out (by simpa using h)), (fun h => by first | rfl | exact P4.out (by simpa using h)), (fun h => by first | rfl | exact P5.out (by simpa using h)), (fun h => by first | rfl | exact P6.out (by simpa using h)), (fun h => by first | rfl | exact P7.out (by simpa using h)), (fun h => by first | rfl | exact P8.out (by simpa using h)), (fun h => P9.out (by simpa using h))⟩⟩
                  · simp only [List.getElem?_toArray, List.getElem?_cons_zero, List.getElem?_cons_succ, Option.some.injEq] at ho
                    subst ho
                    have P0 := Lib.hid p0; have P1 := Lib.hid p1; have P2 := Lib.hid p2; have P3 := Lib.hid p3; have P4 := Lib.hid p4; have P5 := Lib.hid p5; have P6 := Lib.hid p6; have P7 := Lib.hid p7; have P8 := Lib.hid p8; have P9 := Lib.hid p9; clear hLi hafter p0 p1 p2 p3 p4 p5 p6 p7 p8 p9
                    have HS := Lib.hid hS
                    clear hS
                    simp only [Act.put, List.setIfInBounds_toArray, List.set_cons_zero, List.set_cons_succ]
                    go_wp2_with fail
                    exact ⟨u55, .pointer (some ⟨wr.heap.size, 1, none⟩), u57, u58, u59, u60, u61, u62, u63, u64, u65, by simp only [Act.put, List.setIfInBounds_toArray, List.set_cons_zero, List.set_cons_succ], .inl ⟨by simpa using h10, by simpa using h11, (by first | exact HCL.out.set 1 (by intro p hp e; simp only [cloP, List.mem_cons, List.not_mem_nil, or_false] at hp; rcases hp with rfl | rfl | rfl | rfl | rfl | rfl <;> first | (exact absurd e (by decide)) | assumption) | exact HCL.out.set' 1 (by intro p hp e; simp only [cloP, List.mem_cons, List.not_mem_nil, or_false] at hp; rcases hp with rfl | rfl | rfl | rfl | rfl | rfl <;> first | (exact absurd e (by decide)) | assumption)), HS.out, (fun h => by first | rfl | exact P0.out (by simpa using h)), (fun _ => rfl), (fun h => by first | rfl | exact P2.out (by simpa using h)), (fun h => by first | rfl | exact P3.out (by simpa using h)), (fun h => by first | rfl | exact P4.out (by simpa using h)), (fun h => by first | rfl | exact P5.out (by simpa using h)), (fun h => by first | rfl | exact P6.out (by simpa using h)), (fun h => by first | rfl | exact P7.out (by simpa using h)), (fun h => by first | rfl | exact P8.out (by simpa using h)), (fun h => P9.out (by simpa using h))⟩⟩
                  · simp only [List.getElem?_toArray, List.getElem?_cons_zero, List.getElem?_cons_succ, Option.some.injEq] at ho
                    subst ho
                    have q1 : Ls 1 = true := hafter ⟨1, .data⟩ (by simp) rfl
                    obtain rfl := p1 (hafter ⟨1, .data⟩ (by simp) rfl)
                    have c0 := (hS.1.cell (p := ⟨wr.heap.size, 1, none⟩) hl_P).trans k_P_1
                    have P0 := Lib.hid p0; have P1 := Lib.hid p1; have P2 := Lib.hid p2; have P3 := Lib.hid p3; have P4 := Lib.hid p4; have P5 := Lib.hid p5; have P6 := Lib.hid p6; have P7 := Lib.hid p7; have P8 := Lib.hid p8; have P9 := Lib.hid p9; clear hLi hafter p0 p1 p2 p3 p4 p5 p6 p7 p8 p9
                    have HS := Lib.hid hS
                    clear hS
                    simp only [Act.put, List.setIfInBounds_toArray, List.set_cons_zero, List.set_cons_succ]
                    go_wp2_with fail
                    exact ⟨u55, .pointer (some ⟨wr.heap.size, 1, none⟩), .int .i64 p2, u58, u59, u60, u61, u62, u63, u64, u65, by simp only [Act.put, List.setIfInBounds_toArray, List.set_cons_zero, List.set_cons_succ], .inl ⟨by simpa using h10, by simpa using h11, (by first | exact HCL.out.set 2 (by intro p hp e; simp only [cloP, List.mem_cons, List.not_mem_nil, or_false] at hp; rcases hp with rfl | rfl | rfl | rfl | rfl | rfl <;> first | (exact absurd e (by decide)) | assumption) | exact HCL.out.set' 2 (by intro p hp e; simp only [cloP, List.mem_cons, List.not_mem_nil, or_false] at hp; rcases hp with rfl | rfl | rfl | rfl | rfl | rfl <;> first | (exact absurd e (by decide)) | assumption)), HS.out, (fun h => by first | rfl | exact P0.out (by simpa using h)), (fun h => by first | rfl | exact P1.out (by simpa using h)), (fun _ => rfl), (fun h => by first | rfl | exact P3.out (by simpa using h)), (fun h => by first | rfl | exact P4.out (by simpa using h)), (fun h => by first | rfl | exact P5.out (by simpa using h)), (fun h => by first | rfl | exact P6.out (by simpa using h)), (fun h => by first | rfl | exact P7.out (by simpa using h)), (fun h => by first | rfl | exact P8.out (by simpa using h)), (fun h => P9.out (by simpa using h))⟩⟩
                  · simp only [List.getElem?_toArray, List.getElem?_cons_zero, List.getElem?_cons_succ, Option.some.injEq] at ho
                    subst ho
                    have P0 := Lib.hid p0; have P1 := Lib.hid p1; have P2 := Lib.hid p2; have P3 := Lib.hid p3; have P4 := Lib.hid p4; have P5 := Lib.hid p5; have P6 := Lib.hid p6; have P7 := Lib.hid p7; have P8 := Lib.hid p8; have P9 := Lib.hid p9; clear hLi hafter p0 p1 p2 p3 p4 p5 p6 p7 p8 p9
                    have HS := Lib.hid hS
                    clear hS
                    simp only [Act.put, List.setIfInBounds_toArray, List.set_cons_zero, List.set_cons_succ]
                    go_wp2_with fail
                    exact ⟨u55, u56, u57, .map (some (w4.heap.size)), u59, u60, u61, u62, u63, u64, u65, by simp only [Act.put, List.setIfInBounds_toArray, List.set_cons_zero, List.set_cons_succ], .inl ⟨by simpa using h10, by simpa using h11, (by first | exact HCL.out.set 3 (by intro p hp e; simp only [cloP, List.mem_cons, List.not_mem_nil, or_false] at hp; rcases hp with rfl | rfl | rfl | rfl | rfl | rfl <;> first | (exact absurd e (by decide)) | assumption) | exact HCL.out.set' 3 (by intro p hp e; simp only [cloP, List.mem_cons, List.not_mem_nil, or_false] at hp; rcases hp with rfl | rfl | rfl | rfl | rfl | rfl <;> first | (exact absurd e (by decide)) | assumption)), HS.out, (fun h => by first | rfl | exact P0.out (by simpa using h)), (fun h => by first | rfl | exact P1.out (by simpa using h)), (fun h => by first | rfl | exact P2.out (by simpa using h)), (fun _ => rfl), (fun h => by first | rfl | exact P4.out (by simpa using h)), (fun h => by first | rfl | exact P5.out (by simpa using h)), (fun h => by first | rfl | exact P6.out (by simpa using h)), (fun h => by first | rfl | exact P7.out (by simpa using h)), (fun h => by first | rfl | exact P8.out (by simpa using h)), (fun h => P9.out (by simpa using h))⟩⟩
                  · simp only [List.getElem?_toArray, List.getElem?_cons_zero, List.getElem?_cons_succ, Option.some.injEq] at ho
                    subst ho
                    have P0 := Lib.hid p0; have P1 := Lib.hid p1; have P2 := Lib.hid p2; have P3 := Lib.hid p3; have P4 := Lib.hid p4; have P5 := Lib.hid p5; have P6 := Lib.hid p6; have P7 := Lib.hid p7; have P8 := Lib.hid p8; have P9 := Lib.hid p9; clear hLi hafter p0 p1 p2 p3 p4 p5 p6 p7 p8 p9
                    have HS := Lib.hid hS
                    clear hS
                    simp only [Act.put, List.setIfInBounds_toArray, List.set_cons_zero, List.set_cons_succ]
                    go_wp2_with fail
                    exact ⟨u55, u56, u57, u58, .pointer (some ⟨wr.heap.size, 1, none⟩), u60, u61, u62, u63, u64, u65, by simp only [Act.put, List.setIfInBounds_toArray, List.set_cons_zero, List.set_cons_succ], .inl ⟨by simpa using h10, by simpa using h11, (by first | exact HCL.out.set 4 (by intro p hp e; simp only [cloP, List.mem_cons, List.not_mem_nil, or_false] at hp; rcases hp with rfl | rfl | rfl | rfl | rfl | rfl <;> first | (exact absurd e (by decide)) | assumption) | exact HCL.out.set' 4 (by intro p hp e; simp only [cloP, List.mem_cons, List.not_mem_nil, or_false] at hp; rcases hp with rfl | rfl | rfl | rfl | rfl | rfl <;> first | (exact absurd e (by decide)) | assumption)), HS.out, (fun h => by first | rfl | exact P0.out (by simpa using h)), (fun h => by first | rfl | exact P1.out (by simpa using h)), (fun h => by first | rfl | exact P2.out (by simpa using h)), (fun h => by first | rfl | exact P3.out (by simpa using h)), (fun _ => rfl), (fun h => by first | rfl | exact P5.out (by simpa using h)), (fun h => by first | rfl | exact P6.out (by simpa using h)), (fun h => by first | rfl | exact P7.out (by simpa using h)), (fun h => by first | rfl | exact P8.out (by simpa using h)), (fun h => P9.out (by simpa using h))⟩⟩
                  · simp only [List.getElem?_toArray, List.getElem?_cons_zero, List.getElem?_cons_succ, Option.some.injEq] at ho
                    subst ho
                    have q4 : Ls 4 = true := hafter ⟨4, .data⟩ (by simp) rfl
                    obtain rfl := p4 (hafter ⟨4, .data⟩ (by simp) rfl)
                    have c0 := (hS.1.cell (p := ⟨wr.heap.size, 1, none⟩) hl_P).trans k_P_1
                    have P0 := Lib.hid p0; have P1 := Lib.hid p1; have P2 := Lib.hid p2; have P3 := Lib.hid p3; have P4 := Lib.hid p4; have P5 := Lib.hid p5; have P6 := Lib.hid p6; have P7 := Lib.hid p7; have P8 := Lib.hid p8; have P9 := Lib.hid p9; clear hLi hafter p0 p1 p2 p3 p4 p5 p6 p7 p8 p9
                    have HS := Lib.hid hS
                    clear hS
                    simp only [Act.put, List.setIfInBounds_toArray, List.set_cons_zero, List.set_cons_succ]
                    go_wp2_with fail
                    exact ⟨u55, u56, u57, u58, .pointer (some ⟨wr.heap.size, 1, none⟩), .int .i64 p2, u61, u62, u63, u64, u65, by simp only [Act.put, List.setIfInBounds_toArray, List.set_cons_zero, List.set_cons_succ], .inl ⟨by simpa using h10, by simpa using h11, (by first | exact HCL.out.set 5 (by intro p hp e; simp only [cloP, List.mem_cons, List.not_mem_nil, or_false] at hp; rcases hp with rfl | rfl | rfl | rfl | rfl | rfl <;> first | (exact absurd e (by decide)) | assumption) | exact HCL.out.set' 5 (by intro p hp e; simp only [cloP, List.mem_cons, List.not_mem_nil, or_false] at hp; rcases hp with rfl | rfl | rfl | rfl | rfl | rfl <;> first | (exact absurd e (by decide)) | assumption)), HS.out, (fun h => by first | rfl | exact P0.out (by simpa using h)), (fun h => by first | rfl | exact P1.out (by simpa using h)), (fun h => by first | rfl | exact P2.out (by simpa using h)), (fun h => by first | rfl | exact P3.out (by simpa using h)), (fun h => by first | rfl | exact P4.out (by simpa using h)), (fun _ => rfl), (fun h => by first | rfl | exact P6.out (by simpa using h)), (fun h => by first | rfl | exact P7.out (by simpa using h)), (fun h => by first | rfl | exact P8.out (by simpa using h)), (fun h => P9.out (by simpa using h))⟩⟩
                  · simp only [List.getElem?_toArray, List.getElem?_cons_zero, List.getElem?_cons_succ, Option.some.injEq] at ho
                    subst ho
                    have q3 : Ls 3 = true := hafter ⟨3, .data⟩ (by simp) rfl
                    have q5 : Ls 5 = true := hafter ⟨5, .data⟩ (by simp) rfl
                    obtain rfl := p3 (hafter ⟨3, .data⟩ (by simp) rfl)
                    obtain rfl := p5 (hafter ⟨5, .data⟩ (by simp) rfl)
                    have P0 := Lib.hid p0; have P1 := Lib.hid p1; have P2 := Lib.hid p2; have P3 := Lib.hid p3; have P4 := Lib.hid p4; have P5 := Lib.hid p5; have P6 := Lib.hid p6; have P7 := Lib.hid p7; have P8 := Lib.hid p8; have P9 := Lib.hid p9; clear hLi hafter p0 p1 p2 p3 p4 p5 p6 p7 p8 p9
                    have HS := Lib.hid hS
                    clear hS
                    simp only [Act.put, List.setIfInBounds_toArray, List.set_cons_zero, List.set_cons_succ]
                    go_wp2_with (at_lookup; refine wp_look_h _ rfl _ _ rfl (w4.heap.size) rfl _ u0 rfl (HRUN.out _ (HS.out.1.block _ hlb)) ?_)
                    exact ⟨u55, u56, u57, .map (some (w4.heap.size)), u59, .int .i64 p2, u0, u62, u63, u64, u65, by simp only [Act.put, List.setIfInBounds_toArray, List.set_cons_zero, List.set_cons_succ], .inl ⟨by simpa using h10, by simpa using h11, (by first | exact HCL.out.set 6 (by intro p hp e; simp only [cloP, List.mem_cons, List.not_mem_nil, or_false] at hp; rcases hp with rfl | rfl | rfl | rfl | rfl | rfl <;> first | (exact absurd e (by decide)) | assumption) | exact HCL.out.set' 6 (by intro p hp e; simp only [cloP, List.mem_cons, List.not_mem_nil, or_false] at hp; rcases hp with rfl | rfl | rfl | rfl | rfl | rfl <;> first | (exact absurd e (by decide)) | assumption)), HS.out, (fun h => by first | rfl | exact P0.out (by simpa using h)), (fun h => by first | rfl | exact P1.out (by simpa using h)), (fun h => by first | rfl | exact P2.out (by simpa using h)), (fun h => by first | rfl | exact P3.out (by simpa using h)), (fun h => by first | rfl | exact P4.out (by simpa using h)), (fun h => by first | rfl | exact P5.out (by simpa using h)), (fun _ => rfl), (fun h => by first | rfl | exact P7.out (by simpa using h)), (fun h => by first | rfl | exact P8.out (by simpa using h)), (fun h => P9.out (by simpa using h))⟩⟩
                  · simp only [List.getElem?_toArray, List.getElem?_cons_zero, List.getElem?_cons_succ, Option.some.injEq] at ho
                    subst ho
                    have P0 := Lib.hid p0; have P1 := Lib.hid p1; have P2 := Lib.hid p2; have P3 := Lib.hid p3; have P4 := Lib.hid p4; have P5 := Lib.hid p5; have P6 := Lib.hid p6; have P7 := Lib.hid p7; have P8 := Lib.hid p8; have P9 := Lib.hid p9; clear hLi hafter p0 p1 p2 p3 p4 p5 p6 p7 p8 p9
                    have HS := Lib.hid hS
                    clear hS
                    simp only [Act.put, List.setIfInBounds_toArray, List.set_cons_zero, List.set_cons_succ]
                    go_wp2_with fail
                    exact ⟨u55, u56, u57, u58, u59, u60, u61, .pointer (some ⟨wr.heap.size, 0, none⟩), u63, u64, u65, by simp only [Act.put, List.setIfInBounds_toArray, List.set_cons_zero, List.set_cons_succ], .inl ⟨by simpa using h10, by simpa using h11, (by first | exact HCL.out.set 7 (by intro p hp e; simp only [cloP, List.mem_cons, List.not_mem_nil, or_false] at hp; rcases hp with rfl | rfl | rfl | rfl | rfl | rfl <;> first | (exact absurd e (by decide)) | assumption) | exact HCL.out.set' 7 (by intro p hp e; simp only [cloP, List.mem_cons, List.not_mem_nil, or_false] at hp; rcases hp with rfl | rfl | rfl | rfl | rfl | rfl <;> first | (exact absurd e (by decide)) | assumption)), HS.out, (fun h => by first | rfl | exact P0.out (by simpa using h)), (fun h => by first | rfl | exact P1.out (by simpa using h)), (fun h => by first | rfl | exact P2.out (by simpa using h)), (fun h => by first | rfl | exact P3.out (by simpa using h)), (fun h => by first | rfl | exact P4.out (by simpa using h)), (fun h => by first | rfl | exact P5.out (by simpa using h)), (fun h => by first | rfl | exact P6.out (by simpa using h)), (fun _ => rfl), (fun h => by first | rfl | exact P8.out (by simpa using h)), (fun h => P9.out (by simpa using h))⟩⟩
                  · simp only [List.getElem?_toArray, List.getElem?_cons_zero, List.getElem?_cons_succ, Option.some.injEq] at ho
                    subst ho
                    have q7 : Ls 7 = true := hafter ⟨7, .data⟩ (by simp) rfl
                    obtain rfl := p7 (hafter ⟨7, .data⟩ (by simp) rfl)
                    have c0 := (hS.1.cell (p := ⟨wr.heap.size, 0, none⟩) hl_P).trans k_P_0
                    have P0 := Lib.hid p0; have P1 := Lib.hid p1; have P2 := Lib.hid p2; have P3 := Lib.hid p3; have P4 := Lib.hid p4; have P5 := Lib.hid p5; have P6 := Lib.hid p6; have P7 := Lib.hid p7; have P8 := Lib.hid p8; have P9 := Lib.hid p9; clear hLi hafter p0 p1 p2 p3 p4 p5 p6 p7 p8 p9
                    have HS := Lib.hid hS
                    clear hS
                    simp only [Act.put, List.setIfInBounds_toArray, List.set_cons_zero, List.set_cons_succ]
                    go_wp2_with fail
                    exact ⟨u55, u56, u57, u58, u59, u60, u61, .pointer (some ⟨wr.heap.size, 0, none⟩), .int .i64 p1, u64, u65, by simp only [Act.put, List.setIfInBounds_toArray, List.set_cons_zero, List.set_cons_succ], .inl ⟨by simpa using h10, by simpa using h11, (by first | exact HCL.out.set 8 (by intro p hp e; simp only [cloP, List.mem_cons, List.not_mem_nil, or_false] at hp; rcases hp with rfl | rfl | rfl | rfl | rfl | rfl <;> first | (exact absurd e (by decide)) | assumption) | exact HCL.out.set' 8 (by intro p hp e; simp only [cloP, List.mem_cons, List.not_mem_nil, or_false] at hp; rcases hp with rfl | rfl | rfl | rfl | rfl | rfl <;> first | (exact absurd e (by decide)) | assumption)), HS.out, (fun h => by first | rfl | exact P0.out (by simpa using h)), (fun h => by first | rfl | exact P1.out (by simpa using h)), (fun h => by first | rfl | exact P2.out (by simpa using h)), (fun h => by first | rfl | exact P3.out (by simpa using h)), (fun h => by first | rfl | exact P4.out (by simpa using h)), (fun h => by first | rfl | exact P5.out (by simpa using h)), (fun h => by first | rfl | exact P6.out (by simpa using h)), (fun h => by first | rfl | exact P7.out (by simpa using h)), (fun _ => rfl), (fun h => P9.out (by simpa using h))⟩⟩
                  · simp only [List.getElem?_toArray, List.getElem?_cons_zero, List.getElem?_cons_succ, Option.some.injEq] at ho
                    subst ho
                    have q8 : Ls 8 = true := hafter ⟨8, .data⟩ (by simp) rfl
                    obtain rfl := p8 (hafter ⟨8, .data⟩ (by simp) rfl)
                    have P0 := Lib.hid p0; have P1 := Lib.hid p1; have P2 := Lib.hid p2; have P3 := Lib.hid p3; have P4 := Lib.hid p4; have P5 := Lib.hid p5; have P6 := Lib.hid p6; have P7 := Lib.hid p7; have P8 := Lib.hid p8; have P9 := Lib.hid p9; clear hLi hafter p0 p1 p2 p3 p4 p5 p6 p7 p8 p9
                    have HS := Lib.hid hS
                    clear hS
                    simp only [Act.put, List.setIfInBounds_toArray, List.set_cons_zero, List.set_cons_succ]
                    go_wp2_with fail
                    exact ⟨u55, u56, u57, u58, u59, u60, u61, u62, .int .i64 p1, _, u65, by simp only [Act.put, List.setIfInBounds_toArray, List.set_cons_zero, List.set_cons_succ], .inl ⟨by simpa using h10, by simpa using h11, (by first | exact HCL.out.set 9 (by intro p hp e; simp only [cloP, List.mem_cons, List.not_mem_nil, or_false] at hp; rcases hp with rfl | rfl | rfl | rfl | rfl | rfl <;> first | (exact absurd e (by decide)) | assumption) | exact HCL.out.set' 9 (by intro p hp e; simp only [cloP, List.mem_cons, List.not_mem_nil, or_false] at hp; rcases hp with rfl | rfl | rfl | rfl | rfl | rfl <;> first | (exact absurd e (by decide)) | assumption)), HS.out.alloc1 _, (fun h => by first | rfl | exact P0.out (by simpa using h)), (fun h => by first | rfl | exact P1.out (by simpa using h)), (fun h => by first | rfl | exact P2.out (by simpa using h)), (fun h => by first | rfl | exact P3.out (by simpa using h)), (fun h => by first | rfl | exact P4.out (by simpa using h)), (fun h => by first | rfl | exact P5.out (by simpa using h)), (fun h => by first | rfl | exact P6.out (by simpa using h)), (fun h => by first | rfl | exact P7.out (by simpa using h)), (fun h => by first | rfl | exact P8.out (by simpa using h)), (fun _ => NewS.mk _ _ _)⟩⟩
                  · simp only [List.getElem?_toArray, List.getElem?_cons_zero, List.getElem?_cons_succ, Option.some.injEq] at ho
                    subst ho
                    have q6 : Ls 6 = true := hafter ⟨6, .data⟩ (by simp) rfl
                    have q9 : Ls 9 = true := hafter ⟨9, .data⟩ (by simp) rfl
                    obtain rfl := (p6 q6).symm
                    obtain ⟨g9, c9, rfl, hc9, hs9⟩ := p9 q9
                    have HALL := Lib.hid (HCL.out.all q6 q9)
                    have P0 := Lib.hid p0; have P1 := Lib.hid p1; have P2 := Lib.hid p2; have HS := Lib.hid hS; clear hLi hafter hS p0 p1 p2 p3 p4 p5 p6 p7 p8 p9
                    have hsW := HS.out.2
                    simp only [Act.put, List.setIfInBounds_toArray, List.set_cons_zero, List.set_cons_succ]
                    go_wp2_with (at_builtin; refine wpList_append_own_at _ rfl (.tmp 61) (.tmp 64) 31 rfl (w6.heap.size) 3 i0 (.int .i64 0) 1 8 slUnder hi hz0 hz1 hz2 rfl (by decide) u0 z2.length (z2.map (Value.int .i64)) rfl (HOW.out.below HS.out.1) ⟨g9, 0, none⟩ 1 c9 [.int .i64 p1] rfl rfl (cell_oneN hc9) (by intro u hu; rcases List.mem_cons.1 hu with rfl | hu; (· rfl); (· cases hu)) (by have := HZL.out; unfold maxLen; omega) (by have := HZL.out; omega) (by omega) ?_; intro v9 w9 hm9 hg9 _ hat9; have HA9 := Lib.hid (AppS.mk' HS.out (Ow.push hm9) hg9 hat9); clear hm9 hg9 hat9)
                    exact ⟨u55, u56, u57, u58, u59, u60, u0, u62, u63, .slice (some ⟨g9, 0, none⟩) 1 c9, v9, by simp only [Act.put, List.setIfInBounds_toArray, List.set_cons_zero, List.set_cons_succ], .inr (.inl ⟨by simp, by simpa using h11, (by first | exact HCL.out.set 10 (by intro p hp e; simp only [cloP, List.mem_cons, List.not_mem_nil, or_false] at hp; rcases hp with rfl | rfl | rfl | rfl | rfl | rfl <;> first | (exact absurd e (by decide)) | assumption) | exact HCL.out.set' 10 (by intro p hp e; simp only [cloP, List.mem_cons, List.not_mem_nil, or_false] at hp; rcases hp with rfl | rfl | rfl | rfl | rfl | rfl <;> first | (exact absurd e (by decide)) | assumption)), (fun j h3 h9 => by have := HALL.out j h3 h9; simp [this]), HA9.out, (fun h => by first | rfl | exact P0.out (by simpa using h)), (fun h => by first | rfl | exact P1.out (by simpa using h)), (fun h => by first | rfl | exact P2.out (by simpa using h))⟩)⟩
                  · exfalso
                    simp only [List.getElem?_toArray, List.getElem?_cons_zero, List.getElem?_cons_succ, Option.some.injEq] at ho
                    subst ho
                    have q10 : Ls 10 = true := hafter ⟨10, .data⟩ (by simp) rfl
                    rw [h10] at q10; cases q10
                · obtain ⟨h10, h11, hcl, hall, hA, p0, p1, p2⟩ := hJ
                  have HCL := Lib.hid hcl
                  have HA := Lib.hid hA
                  clear hcl hA
                  have HALL := Lib.hid hall
                  clear hall
                  obtain rfl | rfl | rfl | rfl | rfl | rfl | rfl | rfl | rfl | rfl | rfl | rfl : i = 0 ∨ i = 1 ∨ i = 2 ∨ i = 3 ∨ i = 4 ∨ i = 5 ∨ i = 6 ∨ i = 7 ∨ i = 8 ∨ i = 9 ∨ i = 10 ∨ i = 11 := by omega
                  · simp only [List.getElem?_toArray, List.getElem?_cons_zero, Option.some.injEq] at ho
                    subst ho
                    have P0 := Lib.hid p0; have P1 := Lib.hid p1; have P2 := Lib.hid p2; clear hLi hafter p0 p1 p2
                    simp only [Act.put, List.setIfInBounds_toArray, List.set_cons_zero, List.set_cons_succ]
                    go_wp2_with fail
                    exact ⟨.map (some (w4.heap.size)), u56, u57, u58, u59, u60, u61, u62, u63, u64, u65, by simp only [Act.put, List.setIfInBounds_toArray, List.set_cons_zero, List.set_cons_succ], .inr (.inl ⟨by simpa using h10, by simpa using h11, (by first | exact HCL.out.set 0 (by intro p hp e; simp only [cloP, List.mem_cons, List.not_mem_nil, or_false] at hp; rcases hp with rfl | rfl | rfl | rfl | rfl | rfl <;> first | (exact absurd e (by decide)) | assumption) | exact HCL.out.set' 0 (by intro p hp e; simp only [cloP, List.mem_cons, List.not_mem_nil, or_false] at hp; rcases hp with rfl | rfl | rfl | rfl | rfl | rfl <;> first | (exact absurd e (by decide)) | assumption)), (fun j h3 h9 => by have := HALL.out j h3 h9; simp [this]), HA.out, (fun _ => rfl), (fun h => by first | rfl | exact P1.out (by simpa using h)), (fun h => by first | rfl | exact P2.out (by simpa using h))⟩)⟩
                  · simp only [List.getElem?_toArray, List.getElem?_cons_zero, List.getElem?_cons_succ, Option.some.injEq] at ho
                    subst ho
                    have P0 := Lib.hid p0; have P1 := Lib.hid p1; have P2 := Lib.hid p2; clear hLi hafter p0 p1 p2
                    simp only [Act.put, List.setIfInBounds_toArray, List.set_cons_zero, List.set_cons_succ]
                    go_wp2_with fail
                    exact ⟨u55, .pointer (some ⟨wr.heap.size, 1, none⟩), u57, u58, u59, u60, u61, u62, u63, u64, u65, by simp only [Act.put, List.setIfInBounds_toArray, List.set_cons_zero, List.set_cons_succ], .inr (.inl ⟨by simpa using h10, by simpa using h11, (by first | exact HCL.out.set 1 (by intro p hp e; simp only [cloP, List.mem_cons, List.not_mem_nil, or_false] at hp; rcases hp with rfl | rfl | rfl | rfl | rfl | rfl <;> first | (exact absurd e (by decide)) | assumption) | exact HCL.out.set' 1 (by intro p hp e; simp only [cloP, List.mem_cons, List.not_mem_nil, or_false] at hp; rcases hp with rfl | rfl | rfl | rfl | rfl | rfl <;> first | (exact absurd e (by decide)) | assumption)), (fun j h3 h9 => by have := HALL.out j h3 h9; simp [this]), HA.out, (fun h => by first | rfl | exact P0.out (by simpa using h)), (fun _ => rfl), (fun h => by first | rfl | exact P2.out (by simpa using h))⟩)⟩
                  · simp only [List.getElem?_toArray, List.getElem?_cons_zero, List.getElem?_cons_succ, Option.some.injEq] at ho
                    subst ho
                    have q1 : Ls 1 = true := hafter ⟨1, .data⟩ (by simp) rfl
                    obtain rfl := p1 (hafter ⟨1, .data⟩ (by simp) rfl)
                    have c0 := (HA.out.cell HNE.out hl_P 1).trans k_P_1
                    have P0 := Lib.hid p0; have P1 := Lib.hid p1; have P2 := Lib.hid p2; clear hLi hafter p0 p1 p2
                    simp only [Act.put, List.setIfInBounds_toArray, List.set_cons_zero, List.set_cons_succ]
                    go_wp2_with fail
                    exact ⟨u55, .pointer (some ⟨wr.heap.size, 1, none⟩), .int .i64 p2, u58, u59, u60, u61, u62, u63, u64, u65, by simp only [Act.put, List.setIfInBounds_toArray, List.set_cons_zero, List.set_cons_succ], .inr (.inl ⟨by simpa using h10, by simpa using h11, (by first | exact HCL.out.set 2 (by intro p hp e; simp only [cloP, List.mem_cons, List.not_mem_nil, or_false] at hp; rcases hp with rfl | rfl | rfl | rfl | rfl | rfl <;> first | (exact absurd e (by decide)) | assumption) | exact HCL.out.set' 2 (by intro p hp e; simp only [cloP, List.mem_cons, List.not_mem_nil, or_false] at hp; rcases hp with rfl | rfl | rfl | rfl | rfl | rfl <;> first | (exact absurd e (by decide)) | assumption)), (fun j h3 h9 => by have := HALL.out j h3 h9; simp [this]), HA.out, (fun h => by first | rfl | exact P0.out (by simpa using h)), (fun h => by first | rfl | exact P1.out (by simpa using h)), (fun _ => rfl)⟩)⟩
                  · exfalso; rw [HALL.out 3 (by decide) (by decide)] at hLi; cases hLi
                  · exfalso; rw [HALL.out 4 (by decide) (by decide)] at hLi; cases hLi
                  · exfalso; rw [HALL.out 5 (by decide) (by decide)] at hLi; cases hLi
                  · exfalso; rw [HALL.out 6 (by decide) (by decide)] at hLi; cases hLi
                  · exfalso; rw [HALL.out 7 (by decide) (by decide)] at hLi; cases hLi
                  · exfalso; rw [HALL.out 8 (by decide) (by decide)] at hLi; cases hLi
                  · exfalso; rw [HALL.out 9 (by decide) (by decide)] at hLi; cases hLi
                  · exfalso; rw [h10] at hLi; cases hLi
                  · simp only [List.getElem?_toArray, List.getElem?_cons_zero, List.getElem?_cons_succ, Option.some.injEq] at ho
                    subst ho
                    have q0 : Ls 0 = true := hafter ⟨0, .data⟩ (by simp) rfl
                    have q2 : Ls 2 = true := hafter ⟨2, .data⟩ (by simp) rfl
                    obtain rfl := p0 q0
                    obtain rfl := p2 q2
                    have HL11 := Lib.hid (show ∀ j, j < 11 → Ls j = true from CloG.low HCL.out HALL.out q0 q2 h10)
                    have P1 := Lib.hid p1; clear hLi hafter p0 p1 p2
                    simp only [Act.put, List.setIfInBounds_toArray, List.set_cons_zero, List.set_cons_succ]
                    go_wp2_with (at_mapUpdate; refine wp_back_g _ rfl _ _ _ rfl HBK.out rfl rfl rfl HA.out.gr HA.out.own (all_app HZ64.out HY64.out) (by have := HZL.out; rw [List.length_append]; simp; omega) (HA.out.loc.imp id .inr) ?_; intro w9 hm9 hg9; have HF9 := Lib.hid (HA.out.fin HNE.out hl_P hnb HOW.out hm9 hg9); clear hm9 hg9)
                    exact ⟨.map (some (w4.heap.size)), u56, .int .i64 p2, u58, u59, u60, u61, u62, u63, u64, u65, by simp only [Act.put, List.setIfInBounds_toArray, List.set_cons_zero, List.set_cons_succ], .inr (.inr ⟨by simp, (fun j hj => by have := HL11.out j hj; simp [this]), HF9.out⟩)⟩
                · obtain ⟨h11, hall, _⟩ := hJ
                  exfalso
                  rcases Nat.lt_or_ge i 11 with h | h
                  · rw [hall i h] at hLi; cases hLi
                  · obtain rfl : i = 11 := by omega
                    rw [h11] at hLi; cases hLi
              · intro Ls a0 wq hall hJ
                obtain ⟨u55, u56, u57, u58, u59, u60, u61, u62, u63, u64, u65, rfl, hJ | hJ | hJ⟩ := hJ
                · have h11 := hJ.2.1
                  rw [hall 11 (by decide)] at h11; cases h11
                · have h11 := hJ.2.1
                  rw [hall 11 (by decide)] at h11; cases h11
                · obtain ⟨_, _, hfin⟩ := hJ
                  have HFIN := Lib.hid hfin
                  clear hfin hall
                  have HMG9 := Lib.hid (HFIN.out.mg.congr (g := nbl (E.take (q + 1))) (fun z _ => by rw [← HF8.out]; exact nbl_up hqE HPQ.out HZ1.out HZ2.out z))
                  have HG9 := Lib.hid (HFIN.out.fr w6 (Nat.le_refl _) HG8.out)
                  clear HFIN HRUN HOW HZ64 HZL HBK HNE
                  simp only [Act.put, List.setIfInBounds_toArray, List.set_cons_zero, List.set_cons_succ]
                  go_wp2_with fail
                  go_roundw
                  case rel => exact ⟨q + 1, by omega, by go_num, HMG9.out, HG9.out⟩
                  case measure => simp [intOf]; omega
        · obtain rfl : q = ne := by omega
          obtain ⟨w7, hw7⟩ : ∃ w7, w7 = wr := ⟨_, rfl⟩
          subst hw7
          obtain ⟨val, hmv, hval, hvl, _⟩ := HMG1.out.vals mtG (by unfold maxLen; omega)
          have eE : nbl (E.take q) = nbl E := by rw [List.take_of_length_le (by rw [HNE0.out]; exact Nat.le_refl _)]
          rw [eE] at hval hvl
          have HMV := Lib.hid hmv
          have HVAL := Lib.hid hval
          have HVL := Lib.hid hvl
          have HM7 := Lib.hid (HM6.out.grown HGR.out (by simp; omega))
          have HO7 := Lib.hid (HO6.out.grown HGR.out (own_ne fun g hg => by have := (HO3lt g hg); omega))
          have HB7 := Lib.hid (HB6.out.grown HGR.out (by have := HB6.out.size; omega) (fun j hj => by cases hj; omega))
          have hs7 := HB7.out.size
          have HOne := Lib.hid (show ∀ g, Value.ownBlock (.slice a3 k c3) = some g → g ≠ w3.heap.size from fun g hg => by have := HO3lt g hg; omega)
          clear hmv hval hvl eE HM6 HO6 HB6 HMG1 HOP
          go_wp2_with fail
          go_loopw [12, 69] (fun gv i wr => ∃ (j : Nat) (G : List (List Int)) (lf : Int → Bool), j ≤ k ∧ i = .int .i64 j ∧ Hid (Out D E G j lf) ∧ Mb Try.prog 3 4 wr w3.heap.size k lf ∧ GrO w7.heap.size wr gv G ∧ w7.grownBy wr (some w3.heap.size)) (fun _ i _ => k - (intOf i).toNat)
          case atStart => exact ⟨0, [], _, Nat.zero_le _, rfl, Lib.hid (Out.start fun _ => rfl), HM7.out, GrO.nil _ _, gr_refl _ _⟩
          case round =>
            obtain ⟨j, G, lf, hj, rfl, HOUT, hml, hgo, hgr⟩ := hrel
            obtain ⟨wj, hwj⟩ : ∃ W, W = wr := ⟨_, rfl⟩
            subst hwj
            have HML := Lib.hid hml
            have HGO := Lib.hid hgo
            have HGQ := Lib.hid hgr
            have hsq := hgr.size
            clear hml hgo hgr
            by_cases hjn : j < k
            · have hjD : j < D.length := by have := HND.out; omega
              obtain ⟨a9, c9, he9, hz9⟩ := (HO7.out.grown HGQ.out (own_ne HOne.out)).zl
              rw [HND.out] at he9 hz9
              simp only [Value.slice.injEq, true_and] at he9
              obtain ⟨rfl, rfl⟩ := he9
              obtain ⟨b, off, rfl, hc⟩ := hz9.2.2.2 (by omega)
              have g0 := hc j hjn
              obtain ⟨x0, hx⟩ : ∃ x, D.getD j 0 = x := ⟨_, rfl⟩
              rw [hx] at g0
              have HX := Lib.hid hx
              have HX64 := Lib.hid (show W64 x0 by rw [← hx, getD_lt1 hjD]; exact HD64.out _ (List.getElem_mem hjD))
              clear hc hx hz9
              have hix0 : (0 : Int) ≤ (j : Int) := by omega
              have hix1 : (j : Int) < (k : Int) := by omega
              obtain ⟨cl, hcl⟩ : ∃ c, lf x0 = c := ⟨_, rfl⟩
              have HCL := Lib.hid hcl
              clear hcl
              cases cl
              · go_wp2_with (at_lookup; refine wp_look_b _ rfl _ _ rfl mtB w3.heap.size _ _ rfl HML.out x0 false rfl HX64.out HCL.out ?_)
                go_roundw
                case rel => exact ⟨j + 1, G, lf, by omega, by go_num, Lib.hid (HOUT.out.skip (by rw [HX.out]; exact HCL.out)), HML.out, HGO.out, HGQ.out⟩
                case measure => simp [intOf]; omega
              · go_wp2_with (first | (at_lookup; refine wp_look_b _ rfl _ _ rfl mtB w3.heap.size _ _ rfl HML.out x0 true rfl HX64.out HCL.out ?_) | (at_delete; refine wp_del_b _ rfl _ _ rfl mtB w3.heap.size _ _ rfl HML.out x0 rfl HX64.out ?_; intro w8 hm8 hg8; have HM8 := Lib.hid hm8; have HG8 := Lib.hid hg8; clear hm8 hg8))
                have hs8 := HG8.out.size
                have HS0 := Lib.hid (Srch.start (E := E) HCL.out)
                go_loopw [15, 16] (fun gp i wy => ∃ (i' : Nat) (grp : List Int) (lf2 : Int → Bool), i' ≤ grp.length ∧ i = .int .i64 i' ∧ Hid (Srch E lf x0 grp lf2) ∧ Hid (Cls E lf2 grp i') ∧ Mb Try.prog 3 4 wy w3.heap.size k lf2 ∧ Ow wj.heap.size 3 wy gp grp ∧ wj.grownBy wy (some w3.heap.size)) (fun _ i _ => k - (intOf i).toNat)
                case atStart => exact ⟨0, [x0], _, Nat.zero_le _, rfl, HS0, Lib.hid (Cls.none _ _ _), HM8.out.below (bel1 _ _), ow_one _ _ hs8, gr_below HG8.out (bel1 _ _)⟩
                case round =>
                  obtain ⟨i', grp, lf2, hil, rfl, HSR, HCS, hml, how, hgr⟩ := hrel
                  obtain ⟨wy, hwy⟩ : ∃ W, W = wr := ⟨_, rfl⟩
                  subst hwy
                  have HML2 := Lib.hid hml
                  have HOG := Lib.hid how
                  have HGY := Lib.hid hgr
                  have hsy := hgr.size
                  have hgk : grp.length ≤ k := by rw [← HND.out]; exact HSR.out.len HDS.out.1 HOUT.out
                  have hgp := HSR.out.get
                  obtain ⟨gg, gc, rfl, hgg, hgl, hgc, hgm, hcl⟩ := how.open.resolve_left (fun h => by rw [h.2] at hgp; exact absurd hgp (Nat.lt_irrefl _))
                  have HCELL := Lib.hid hcl
                  unfold maxLen at hgm
                  obtain ⟨ng, hng⟩ : ∃ ng, grp.length = ng := ⟨_, rfl⟩
                  have HNG := Lib.hid hng
                  rw [hng] at hil hgk hgp hgc HOG ⊢
                  clear hml how hgr hcl hng
                  by_cases hin : i' < ng
                  · obtain ⟨g5, f5⟩ := HCELL.out i' (by rw [HNG.out]; exact hin)
                    obtain ⟨y0, hy0⟩ : ∃ y, grp.getD i' 0 = y := ⟨_, rfl⟩
                    rw [hy0] at g5
                    have HY0 := Lib.hid hy0
                    have HYM := Lib.hid (show y0 ∈ grp by rw [← hy0, getD_lt1 (show i' < grp.length by rw [HNG.out]; exact hin)]; exact List.getElem_mem _)
                    have HY64 := Lib.hid (show W64 y0 from HD64.out _ ((HOUT.out.left _).1 (HSR.out.mem _ HYM.out).1).1)
                    obtain ⟨zs, hzs⟩ : ∃ zs, nbl E y0 = zs := ⟨_, rfl⟩
                    have hv := HVAL.out y0 HY64.out
                    have hvl := HVL.out y0 HY64.out
                    rw [hzs] at hv hvl
                    have HZS := Lib.hid hzs
                    have HW64 := Lib.hid hv.2
                    obtain ⟨ay, cy, hvy, _⟩ := hv.1.zl
                    rw [hvy] at hv
                    have HVO := Lib.hid hv.1
                    have HVY := Lib.hid hvy
                    have hcy := hv.1.zl
                    obtain ⟨ay', cy', e9, hz9⟩ := hcy
                    simp only [Value.slice.injEq, true_and] at e9
                    obtain ⟨rfl, rfl⟩ := e9
                    have hcy := hz9.2.1
                    have hmy := hz9.2.2.1
                    unfold maxLen at hmy
                    obtain ⟨ny, hny⟩ : ∃ ny, zs.length = ny := ⟨_, rfl⟩
                    have HNY := Lib.hid hny
                    rw [hny] at HVO HVY hcy hvl
                    have HMVY := Lib.hid ((HMV.out.grown HGQ.out (by simp; omega)).grown HGY.out (by simp; omega))
                    clear hy0 hzs hv hvy hz9 hny
                    have hix2 : (0 : Int) ≤ (i' : Int) := by omega
                    have hix3 : (i' : Int) < (ng : Int) := by omega
                    go_wp2_with (at_lookup; refine wp_look_v _ rfl _ _ rfl mtG w4.heap.size _ _ rfl HMVY.out y0 rfl HY64.out _ HVY.out ?_)
                    go_loopw [15, 94] (fun gp i wz => ∃ (kk : Nat) (grp2 : List Int) (lf3 : Int → Bool), kk ≤ ny ∧ i = .int .i64 kk ∧ Hid (Srch E lf x0 grp2 lf3) ∧ Hid (Cls E lf3 grp2 i') ∧ Hid (i' < grp2.length ∧ grp2.getD i' 0 = y0) ∧ Hid (∀ y ∈ zs.take kk, lf3 y = false) ∧ Mb Try.prog 3 4 wz w3.heap.size k lf3 ∧ Ow wj.heap.size 3 wz gp grp2 ∧ wj.grownBy wz (some w3.heap.size)) (fun _ i _ => ny - (intOf i).toNat)
                    case atStart => exact ⟨0, grp, lf2, Nat.zero_le _, rfl, HSR, HCS, Lib.hid ⟨by rw [HNG.out]; exact hin, HY0.out⟩, Lib.hid (by simp), HML2.out, HOG.out, HGY.out⟩
                    case round =>
                      obtain ⟨kk, grp2, lf3, hkk, rfl, HSR3, HCS3, HI3, HDN, hml, how, hgr⟩ := hrel
                      have HML3 := Lib.hid hml
                      have HOG3 := Lib.hid how
                      have HGZ := Lib.hid hgr
                      have hsz := hgr.size
                      have hgk3 : grp2.length ≤ k := by rw [← HND.out]; exact HSR3.out.len HDS.out.1 HOUT.out
                      clear hml how hgr
                      by_cases hkn : kk < ny
                      · have hkz : kk < zs.length := by rw [HNY.out]; exact hkn
                        obtain ⟨a9, c9, he9, hz9⟩ := ((HVO.out.grown HGQ.out (own_ne fun g hg => by have := (HVO.out.lt g hg).1; omega)).grown HGZ.out (own_ne fun g hg => by have := (HVO.out.lt g hg).1; omega)).zl
                        rw [HNY.out] at he9 hz9
                        simp only [Value.slice.injEq, true_and] at he9
                        obtain ⟨rfl, rfl⟩ := he9
                        obtain ⟨b7, o7, rfl, hc⟩ := hz9.2.2.2 (by omega)
                        have g7 := hc kk hkn
                        rw [getD_lt1 hkz] at g7
                        obtain ⟨y, hy⟩ : ∃ y, zs[kk] = y := ⟨_, rfl⟩
                        rw [hy] at g7
                        have HY := Lib.hid hy
                        have HYM3 := Lib.hid (show y ∈ nbl E y0 by rw [HZS.out, ← hy]; exact List.getElem_mem hkz)
                        have HW := Lib.hid (show W64 y from HW64.out y (by rw [← hy]; exact List.getElem_mem hkz))
                        clear hc hy hz9
                        have hix4 : (0 : Int) ≤ (kk : Int) := by omega
                        have hix5 : (kk : Int) < (ny : Int) := by omega
                        obtain ⟨cl, hcl⟩ : ∃ c, lf3 y = c := ⟨_, rfl⟩
                        have HC3 := Lib.hid hcl
                        clear hcl
                        cases cl
                        · go_wp2_with (at_lookup; refine wp_look_b _ rfl _ _ rfl mtB w3.heap.size _ _ rfl HML3.out y false rfl HW.out HC3.out ?_)
                          go_roundw
                          case rel => exact ⟨kk + 1, grp2, lf3, by omega, by go_num, HSR3, HCS3, HI3, Lib.hid (fun z hz => by rw [take_snoc hkz, HY.out] at hz; rcases List.mem_append.1 hz with hz | hz; (· exact HDN.out z hz); (· rw [List.mem_singleton] at hz; subst hz; exact HC3.out)), HML3.out, HOG3.out, HGZ.out⟩
                          case measure => simp [intOf]; omega
                        · go_wp2_with (first | (at_lookup; refine wp_look_b _ rfl _ _ rfl mtB w3.heap.size _ _ rfl HML3.out y true rfl HW.out HC3.out ?_) | (have hs10 : True := trivial; (at_delete; refine wp_del_b _ rfl _ _ rfl mtB w3.heap.size _ _ rfl HML3.out y rfl HW.out ?_; intro w10 hm10 hg10; have HM10 := Lib.hid hm10; have HG10 := Lib.hid hg10; clear hm10 hg10); have hs10' := HG10.out.size) | (at_builtin; refine wpList_append_own_at _ rfl (.tmp 103) (.tmp 105) 31 rfl wj.heap.size 3 i0 (.int .i64 0) 1 8 slUnder hi hz0 hz1 hz2 rfl (by decide) _ grp2.length (grp2.map (Value.int .i64)) rfl (World.ownsRow.alloc (HOG3.out.grown HG10.out (own_ne fun g hg => by have := (HOG3.out.lt g hg).1; omega)) _) ⟨w10.heap.size, 0, none⟩ 1 1 [.int .i64 y] rfl rfl (cell_one_new _ _ _) (by intro u hu; rcases List.mem_cons.1 hu with rfl | hu; (· rfl); (· cases hu)) (by unfold maxLen; omega) (by omega) (by first | omega | (simp; omega)) ?_; intro v11 w11 hm11 hg11 _ hat11; have HO11 := Lib.hid (Ow.push hm11); have HG11 := Lib.hid ((gr_below (HGZ.out.andThen HG10.out (fun j hj => .inr (by cases hj; rfl))) (bel1 _ _)).andThen hg11 (fun j hj => .inl (HOG3.out.lt j hj).1)); have HM11 := Lib.hid ((HM10.out.below (bel1 _ _)).grown hg11 (nb_ne fun g hg => by have := (HOG3.out.lt g hg).1; omega)); clear hm11 hg11 hat11))
                          go_roundw
                          case rel => exact ⟨kk + 1, grp2 ++ [y], _, by omega, by go_num, Lib.hid (HSR3.out.add (by have h := HI3.out; rw [getD_lt1 h.1] at h; rw [← h.2]; exact List.getElem_mem h.1) HYM3.out HC3.out), Lib.hid (HCS3.out.add (Nat.le_of_lt HI3.out.1) y), Lib.hid ⟨by have := HI3.out.1; simp; omega, by have h := HI3.out; rw [← h.2]; simp [List.getD, List.getElem?_append_left h.1]⟩, Lib.hid (fun z hz => by unfold upB; split; (· rfl); (· rename_i hzy; rw [take_snoc hkz, HY.out] at hz; rcases List.mem_append.1 hz with hz | hz; (· exact HDN.out z hz); (· rw [List.mem_singleton] at hz; exact absurd hz hzy))), HM11.out, HO11.out, HG11.out⟩
                          case measure => simp [intOf]; omega
                      · obtain rfl : kk = ny := by omega
                        go_wp2_with fail
                        go_roundw
                        case rel => exact ⟨i' + 1, grp2, lf3, HI3.out.1, by go_num, HSR3, Lib.hid (HCS3.out.next HI3.out.2 HZS.out (fun y hy => HDN.out y (by rw [List.take_of_length_le (by rw [HNY.out]; exact Nat.le_refl _)]; exact hy))), HML3.out, HOG3.out, HGZ.out⟩
                        case measure => simp [intOf]; omega
                  · obtain rfl : i' = ng := by omega
                    go_wp2_with fail
                    refine (sort_own _ grp _ (HOG.out) (by have := HNG.out; omega)).mono ?_
                    rintro e w12 ⟨rfl, ho, hg⟩
                    have HG12 := Lib.hid (HGY.out.andThen hg (fun j hj => .inl (by have e9 : gg = j := (by simpa [Value.ownBlock] using hj); rw [← e9]; exact hgg)))
                    have HO12 := Lib.hid (show Ow wj.heap.size 3 w12 (.slice (some ⟨gg, 0, none⟩) i' gc) (srtL grp) from ho)
                    have HM12 := Lib.hid (HML2.out.grown hg (nb_ne fun g hg' => by have e9 : gg = g := (by simpa [Value.ownBlock] using hg'); omega))
                    have hs12 := HG12.out.size
                    clear ho hg
                    obtain ⟨xs, hxo, hxs⟩ := HGO.out.grown HG12.out (fun r hr => by cases hr; omega)
                    have HXO := Lib.hid hxo
                    have HXS := Lib.hid hxs
                    have hgg2 : ∀ b, Value.ownBlock _ = some b → b < wj.heap.size := fun b hb => (HGO.out.lt b hb).2
                    clear hxo hxs
                    go_wp2_with (at_builtin; refine wpList_append_own_at _ rfl (.tmp 110) (.tmp 112) 37 rfl w7.heap.size 31 i1 (.slice none 0 0) 1 24 slsUnder hi1 hy0 hy1 hy2 rfl (by decide) _ G.length xs rfl (World.ownsRow.alloc HXO.out _) ⟨w12.heap.size, 0, none⟩ 1 1 [.slice (some ⟨gg, 0, none⟩) i' gc] rfl rfl (cell_one_new _ _ _) (by intro u hu; rcases List.mem_cons.1 hu with rfl | hu; (· rfl); (· cases hu)) (by have := HOUT.out.cnt; unfold maxLen; omega) (by have := HOUT.out.cnt; omega) (by first | omega | (simp; omega)) ?_; intro v13 w13 hm13 hg13 _ hat13; have HO13 := Lib.hid (grp_push HXS.out HXO.out HO12.out hgg2 hgg hsq hm13 hg13 hat13); have HG13 := Lib.hid ((gr_below (HGQ.out.trans HG12.out) (bel1 _ _)).andThen hg13 (fun j hj => .inl (HGO.out.lt j hj).1)); have HM13 := Lib.hid ((HM12.out.below (bel1 _ _)).grown hg13 (nb_ne fun g hg => by have := (HGO.out.lt g hg).1; omega)); clear hm13 hg13 hat13)
                    go_roundw
                    case rel => exact ⟨j + 1, G ++ [srtL grp], lf2, by omega, by go_num, Lib.hid (HOUT.out.add HDS.out.1 HED.out hjD HX.out HSR.out (by rw [HNG.out]; exact HCS.out)), HM13.out, HO13.out, HG13.out⟩
                    case measure => simp [intOf]; omega
            · obtain rfl : j = k := by omega
              have HFIN := Lib.hid (show IsGroups D (Rch E) G from Out.end (by rw [HND.out]; exact HOUT.out))
              have HBF := Lib.hid (HB7.out.grown HGQ.out (by omega) (fun j hj => by cases hj; omega))
              go_wp2_with fail
              go_ret
              exact ⟨_, G, rfl, by rw [HD.out, HE.out]; exact HFIN.out, ⟨w7.heap.size, by omega, HGO.out⟩, HBF.out⟩

end Go.Proofs.Ytonnbcongnkcdaa
