/- Contract of the reference's Distinct. Condition: a list of at most 2^43 - 2 elements. -/
import Derived.Test.YtonnbcongnkcdaaLawNm
namespace Go.Proofs.Ytonnbcongnkcdaa
open Go.RowKit

theorem Ow.start {B : Nat} (E : TypeId) (w : World) (hB : B ≤ w.heap.size) : Ow B E (w.alloc (.cells #[] E)) (.slice (some ⟨w.heap.size, 0, none⟩) 0 0) [] := World.ownsRow_made w #[] 0 hB (by decide) rfl
theorem Ow.set {B : Nat} {E : TypeId} {w : World} {g n cap : Nat} {M : List Int} (h : Ow B E w (.slice (some ⟨g, 0, none⟩) n cap) M) (k : Nat) (x : Int) : Ow B E (w.setCell ⟨g, k, none⟩ (.int .i64 x)) (.slice (some ⟨g, 0, none⟩) n cap) (M.set k x) := by
  unfold Ow at *
  have hn : n = M.length := by
    rcases h.2 with ⟨hv, _⟩ | ⟨g', cap', cur, hv, _⟩
    · cases hv
    · simp only [Value.slice.injEq] at hv; exact hv.2.1
  subst hn
  rw [List.length_set, List.map_set]
  exact own_setCell h k _
theorem ow_cell {B : Nat} {E : TypeId} {w : World} {g n cap : Nat} {M : List Int} (h : Ow B E w (.slice (some ⟨g, 0, none⟩) n cap) M) {j : Nat} (hj : j < M.length) {x : Int} (hx : M.getD j 0 = x) : w.cell? ⟨g, j, none⟩ = some (.int .i64 x) ∧ ∀ o, w.frozen? ⟨g, o, none⟩ = false := by
  have hn : n = M.length := by
    rcases h.2 with ⟨hv, _⟩ | ⟨g', cap', cur, hv, _⟩
    · cases hv
    · simp only [Value.slice.injEq] at hv; exact hv.2.1
  subst hn
  have hfz := own_frozen (show w.ownsRow B E 1 (.slice (some ⟨g, 0, none⟩) M.length cap) M.length (M.map (Value.int .i64)) from h)
  rcases h.open with ⟨hv, _⟩ | ⟨g', cap', hv, _, _, _, _, hc⟩
  · cases hv
  · simp only [Value.slice.injEq, Option.some.injEq, Addr.mk.injEq] at hv
    obtain ⟨⟨rfl, _⟩, _⟩ := hv
    rw [← hx]; exact ⟨(hc j hj).1, hfz⟩
/-- the list O with a place at k -/
def Gap (O : List Int) (k : Nat) (M : List Int) : Prop := ∃ y, M = O.take k ++ y :: O.drop k
theorem Gap.start (O : List Int) (y : Int) : Gap O O.length (O ++ [y]) := ⟨y, by simp⟩
theorem Gap.len {O M : List Int} {k : Nat} (h : Gap O k M) (hk : k ≤ O.length) : M.length = O.length + 1 := by
  obtain ⟨y, rfl⟩ := h
  simp; omega
theorem Gap.get {O M : List Int} {k : Nat} (h : Gap O (k + 1) M) (hk : k + 1 ≤ O.length) : M.getD k 0 = O.getD k 0 := by
  obtain ⟨y, rfl⟩ := h
  have h1 : k < (O.take (k + 1)).length := by rw [List.length_take]; omega
  simp only [List.getD, List.getElem?_append_left h1, List.getElem?_take]
  simp
theorem Gap.step {O M : List Int} {k : Nat} (h : Gap O (k + 1) M) (hk : k + 1 ≤ O.length) : Gap O k (M.set (k + 1) (O.getD k 0)) := by
  obtain ⟨y, rfl⟩ := h
  refine ⟨O.getD k 0, ?_⟩
  have h1 : (O.take (k + 1)).length = k + 1 := by rw [List.length_take]; omega
  rw [List.set_append_right _ _ (by omega), h1, Nat.sub_self, List.set_cons_zero, List.take_succ_eq_append_getElem (show k < O.length by omega), List.append_assoc, List.drop_eq_getElem_cons (show k < O.length by omega), getD_lt1 (show k < O.length by omega)]
  rfl
theorem Gap.end {O M : List Int} {k : Nat} {x : Int} (h : Gap O k M) (hk : k ≤ O.length) (h1 : ∀ j, j < k → O.getD j 0 < x) (h2 : k < O.length → x ≤ O.getD k 0) : M.set k x = insZ O x := by
  obtain ⟨y, rfl⟩ := h
  have h3 : (O.take k).length = k := by rw [List.length_take]; omega
  rw [insZ_at hk (fun j hj hjk => by have := h1 j hjk; rw [getD_lt1 hj] at this; exact this) (fun hl => by have := h2 hl; rw [getD_lt1 hl] at this; omega), List.set_append_right _ _ (by omega), h3, Nat.sub_self, List.set_cons_zero]
theorem insZ_len (O : List Int) (x : Int) : (insZ O x).length = O.length + 1 := by
  induction O with
  | nil => rfl
  | cons a l ih => unfold insZ; split <;> simp [ih]
theorem ow_open1 {B : Nat} {E : TypeId} {w : World} {v : Value} {l : List Int} {n : Nat} (h : Ow B E w v l) (hn : l.length = n) (hp : 0 < n := by omega) : ∃ g cap, v = .slice (some ⟨g, 0, none⟩) n cap ∧ B ≤ g ∧ g < w.heap.size ∧ n ≤ cap ∧ cap ≤ maxLen := by
  rcases h.open with ⟨_, rfl⟩ | ⟨g, cap, rfl, h1, h2, h3, h4, _⟩
  · simp at hn; omega
  · rw [hn] at h3 ⊢; exact ⟨g, cap, rfl, h1, h2, h3, h4⟩
set_option maxRecDepth 20000 in
set_option maxHeartbeats 16000000 in
theorem xdistinct_any (a : Option Addr) (n cap : Nat) (zs : List Int) (w : World) (h : Zl w a n cap zs) (hn : n ≤ 8796093022206) :
    Calls Try.prog 28 #[.slice a n cap] w fun e w' => ∃ v, e = .returned v ∧ Ow w.heap.size 3 w' v (distR zs) ∧ Below w.heap.size w w' := by
  have HZ := Lib.hid h
  have b1 := h.2.1
  have b2 := h.2.2.1
  have b0 := h.1
  unfold maxLen at b2
  have HLN := Lib.hid b0
  clear h b0
  have mixed : Try.prog.follows Departure.mixedOrders = true := by kernel_rfl
  obtain ⟨i0, hi, hzz⟩ := Option.map_eq_some_iff.1 infoIntG
  simp only [Prod.mk.injEq] at hzz
  obtain ⟨hz0, hz1, hz2⟩ := hzz
  go_enter Try.func28, Try.ntmps28
  go_wp2_with fail
  go_loopw [3, 4] (fun out i wr => ∃ (q : Nat) (O : List Int), q ≤ n ∧ i = .int .i64 q ∧ distR (zs.take q) = O ∧ O.length ≤ q ∧ Ow w.heap.size 3 wr out O ∧ Below w.heap.size w wr) (fun _ i _ => n - (intOf i).toNat)
  case atStart => exact ⟨0, [], Nat.zero_le _, rfl, rfl, Nat.le_refl _, Ow.start _ w (Nat.le_refl _), bel1 _ _⟩
  case round =>
    obtain ⟨q, O, hq, rfl, hO, hol, how, hbel⟩ := hrel
    obtain ⟨wj, hwj⟩ : ∃ W, W = wr := ⟨_, rfl⟩
    subst hwj
    have HOQ := Lib.hid hO
    have HO := Lib.hid how
    have HB := Lib.hid hbel
    have hsj := hbel.size
    obtain ⟨a3, c3, rfl, hz3⟩ := how.zl
    have hc3 := hz3.2.1
    have hm3 := hz3.2.2.1
    unfold maxLen at hm3
    obtain ⟨m, hm⟩ : ∃ m, O.length = m := ⟨_, rfl⟩
    have HM := Lib.hid hm
    rw [hm] at hz3 hc3 hol HO ⊢
    have HZ3 := Lib.hid hz3
    clear hO how hz3 hm hbel
    by_cases hqn : q < n
    · obtain ⟨b, off, rfl, hc⟩ := HZ.out.2.2.2 (by omega)
      have hqL : q < zs.length := by have := HLN.out; omega
      have g0w := hc q hqn
      rw [getD_lt1 hqL] at g0w
      have hbw := World.block_lt_of_cell? w _ g0w
      simp only at hbw
      obtain ⟨x, hx⟩ : ∃ x, zs[q] = x := ⟨_, rfl⟩
      rw [hx] at g0w
      have HSN := Lib.hid (show distR (zs.take (q + 1)) = if O.any (fun y => y == x) = true then O else insZ O x by rw [take_snoc hqL, distR_snoc, HOQ.out, hx])
      have G0W := Lib.hid g0w
      have g0 := (HB.out.cell (p := ⟨b, off + q, none⟩) hbw).trans g0w
      clear hc hx g0w
      have hix0 : (0 : Int) ≤ (q : Int) := by omega
      have hix1 : (q : Int) < (n : Int) := by omega
      obtain ⟨cc, hcc⟩ : ∃ c, O.any (fun y => y == x) = c := ⟨_, rfl⟩
      have HCC := Lib.hid hcc
      rw [hcc] at HSN
      clear hcc
      go_wp2_with fail
      refine (has_any _ _ _ O x _ HZ3.out cc HCC.out).mono ?_
      rintro e w1 ⟨rfl, hw1⟩
      obtain rfl := hw1.symm
      cases cc
      · go_wp2_with fail
        go_loopw [5] (fun at' wr => ∃ t : Nat, t ≤ m ∧ at' = .int .i64 t ∧ Hid (∀ j, j < t → O.getD j 0 < x) ∧ Below wj.heap.size wj wr) (fun at' _ => m - (intOf at').toNat)
        case atStart => exact ⟨0, Nat.zero_le _, rfl, Lib.hid (fun j hj => absurd hj (Nat.not_lt_zero _)), Below.refl _ _⟩
        case round =>
          obtain ⟨t, ht, rfl, HLO, hbe⟩ := hrel
          obtain ⟨wy, hwy⟩ : ∃ W, W = wr := ⟨_, rfl⟩
          subst hwy
          have HBY := Lib.hid hbe
          have hsy := hbe.size
          replace g0 := cell_mono g0 hbe
          have HO1 := Lib.hid (HO.out.below hbe)
          have HB1 := Lib.hid (HB.out.trans (hbe.mono hsj))
          have htx0 : (0 : Int) ≤ (t : Int) := by omega
          by_cases htm : t < m
          · obtain ⟨b7, o7, ea7, hc7⟩ := (HZ3.out.below hbe).2.2.2 (by omega)
            subst ea7
            have g7 := hc7 t htm
            obtain ⟨y, hy⟩ : ∃ y, O.getD t 0 = y := ⟨_, rfl⟩
            rw [hy] at g7
            have HY := Lib.hid hy
            clear hc7 hy hbe
            have htx1 : (t : Int) < (m : Int) := by omega
            have htd : decide ((t : Int) < (m : Int)) = true := by simp; omega
            have htd2 : decide (t < m) = true := by simp [htm]
            by_cases hyx : y < x
            · have hyd : decide (y < x) = true := by simp [hyx]
              go_wp2_with fail
              go_big_region_o
              go_wp2_with fail
              go_roundw
              case rel => exact ⟨t + 1, by omega, by go_num, Lib.hid (fun j hj => by by_cases e : j = t; (· subst e; rw [HY.out]; exact hyx); (· exact HLO.out j (by omega))), by first | exact below_drewN HBY.out _ | exact HBY.out.drew | exact HBY.out⟩
              case measure => simp [intOf]; omega
            · have hyd : decide (y < x) = false := by simp [hyx]
              have HNT := Lib.hid (show t < O.length → x ≤ O.getD t 0 from fun _ => by rw [HY.out]; omega)
              go_wp2_with fail
              go_big_region_o
              go_upto_region 9 with fail
              refine block_nameP fun W1 hW => ?_
              have HBw := Lib.hid (show Below wy.heap.size wy W1 by rw [← hW]; first | exact Below.refl _ _ | exact below_drewN (Below.refl _ _) _ | exact (Below.refl _ _).drew)
              clear hW g0
              have HO2 := Lib.hid (HO1.out.below HBw.out)
              have HB2 := Lib.hid (HB1.out.trans (HBw.out.mono (by omega)))
              have hs2 := HB2.out.size
              clear HBw HBY HO1 HB1 HO HB HZ3 HZ
              have wm : IntKind.i64.wrap (((m + 1 : Nat) : Int) - 1) = (m : Int) := by rw [IntKind.wrap_i64]; omega
              go_wp2_with (at_builtin; refine wpList_append_own_at _ rfl (.tmp 37) (.tmp 38) 31 rfl w.heap.size 3 i0 (.int .i64 0) 1 8 slUnder hi hz0 hz1 hz2 rfl (by decide) _ O.length (O.map (Value.int .i64)) rfl (World.ownsRow.alloc HO2.out _) ⟨W1.heap.size, 0, none⟩ 1 1 [.int .i64 0] rfl rfl (cell_one_new _ _ _) (by intro u hu; rcases List.mem_cons.1 hu with rfl | hu; (· rfl); (· cases hu)) (by have := HM.out; unfold maxLen; omega) (by have := HM.out; omega) (by first | omega | (simp; omega)) ?_; intro v9 w9 hm9 hg9 _ _; obtain ⟨g9, c9, rfl, hgB, hgl, hgc, hgm⟩ := ow_open1 (Ow.push hm9) (n := m + 1) (by rw [List.length_append, HM.out]; rfl); have HO9 := Lib.hid (Ow.push hm9); have HB9 := Lib.hid ((HB2.out.alloc hs2 _).grown hg9 (by first | omega | (simp; omega)) (fun j hj => (HO2.out.lt j hj).1)); clear hm9 hg9)
              go_loopw [6] (fun kv wr => ∃ (kk : Nat) (M : List Int), t ≤ kk ∧ kk ≤ m ∧ kv = .int .i64 kk ∧ Hid (Gap O kk M) ∧ Ow w.heap.size 3 wr (.slice (some ⟨g9, 0, none⟩) (m + 1) c9) M ∧ Below w.heap.size w wr) (fun kv _ => (intOf kv).toNat)
              case atStart => exact ⟨m, O ++ [0], ht, Nat.le_refl _, by go_num, Lib.hid (by rw [← HM.out]; exact Gap.start O 0), HO9.out, HB9.out⟩
              case round =>
                obtain ⟨kk, M, htk, hkm, rfl, HGP, how, hbel⟩ := hrel
                have HO3 := Lib.hid how
                have HB3 := Lib.hid hbel
                have hs3 := hbel.size
                have HML := Lib.hid (HGP.out.len (by rw [HM.out]; exact hkm))
                clear how hbel
                have hkk0 : (0 : Int) ≤ (kk : Int) := by omega
                have hkk1 : (kk : Int) < ((m + 1 : Nat) : Int) := by omega
                have hkk2 : (kk : Int) < (m : Int) + 1 := by omega
                by_cases hgt : t < kk
                · obtain ⟨p, rfl⟩ : ∃ p, kk = p + 1 := ⟨kk - 1, by omega⟩
                  obtain ⟨y, hy⟩ : ∃ y, O.getD p 0 = y := ⟨_, rfl⟩
                  obtain ⟨g7, fz⟩ := ow_cell HO3.out (j := p) (x := y) (by have := HML.out; have := HM.out; omega) (by rw [HGP.out.get (by rw [HM.out]; exact hkm)]; exact hy)
                  obtain ⟨g8, _⟩ := ow_cell HO3.out (j := p + 1) (x := M.getD (p + 1) 0) (by have := HML.out; have := HM.out; omega) rfl
                  have HY := Lib.hid hy
                  clear hy
                  have hp0 : (0 : Int) ≤ (p : Int) := by omega
                  have hp1 : (p : Int) < (m : Int) + 1 := by omega
                  have wp : IntKind.i64.wrap (((p + 1 : Nat) : Int) - 1) = (p : Int) := by rw [IntKind.wrap_i64]; omega
                  have hgi : (t : Int) < ((p + 1 : Nat) : Int) := by omega
                  go_wp2_with fail
                  go_roundw
                  case rel => exact ⟨p, _, by omega, by omega, by go_num, Lib.hid (HGP.out.step (by rw [HM.out]; exact hkm)), by rw [HY.out]; exact HO3.out.set _ _, by first | exact HB3.out.setCell hs3 hgB _ | exact Below.setCell HB3.out hgB _ | exact (HB3.out.grown (gr_set (gr_refl _ (some g9)) _ _) hs3 (fun j hj => by cases hj; exact hgB))⟩
                  all_goals first | (simp [intOf]; done) | (simp [intOf]; omega)
                · obtain rfl : kk = t := by omega
                  have g0 := (HB3.out.cell (p := ⟨b, off + q, none⟩) hbw).trans G0W.out
                  obtain ⟨g8, fz⟩ := ow_cell HO3.out (j := kk) (x := M.getD kk 0) (by have := HML.out; have := HM.out; omega) rfl
                  have hne : ¬ (kk : Int) < (kk : Int) := by omega
                  go_wp2_with fail
                  go_roundw
                  case rel => exact ⟨q + 1, insZ O x, by omega, by go_num, HSN.out, by rw [insZ_len, HM.out]; omega, by rw [← HGP.out.end (by rw [HM.out]; exact hkm) HLO.out HNT.out]; exact HO3.out.set _ _, by first | exact HB3.out.setCell hs3 hgB _ | exact Below.setCell HB3.out hgB _ | exact (HB3.out.grown (gr_set (gr_refl _ (some g9)) _ _) hs3 (fun j hj => by cases hj; exact hgB))⟩
                  case measure => simp [intOf]; omega
          · have htd : decide ((t : Int) < (m : Int)) = false := by simp; omega
            have htd2 : decide (t < m) = false := by simp; omega
            have HNT := Lib.hid (show t < O.length → x ≤ O.getD t 0 from fun h => absurd h (by rw [HM.out]; exact htm))
            clear hbe
            go_wp2_with fail
            go_big_region_o
            go_upto_region 9 with fail
            refine block_nameP fun W1 hW => ?_
            have HBw := Lib.hid (show Below wy.heap.size wy W1 by rw [← hW]; first | exact Below.refl _ _ | exact below_drewN (Below.refl _ _) _ | exact (Below.refl _ _).drew)
            clear hW g0
            have HO2 := Lib.hid (HO1.out.below HBw.out)
            have HB2 := Lib.hid (HB1.out.trans (HBw.out.mono (by omega)))
            have hs2 := HB2.out.size
            clear HBw HBY HO1 HB1 HO HB HZ3 HZ
            have wm : IntKind.i64.wrap (((m + 1 : Nat) : Int) - 1) = (m : Int) := by rw [IntKind.wrap_i64]; omega
            go_wp2_with (at_builtin; refine wpList_append_own_at _ rfl (.tmp 37) (.tmp 38) 31 rfl w.heap.size 3 i0 (.int .i64 0) 1 8 slUnder hi hz0 hz1 hz2 rfl (by decide) _ O.length (O.map (Value.int .i64)) rfl (World.ownsRow.alloc HO2.out _) ⟨W1.heap.size, 0, none⟩ 1 1 [.int .i64 0] rfl rfl (cell_one_new _ _ _) (by intro u hu; rcases List.mem_cons.1 hu with rfl | hu; (· rfl); (· cases hu)) (by have := HM.out; unfold maxLen; omega) (by have := HM.out; omega) (by first | omega | (simp; omega)) ?_; intro v9 w9 hm9 hg9 _ _; obtain ⟨g9, c9, rfl, hgB, hgl, hgc, hgm⟩ := ow_open1 (Ow.push hm9) (n := m + 1) (by rw [List.length_append, HM.out]; rfl); have HO9 := Lib.hid (Ow.push hm9); have HB9 := Lib.hid ((HB2.out.alloc hs2 _).grown hg9 (by first | omega | (simp; omega)) (fun j hj => (HO2.out.lt j hj).1)); clear hm9 hg9)
            go_loopw [6] (fun kv wr => ∃ (kk : Nat) (M : List Int), t ≤ kk ∧ kk ≤ m ∧ kv = .int .i64 kk ∧ Hid (Gap O kk M) ∧ Ow w.heap.size 3 wr (.slice (some ⟨g9, 0, none⟩) (m + 1) c9) M ∧ Below w.heap.size w wr) (fun kv _ => (intOf kv).toNat)
            case atStart => exact ⟨m, O ++ [0], ht, Nat.le_refl _, by go_num, Lib.hid (by rw [← HM.out]; exact Gap.start O 0), HO9.out, HB9.out⟩
            case round =>
              obtain ⟨kk, M, htk, hkm, rfl, HGP, how, hbel⟩ := hrel
              have HO3 := Lib.hid how
              have HB3 := Lib.hid hbel
              have hs3 := hbel.size
              have HML := Lib.hid (HGP.out.len (by rw [HM.out]; exact hkm))
              clear how hbel
              have hkk0 : (0 : Int) ≤ (kk : Int) := by omega
              have hkk1 : (kk : Int) < ((m + 1 : Nat) : Int) := by omega
              have hkk2 : (kk : Int) < (m : Int) + 1 := by omega
              by_cases hgt : t < kk
              · exfalso; omega
              · obtain rfl : kk = t := by omega
                have g0 := (HB3.out.cell (p := ⟨b, off + q, none⟩) hbw).trans G0W.out
                obtain ⟨g8, fz⟩ := ow_cell HO3.out (j := kk) (x := M.getD kk 0) (by have := HML.out; have := HM.out; omega) rfl
                have hne : ¬ (kk : Int) < (kk : Int) := by omega
                go_wp2_with fail
                go_roundw
                case rel => exact ⟨q + 1, insZ O x, by omega, by go_num, HSN.out, by rw [insZ_len, HM.out]; omega, by rw [← HGP.out.end (by rw [HM.out]; exact hkm) HLO.out HNT.out]; exact HO3.out.set _ _, by first | exact HB3.out.setCell hs3 hgB _ | exact Below.setCell HB3.out hgB _ | exact (HB3.out.grown (gr_set (gr_refl _ (some g9)) _ _) hs3 (fun j hj => by cases hj; exact hgB))⟩
                case measure => simp [intOf]; omega
      · go_wp2_with fail
        go_roundw
        case rel => exact ⟨q + 1, O, by omega, by go_num, HSN.out, by rw [HM.out]; omega, HO.out, HB.out⟩
        case measure => simp [intOf]; omega
    · obtain rfl : q = n := by omega
      have HE := Lib.hid (show distR zs = O by rw [← HOQ.out, List.take_of_length_le (by rw [HLN.out]; exact Nat.le_refl _)])
      go_wp2_with fail
      go_ret
      exact ⟨_, rfl, by rw [HE.out]; exact HO.out, HB.out⟩

end Go.Proofs.Ytonnbcongnkcdaa
