/- Contract of the reference's Groups; the walk of EnemyGroups. Condition: at most 2^39 elements. -/
import Derived.Test.YtonnbcongnkcdaaEnGq
namespace Go.Proofs.Ytonnbcongnkcdaa
open Go.RowKit

theorem GrO.start (w : World) : GrO w.heap.size (w.alloc (.cells #[] 31)) (.slice (some ⟨w.heap.size, 0, none⟩) 0 0) [] :=
  ⟨[], World.ownsRow_made w #[] 0 (Nat.le_refl _) (by decide) rfl, fun i h => absurd h (Nat.not_lt_zero _)⟩
theorem GrO.belowN {B N : Nat} {w w' : World} {v : Value} {G : List (List Int)} (h : GrO B w v G) (hb : Below N w w') (hN : w.heap.size ≤ N) : GrO B w' v G := h.below (hb.mono hN)
theorem ow_belowN {B N : Nat} {E : TypeId} {w w' : World} {v : Value} {l : List Int} (h : Ow B E w v l) (hb : Below N w w') (hN : ∀ g, v.ownBlock = some g → g < N) : Ow B E w' v l := h.belowN hb hN
theorem made_lab {w : World} {B n : Nat} {v : Value} (h : w.ownsRow B 3 1 v n (madeCells (Value.cells (.int .i64 0)) (n * 1)).toList) : Ow B 3 w v (labL n (fun _ => 0)) := by
  have e : (madeCells (Value.cells (.int .i64 0)) (n * 1)).toList = (labL n (fun _ => 0)).map (Value.int .i64) := by
    rw [Nat.mul_one, show Value.cells (.int .i64 0) = #[.int .i64 0] from rfl, toList_madeCells_one]
    apply List.ext_getElem
    · simp [labL]
    · intro i h1 h2
      simp [labL]
  unfold Ow
  rw [labL_len, ← e]; exact h
def GrJ (a1 : Option Addr) (nd c1 b off ne c2 q ia ib : Nat) (p1 p2 : Int) (W : World) (z0 : Act) (L : Nat → Bool) (z1 : Act) (w : World) : Prop :=
  ∃ u43 u44 u45 u46 u47 u48 u49 u50 u51 u52 u53 u54 u55 u56 u11 u12, z1 = ((((((((((((((((z0.put (some 43) u43).put (some 44) u44).put (some 45) u45).put (some 46) u46).put (some 47) u47).put (some 48) u48).put (some 49) u49).put (some 50) u50).put (some 51) u51).put (some 52) u52).put (some 53) u53).put (some 54) u54).put (some 55) u55).put (some 56) u56).put (some 11) u11).put (some 12) u12) ∧ Since W w ∧ (L 0 = true → u43 = .slice a1 nd c1) ∧ (L 1 = true → u44 = .slice (some ⟨b, off, none⟩) ne c2) ∧ (L 2 = true → u45 = .int .i64 (q : Nat)) ∧ (L 3 = true → u46 = .pointer (some ⟨b, off + q * 2, none⟩)) ∧ (L 4 = true → u47 = .pointer (some ⟨b, off + q * 2, none⟩)) ∧ (L 5 = true → u48 = .int .i64 p1) ∧ (L 6 = true → u49 = .int .i64 (ia : Nat)) ∧ (L 7 = true → u50 = .slice a1 nd c1) ∧ (L 8 = true → u51 = .slice (some ⟨b, off, none⟩) ne c2) ∧ (L 9 = true → u52 = .int .i64 (q : Nat)) ∧ (L 10 = true → u53 = .pointer (some ⟨b, off + q * 2, none⟩)) ∧ (L 11 = true → u54 = .pointer (some ⟨b, off + q * 2 + 1, none⟩)) ∧ (L 12 = true → u55 = .int .i64 p2) ∧ (L 13 = true → u56 = .int .i64 (ib : Nat)) ∧ (L 14 = true → u11 = .int .i64 (ia : Nat)) ∧ (L 15 = true → u12 = .int .i64 (ib : Nat))


set_option maxRecDepth 20000 in
set_option maxHeartbeats 16000000 in
theorem xgroups_any (a : Option Addr) (n cap : Nat) (L : List (Int × Int)) (ia' : Option Addr) (m ic : Nat) (ids : List Int) (w : World) (h : Pr w a n cap L) (hz : Zl w ia' m ic ids) (hn : n ≤ 549755813888) (hm : m ≤ 549755813888) :
    Calls Try.prog 26 #[.slice a n cap, .slice ia' m ic] w fun e w' => ∃ v G, e = .returned v ∧ IsGroups (distR ids) (Rch (cfl (normR L) ids)) G ∧ GrN w.heap.size w' v G ∧ Below w.heap.size w w' := by
  have HPL := Lib.hid h
  have HZ := Lib.hid hz
  have hLn := h.1
  have HLN := Lib.hid hLn
  have hZn := hz.1
  have HZN := Lib.hid hZn
  clear h hz hLn hZn
  have mixed : Try.prog.follows Departure.mixedOrders = true := by kernel_rfl
  obtain ⟨i0, hi, hzz⟩ := Option.map_eq_some_iff.1 infoIntG
  simp only [Prod.mk.injEq] at hzz
  obtain ⟨hz0, hz1, hz2⟩ := hzz
  obtain ⟨i1, hi1, hzz⟩ := Option.map_eq_some_iff.1 infoSlG
  simp only [Prod.mk.injEq] at hzz
  obtain ⟨hy0, hy1, hy2⟩ := hzz
  go_enter Try.func26, Try.ntmps26
  go_wp2_with fail
  refine (xdistinct_any _ _ _ ids _ HZ.out (by omega)).mono ?_
  rintro e w1 ⟨v1, rfl, ho, hb⟩
  obtain ⟨D, hD⟩ : ∃ D, distR ids = D := ⟨_, rfl⟩
  have hDs := distR_spec ids
  have hDl : (distR ids).length ≤ m := by rw [← HZN.out, ← rise_distR]; exact rise_len ids
  rw [hD] at ho hDs hDl
  have HD := Lib.hid hD
  have HDS := Lib.hid hDs
  obtain ⟨a1, c1, rfl, hz3⟩ := ho.zl
  have hc1 := hz3.2.1
  have hm1 := hz3.2.2.1
  unfold maxLen at hm1
  obtain ⟨nd, hnd⟩ : ∃ nd, D.length = nd := ⟨_, rfl⟩
  have HND := Lib.hid hnd
  rw [hnd] at hz3 hc1 hDl ⊢
  have HZ1 := Lib.hid hz3
  have HB1 := Lib.hid hb
  have hs1 := hb.size
  replace HPL := Lib.hid (HPL.out.below hb)
  clear ho hD hDs hz3 hnd hb
  go_wp2_with fail
  refine (xconflicts_any _ _ _ L _ _ _ D _ HPL.out HZ1.out (by omega)).mono ?_
  rintro e w2 ⟨v2, rfl, ho, hb⟩
  have hEl : (cfl (normR L) D).length ≤ n := Nat.le_trans (cfl_len _ _) (by have := normR_len L L.length (Nat.le_refl _); rw [List.take_length] at this; have := HLN.out; omega)
  have hED : ∀ p ∈ cfl (normR L) D, p.1 ∈ D ∧ p.2 ∈ D := fun p hp => cfl_in (y := p.1) (z := p.2) hp
  have hE2 : cfl (normR L) D = cfl (normR L) ids := by rw [← HD.out]; exact cfl_distR _ _
  obtain ⟨E, hE⟩ : ∃ E, cfl (normR L) D = E := ⟨_, rfl⟩
  rw [hE] at ho hEl hED hE2
  have HE := Lib.hid hE2
  have HED := Lib.hid hED
  obtain ⟨a2, c2, rfl, hp2⟩ := ho.pr
  have hc2 := hp2.2.1
  have hm2 := hp2.2.2.1
  unfold maxLen at hm2
  obtain ⟨ne, hne⟩ : ∃ ne, E.length = ne := ⟨_, rfl⟩
  have HNE := Lib.hid hne
  rw [hne] at hp2 hc2 hEl ⊢
  have HP2 := Lib.hid hp2
  replace HZ1 := Lib.hid (HZ1.out.below hb)
  have HB2 := Lib.hid (HB1.out.trans (hb.mono hs1))
  have hs2 := HB2.out.size
  clear ho hE hED hE2 hp2 hne hb HB1 HPL HZ
  go_wp2_with (at_make; refine wpList_make_full _ rfl _ _ 31 rfl w2.heap.size 3 i0 (.int .i64 0) 1 slUnder hi hz0 hz1 .i64 .i64 _ _ nd rfl rfl rfl rfl (by rw [hz2]; omega) (by unfold maxLen; omega) (Nat.le_refl _) ?_; intro w3 hm3 hg3; have HL3 := Lib.hid (made_lab hm3); have HB3 := Lib.hid (Below.grown (Below.refl w2.heap.size w2) hg3 (Nat.le_refl _) (fun j hj => by cases hj)); clear hm3 hg3)
  go_loopw [8] (fun i wr => ∃ (q : Nat) (lab : Nat → Nat), q ≤ nd ∧ i = .int .i64 q ∧ Hid (∀ j, j < q → lab j = j) ∧ Ow w2.heap.size 3 wr (.slice (some ⟨w2.heap.size, 0, none⟩) nd nd) (labL nd lab) ∧ Below w2.heap.size w2 wr) (fun i _ => nd - (intOf i).toNat)
  case atStart => exact ⟨0, _, Nat.zero_le _, rfl, Lib.hid (fun j hj => absurd hj (Nat.not_lt_zero _)), HL3.out, HB3.out⟩
  case round =>
    obtain ⟨q, lab, hq, rfl, HLJ, how, hbel⟩ := hrel
    have HO4 := Lib.hid how
    have HB4 := Lib.hid hbel
    have hs4 := hbel.size
    clear how hbel
    have hqx0 : (0 : Int) ≤ (q : Int) := by omega
    by_cases hqn : q < nd
    · obtain ⟨g8, fz⟩ := ow_cell HO4.out (j := q) (x := (lab q : Int)) (by rw [labL_len]; exact hqn) (labL_get hqn)
      have hqx1 : (q : Int) < (nd : Int) := by omega
      go_wp2_with fail
      go_roundw
      case rel => exact ⟨q + 1, upN lab q q, by omega, by go_num, Lib.hid (fun j hj => by unfold upN; split; (· rename_i e; exact e.symm); (· exact HLJ.out j (by omega))), by rw [← labL_set]; exact HO4.out.set _ _, (HB4.out.grown (gr_set (gr_refl _ (some w2.heap.size)) _ _) hs4 (fun j hj => by cases hj; exact Nat.le_refl _))⟩
      case measure => simp [intOf]; omega
    · obtain rfl : q = nd := by omega
      have HLI := Lib.hid (show labL q lab = labL q id from labL_id q q (Nat.le_refl _) lab HLJ.out rfl)
      rw [HLI.out] at HO4
      obtain ⟨S0, hS0⟩ : ∃ s, sumN q id + 1 = s := ⟨_, rfl⟩
      have HS0 := Lib.hid hS0
      clear hS0 HLI HLJ HL3 HB3
      go_wp2_with fail
      go_loopg [9] S0 (fun gg cv wr => ∃ (c : Bool) (lab : Nat → Nat), cv = .bool c ∧ Hid (LabI D E lab) ∧ Ow w2.heap.size 3 wr (.slice (some ⟨w2.heap.size, 0, none⟩) q q) (labL q lab) ∧ Below w2.heap.size w2 wr ∧ sumN q lab + (if c = true then 1 else 0) ≤ gg ∧ Hid (c = false → ∀ p ∈ E, lab (idxR D p.1) = lab (idxR D p.2)))
      case atStart => exact ⟨true, id, rfl, Lib.hid (LabI.start D E), HO4.out, HB4.out, by rw [← HS0.out]; exact Nat.le_refl _, Lib.hid (fun h => by cases h)⟩
      case round =>
        obtain ⟨c, lab, rfl, HLB, how, hbel, hgg, HRE⟩ := hrel
        obtain ⟨wy, hwy⟩ : ∃ W, W = wr := ⟨_, rfl⟩
        subst hwy
        have HO5 := Lib.hid how
        have HB5 := Lib.hid hbel
        have hs5 := hbel.size
        have HGG := Lib.hid hgg
        clear how hbel hgg HO4 HB4
        cases c
        · have HIS := Lib.hid (show IsGroups D (Rch E) (grpsR D lab) from HLB.out.end HDS.out.1 HED.out (HRE.out rfl))
          replace HZ1 := Lib.hid (HZ1.out.below HB5.out)
          have HB6 := Lib.hid (HB2.out.trans (HB5.out.mono hs2))
          clear HB2 HB5 HRE HGG
          go_wp2_with fail
          go_loopw [14, 15] (fun ov i wr => ∃ k : Nat, k ≤ q ∧ i = .int .i64 k ∧ GrO wy.heap.size wr ov (gsp D lab k) ∧ Below wy.heap.size wy wr) (fun _ i _ => q - (intOf i).toNat)
          case atStart => exact ⟨0, Nat.zero_le _, rfl, GrO.start wy, bel1 _ _⟩
          case round =>
            obtain ⟨k, hk, rfl, hgo, hbel⟩ := hrel
            obtain ⟨wj, hwj⟩ : ∃ W, W = wr := ⟨_, rfl⟩
            subst hwj
            have HGO := Lib.hid hgo
            have HBJ := Lib.hid hbel
            have hsj := hbel.size
            have HGL := Lib.hid (gsp_len D lab k)
            clear hgo
            have hwl : w2.heap.size < wy.heap.size := (HO5.out.lt _ rfl).2
            by_cases hkn : k < q
            · have HO7 := Lib.hid (HO5.out.below hbel)
              obtain ⟨lk, hlk⟩ : ∃ l, lab k = l := ⟨_, rfl⟩
              obtain ⟨g8, _⟩ := ow_cell HO7.out (j := k) (x := (lk : Int)) (by rw [labL_len]; exact hkn) (by rw [labL_get hkn, hlk])
              have HLK := Lib.hid hlk
              have HGS := Lib.hid (gsp_succ D lab k)
              have HZJ := Lib.hid (HZ1.out.below hbel)
              clear hlk hbel
              have hkx0 : (0 : Int) ≤ (k : Int) := by omega
              have hkx1 : (k : Int) < (q : Int) := by omega
              by_cases hlk2 : lk = k
              · obtain rfl := hlk2
                have hee : ((lk : Int) != (lk : Int)) = false := by simp
                go_wp2_with fail
                go_loopw [16, 17] (fun gv t wr => ∃ t' : Nat, t' ≤ q ∧ t = .int .i64 t' ∧ Ow wj.heap.size 3 wr gv (gpart D lab lk t') ∧ Below wj.heap.size wj wr) (fun _ t _ => q - (intOf t).toNat)
                case atStart => exact ⟨0, Nat.zero_le _, rfl, Ow.start _ wj (Nat.le_refl _), bel1 _ _⟩
                case round =>
                  obtain ⟨t, ht, rfl, how, hbel⟩ := hrel
                  have HOG := Lib.hid how
                  have HBG := Lib.hid hbel
                  have hsg := hbel.size
                  have HGPL := Lib.hid (gpart_len D lab lk t)
                  clear how
                  have htx0 : (0 : Int) ≤ (t : Int) := by omega
                  by_cases htn : t < q
                  · have HO8 := Lib.hid (HO7.out.below hbel)
                    obtain ⟨lt, hlt⟩ : ∃ l, lab t = l := ⟨_, rfl⟩
                    obtain ⟨g9, _⟩ := ow_cell HO8.out (j := t) (x := (lt : Int)) (by rw [labL_len]; exact htn) (by rw [labL_get htn, hlt])
                    obtain ⟨b7, o7, ea7, hc7⟩ := (HZJ.out.below hbel).2.2.2 (by omega)
                    subst ea7
                    have g7 := hc7 t htn
                    obtain ⟨y, hy⟩ : ∃ y, D.getD t 0 = y := ⟨_, rfl⟩
                    rw [hy] at g7
                    have HGS2 := Lib.hid (show gpart D lab lk (t + 1) = if lt = lk then gpart D lab lk t ++ [y] else gpart D lab lk t by rw [gpart_succ, hlt, ← hy, getD_bang (by rw [HND.out]; exact htn)])
                    clear hc7 hy hlt hbel
                    have htx1 : (t : Int) < (q : Int) := by omega
                    by_cases hle : lt = lk
                    · have he2 : ((lt : Int) == (lk : Int)) = true := by simp [hle]
                      have HLE := Lib.hid hle
                      clear hle
                      go_wp2_with (at_builtin; refine wpList_append_own_at _ rfl (.tmp 109) (.tmp 114) 31 rfl wj.heap.size 3 i0 (.int .i64 0) 1 8 slUnder hi hz0 hz1 hz2 rfl (by decide) _ (gpart D lab lk t).length ((gpart D lab lk t).map (Value.int .i64)) rfl (World.ownsRow.alloc HOG.out _) ⟨wr.heap.size, 0, none⟩ 1 1 [.int .i64 y] rfl rfl (cell_one_new _ _ _) (by intro u hu; rcases List.mem_cons.1 hu with rfl | hu; (· rfl); (· cases hu)) (by have := HGPL.out; unfold maxLen; omega) (by have := HGPL.out; omega) (by first | omega | (simp; omega)) ?_; intro v11 w11 hm11 hg11 _ _; have HO11 := Lib.hid (Ow.push hm11); have HB11 := Lib.hid ((HBG.out.alloc hsg _).grown hg11 (by first | omega | (simp; omega)) (fun j hj => (HOG.out.lt j hj).1)); clear hm11 hg11)
                      go_roundw
                      case rel => exact ⟨t + 1, by omega, by go_num, by rw [HGS2.out, if_pos HLE.out]; exact HO11.out, HB11.out⟩
                      case measure => simp [intOf]; omega
                    · have he2 : ((lt : Int) == (lk : Int)) = false := by simp; omega
                      have HLE := Lib.hid hle
                      clear hle
                      go_wp2_with fail
                      go_roundw
                      case rel => exact ⟨t + 1, by omega, by go_num, by rw [HGS2.out, if_neg HLE.out]; exact HOG.out, HBG.out⟩
                      case measure => simp [intOf]; omega
                  · obtain rfl : t = q := by omega
                    have HGE := Lib.hid (show gpart D lab lk t = grpR D lab lk by unfold gpart grpR; rw [HND.out])
                    rw [HGE.out] at HOG
                    have hgne : 0 < (grpR D lab lk).length := List.length_pos_of_mem (grpR_mem.2 ⟨lk, by rw [HND.out]; exact hkn, HLK.out, rfl⟩)
                    obtain ⟨gg, gc, rfl, hggB, hggl, _, _⟩ := ow_open1 HOG.out rfl hgne
                    obtain ⟨ng, hng⟩ : ∃ n, (grpR D lab lk).length = n := ⟨_, rfl⟩
                    rw [hng] at HOG ⊢
                    have HGR := Lib.hid HOG.out
                    obtain ⟨xs, hxo, hxs⟩ := HGO.out.below hbel
                    have HXO := Lib.hid hxo
                    have HXS := Lib.hid hxs
                    have hgg2 : ∀ b, Value.ownBlock _ = some b → b < wj.heap.size := fun b hb => (HGO.out.lt b hb).2
                    clear hxo hxs hbel hng hgne HOG
                    go_wp2_with (at_builtin; refine wpList_append_own_at _ rfl (.tmp 116) (.tmp 118) 37 rfl wy.heap.size 31 i1 (.slice none 0 0) 1 24 slsUnder hi1 hy0 hy1 hy2 rfl (by decide) _ (gsp D lab lk).length xs rfl (World.ownsRow.alloc HXO.out _) ⟨wr.heap.size, 0, none⟩ 1 1 [.slice (some ⟨gg, 0, none⟩) ng gc] rfl rfl (cell_one_new _ _ _) (by intro u hu; rcases List.mem_cons.1 hu with rfl | hu; (· rfl); (· cases hu)) (by have := HGL.out; unfold maxLen; omega) (by have := HGL.out; omega) (by first | omega | (simp; omega)) ?_; intro v13 w13 hm13 hg13 _ hat13; have HO13 := Lib.hid (grp_push HXS.out HXO.out HGR.out hgg2 hggB hsj hm13 hg13 hat13); have HB13 := Lib.hid ((((HBJ.out.trans (HBG.out.mono hsj)).alloc (by omega) _).grown hg13 (by first | omega | (simp; omega)) (fun j hj => (HGO.out.lt j hj).1))); clear hm13 hg13 hat13)
                    go_roundw
                    case rel => exact ⟨lk + 1, by omega, by go_num, by rw [HGS.out, if_pos HLK.out]; exact HO13.out, HB13.out⟩
                    case measure => simp [intOf]; omega
              · have hee : ((lk : Int) != (k : Int)) = true := by simp; omega
                have HNL := Lib.hid hlk2
                clear hlk2
                go_wp2_with fail
                go_roundw
                case rel => exact ⟨k + 1, by omega, by go_num, by rw [HGS.out, if_neg (by rw [HLK.out]; exact HNL.out)]; exact HGO.out, HBJ.out⟩
                case measure => simp [intOf]; omega
            · obtain rfl : k = q := by omega
              have HGE := Lib.hid (show gsp D lab k = grpsR D lab by unfold gsp grpsR; rw [HND.out])
              have HBF := Lib.hid (HB6.out.trans (hbel.mono HB6.out.size))
              clear hbel
              go_wp2_with fail
              go_ret
              exact ⟨_, grpsR D lab, rfl, by rw [HD.out, ← HE.out]; exact HIS.out, ⟨wy.heap.size, HB6.out.size, by rw [← HGE.out]; exact HGO.out⟩, HBF.out⟩
        · go_wp2_with fail
          go_loopw [9, 10] (fun cv i wr => ∃ (k : Nat) (c2 : Bool) (lab2 : Nat → Nat), k ≤ ne ∧ i = .int .i64 k ∧ cv = .bool c2 ∧ Hid (LabI D E lab2) ∧ Ow w2.heap.size 3 wr (.slice (some ⟨w2.heap.size, 0, none⟩) q q) (labL q lab2) ∧ Below w2.heap.size w2 wr ∧ Hid (c2 = false → lab2 = lab ∧ ∀ p ∈ E.take k, lab (idxR D p.1) = lab (idxR D p.2)) ∧ Hid (c2 = true → sumN q lab2 < sumN q lab) ∧ Hid (sumN q lab2 ≤ sumN q lab)) (fun _ i _ => ne - (intOf i).toNat)
          case atStart => exact ⟨0, false, lab, Nat.zero_le _, rfl, rfl, HLB, HO5.out, HB5.out, Lib.hid (fun _ => ⟨rfl, by simp⟩), Lib.hid (fun h => by cases h), Lib.hid (Nat.le_refl _)⟩
          case round =>
            obtain ⟨k, c2', lab2, hk, rfl, rfl, HL2, how, hbel, HF2, HT2, HS2⟩ := hrel
            have HO6 := Lib.hid how
            have HB6 := Lib.hid hbel
            have hs6 := hbel.size
            clear how
            by_cases hkn : k < ne
            · obtain ⟨b, off, rfl, hc⟩ := (HP2.out.below hbel).2.2.2 (by omega)
              have hkE : k < E.length := by have := HNE.out; omega
              obtain ⟨g0, g1⟩ := hc k hkn
              rw [getD_lt hkE] at g0 g1
              obtain ⟨p1, p2, epq⟩ : ∃ x y, E[k] = (x, y) := ⟨_, _, rfl⟩
              rw [epq] at g0 g1
              simp only at g0 g1
              have hpd := HED.out _ (List.getElem_mem hkE)
              rw [epq] at hpd
              have hi1' := idxR_get hpd.1
              have hi2' := idxR_get hpd.2
              simp only at hi1' hi2'
              obtain ⟨ia, hia⟩ : ∃ i, idxR D p1 = i := ⟨_, rfl⟩
              obtain ⟨ib, hib⟩ : ∃ i, idxR D p2 = i := ⟨_, rfl⟩
              rw [hia, HND.out] at hi1'
              rw [hib, HND.out] at hi2'
              have HIA := Lib.hid hia
              have HIB := Lib.hid hib
              have hia2 := hi1'.1
              have hib2 := hi2'.1
              have HPE := Lib.hid (show (D[ia]!, D[ib]!) ∈ E by rw [hi1'.2, hi2'.2, ← epq]; exact List.getElem_mem hkE)
              have HPQ := Lib.hid epq
              replace HZ1 := Lib.hid (HZ1.out.below hbel)
              clear hc epq hpd hi1' hi2' hia hib hbel
              have hkx0 : (0 : Int) ≤ (k : Int) := by omega
              have hkx1 : (k : Int) < (ne : Int) := by omega
              go_wp2_with fail
              refine region_name fun W1 hW => ?_
              have HBw := Lib.hid (show Below wr.heap.size wr W1 by rw [← hW]; (repeat' (first | with_reducible exact Below.refl _ _ | (with_reducible refine Below.alloc ?_ ?_ _; rotate_left; (focus (first | omega | (simp; done) | (simp; omega)))) | with_reducible apply Below.drew | (with_reducible refine Below.setCell ?_ ?_ _; rotate_left; (focus (first | omega | (simp; done) | (simp; omega)))))))
              clear hW
              replace g0 := cell_mono g0 HBw.out
              replace g1 := cell_mono g1 HBw.out
              replace HZ1 := Lib.hid (HZ1.out.below HBw.out)
              replace HO6 := Lib.hid (HO6.out.below HBw.out)
              replace HB6 := Lib.hid (HB6.out.trans (HBw.out.mono hs6))
              replace hs6 := HB6.out.size
              refine region_inv2 (by kernel_rfl) (GrJ a1 q c1 b off ne c2 k ia ib p1 p2 (W1)) ?_ ?_ ?_ ?_
              · exact ⟨u43, u44, u45, u46, u47, u48, u49, u50, u51, u52, u53, u54, u55, u56, u11, u12, by simp only [Act.put, List.setIfInBounds_toArray, List.set_cons_zero, List.set_cons_succ], Since.drawn _, (fun h => by cases h), (fun h => by cases h), (fun h => by cases h), (fun h => by cases h), (fun h => by cases h), (fun h => by cases h), (fun h => by cases h), (fun h => by cases h), (fun h => by cases h), (fun h => by cases h), (fun h => by cases h), (fun h => by cases h), (fun h => by cases h), (fun h => by cases h), (fun h => by cases h), (fun h => by cases h)⟩
              · exact acyc_spec (by kernel_rfl)
              · intro Ls a0 wq i o ho hLi hafter hJ
                obtain ⟨u43, u44, u45, u46, u47, u48, u49, u50, u51, u52, u53, u54, u55, u56, u11, u12, rfl, hS, p0, p1, p2, p3, p4, p5, p6, p7, p8, p9, p10, p11, p12, p13, p14, p15⟩ := hJ
                have hi : i < 16 := (Array.getElem?_eq_some_iff.1 ho).1
                obtain rfl | rfl | rfl | rfl | rfl | rfl | rfl | rfl | rfl | rfl | rfl | rfl | rfl | rfl | rfl | rfl : i = 0 ∨ i = 1 ∨ i = 2 ∨ i = 3 ∨ i = 4 ∨ i = 5 ∨ i = 6 ∨ i = 7 ∨ i = 8 ∨ i = 9 ∨ i = 10 ∨ i = 11 ∨ i = 12 ∨ i = 13 ∨ i = 14 ∨ i = 15 := by omega
                · simp only [List.getElem?_toArray, List.getElem?_cons_zero, Option.some.injEq] at ho
                  subst ho
                  have P0 := Lib.hid p0
                  have P1 := Lib.hid p1
                  have P2 := Lib.hid p2
                  have P3 := Lib.hid p3
                  have P4 := Lib.hid p4
                  have P5 := Lib.hid p5
                  have P6 := Lib.hid p6
                  have P7 := Lib.hid p7
                  have P8 := Lib.hid p8
                  have P9 := Lib.hid p9
                  have P10 := Lib.hid p10
                  have P11 := Lib.hid p11
                  have P12 := Lib.hid p12
                  have P13 := Lib.hid p13
                  have P14 := Lib.hid p14
                  have P15 := Lib.hid p15
                  have HS := Lib.hid hS
                  clear hS hLi hafter p0 p1 p2 p3 p4 p5 p6 p7 p8 p9 p10 p11 p12 p13 p14 p15
                  simp only [Act.put, List.setIfInBounds_toArray, List.set_cons_zero, List.set_cons_succ]
                  go_wp2_with fail
                  exact ⟨.slice a1 q c1, u44, u45, u46, u47, u48, u49, u50, u51, u52, u53, u54, u55, u56, u11, u12, by simp only [Act.put, List.setIfInBounds_toArray, List.set_cons_zero, List.set_cons_succ], HS.out, (fun _ => rfl), (fun h => by first | rfl | exact P1.out (by simpa using h)), (fun h => by first | rfl | exact P2.out (by simpa using h)), (fun h => by first | rfl | exact P3.out (by simpa using h)), (fun h => by first | rfl | exact P4.out (by simpa using h)), (fun h => by first | rfl | exact P5.out (by simpa using h)), (fun h => by first | rfl | exact P6.out (by simpa using h)), (fun h => by first | rfl | exact P7.out (by simpa using h)), (fun h => by first | rfl | exact P8.out (by simpa using h)), (fun h => by first | rfl | exact P9.out (by simpa using h)), (fun h => by first | rfl | exact P10.out (by simpa using h)), (fun h => by first | rfl | exact P11.out (by simpa using h)), (fun h => by first | rfl | exact P12.out (by simpa using h)), (fun h => by first | rfl | exact P13.out (by simpa using h)), (fun h => by first | rfl | exact P14.out (by simpa using h)), (fun h => by first | rfl | exact P15.out (by simpa using h))⟩
                · simp only [List.getElem?_toArray, List.getElem?_cons_zero, List.getElem?_cons_succ, Option.some.injEq] at ho
                  subst ho
                  have P0 := Lib.hid p0
                  have P1 := Lib.hid p1
                  have P2 := Lib.hid p2
                  have P3 := Lib.hid p3
                  have P4 := Lib.hid p4
                  have P5 := Lib.hid p5
                  have P6 := Lib.hid p6
                  have P7 := Lib.hid p7
                  have P8 := Lib.hid p8
                  have P9 := Lib.hid p9
                  have P10 := Lib.hid p10
                  have P11 := Lib.hid p11
                  have P12 := Lib.hid p12
                  have P13 := Lib.hid p13
                  have P14 := Lib.hid p14
                  have P15 := Lib.hid p15
                  have HS := Lib.hid hS
                  clear hS hLi hafter p0 p1 p2 p3 p4 p5 p6 p7 p8 p9 p10 p11 p12 p13 p14 p15
                  simp only [Act.put, List.setIfInBounds_toArray, List.set_cons_zero, List.set_cons_succ]
                  go_wp2_with fail
                  exact ⟨u43, .slice (some ⟨b, off, none⟩) ne c2, u45, u46, u47, u48, u49, u50, u51, u52, u53, u54, u55, u56, u11, u12, by simp only [Act.put, List.setIfInBounds_toArray, List.set_cons_zero, List.set_cons_succ], HS.out, (fun h => by first | rfl | exact P0.out (by simpa using h)), (fun _ => rfl), (fun h => by first | rfl | exact P2.out (by simpa using h)), (fun h => by first | rfl | exact P3.out (by simpa using h)), (fun h => by first | rfl | exact P4.out (by simpa using h)), (fun h => by first | rfl | exact P5.out (by simpa using h)), (fun h => by first | rfl | exact P6.out (by simpa using h)), (fun h => by first | rfl | exact P7.out (by simpa using h)), (fun h => by first | rfl | exact P8.out (by simpa using h)), (fun h => by first | rfl | exact P9.out (by simpa using h)), (fun h => by first | rfl | exact P10.out (by simpa using h)), (fun h => by first | rfl | exact P11.out (by simpa using h)), (fun h => by first | rfl | exact P12.out (by simpa using h)), (fun h => by first | rfl | exact P13.out (by simpa using h)), (fun h => by first | rfl | exact P14.out (by simpa using h)), (fun h => by first | rfl | exact P15.out (by simpa using h))⟩
                · simp only [List.getElem?_toArray, List.getElem?_cons_zero, List.getElem?_cons_succ, Option.some.injEq] at ho
                  subst ho
                  have P0 := Lib.hid p0
                  have P1 := Lib.hid p1
                  have P2 := Lib.hid p2
                  have P3 := Lib.hid p3
                  have P4 := Lib.hid p4
                  have P5 := Lib.hid p5
                  have P6 := Lib.hid p6
                  have P7 := Lib.hid p7
                  have P8 := Lib.hid p8
                  have P9 := Lib.hid p9
                  have P10 := Lib.hid p10
                  have P11 := Lib.hid p11
                  have P12 := Lib.hid p12
                  have P13 := Lib.hid p13
                  have P14 := Lib.hid p14
                  have P15 := Lib.hid p15
                  have HS := Lib.hid hS
                  clear hS hLi hafter p0 p1 p2 p3 p4 p5 p6 p7 p8 p9 p10 p11 p12 p13 p14 p15
                  simp only [Act.put, List.setIfInBounds_toArray, List.set_cons_zero, List.set_cons_succ]
                  go_wp2_with fail
                  exact ⟨u43, u44, .int .i64 (k : Nat), u46, u47, u48, u49, u50, u51, u52, u53, u54, u55, u56, u11, u12, by simp only [Act.put, List.setIfInBounds_toArray, List.set_cons_zero, List.set_cons_succ], HS.out, (fun h => by first | rfl | exact P0.out (by simpa using h)), (fun h => by first | rfl | exact P1.out (by simpa using h)), (fun _ => rfl), (fun h => by first | rfl | exact P3.out (by simpa using h)), (fun h => by first | rfl | exact P4.out (by simpa using h)), (fun h => by first | rfl | exact P5.out (by simpa using h)), (fun h => by first | rfl | exact P6.out (by simpa using h)), (fun h => by first | rfl | exact P7.out (by simpa using h)), (fun h => by first | rfl | exact P8.out (by simpa using h)), (fun h => by first | rfl | exact P9.out (by simpa using h)), (fun h => by first | rfl | exact P10.out (by simpa using h)), (fun h => by first | rfl | exact P11.out (by simpa using h)), (fun h => by first | rfl | exact P12.out (by simpa using h)), (fun h => by first | rfl | exact P13.out (by simpa using h)), (fun h => by first | rfl | exact P14.out (by simpa using h)), (fun h => by first | rfl | exact P15.out (by simpa using h))⟩
                · simp only [List.getElem?_toArray, List.getElem?_cons_zero, List.getElem?_cons_succ, Option.some.injEq] at ho
                  subst ho
                  obtain rfl := p1 (hafter ⟨1, .data⟩ (by simp) rfl)
                  obtain rfl := p2 (hafter ⟨2, .data⟩ (by simp) rfl)
                  have P0 := Lib.hid p0
                  have P1 := Lib.hid p1
                  have P2 := Lib.hid p2
                  have P3 := Lib.hid p3
                  have P4 := Lib.hid p4
                  have P5 := Lib.hid p5
                  have P6 := Lib.hid p6
                  have P7 := Lib.hid p7
                  have P8 := Lib.hid p8
                  have P9 := Lib.hid p9
                  have P10 := Lib.hid p10
                  have P11 := Lib.hid p11
                  have P12 := Lib.hid p12
                  have P13 := Lib.hid p13
                  have P14 := Lib.hid p14
                  have P15 := Lib.hid p15
                  have HS := Lib.hid hS
                  clear hS hLi hafter p0 p1 p2 p3 p4 p5 p6 p7 p8 p9 p10 p11 p12 p13 p14 p15
                  simp only [Act.put, List.setIfInBounds_toArray, List.set_cons_zero, List.set_cons_succ]
                  go_wp2_with fail
                  exact ⟨u43, .slice (some ⟨b, off, none⟩) ne c2, .int .i64 (k : Nat), .pointer (some ⟨b, off + k * 2, none⟩), u47, u48, u49, u50, u51, u52, u53, u54, u55, u56, u11, u12, by simp only [Act.put, List.setIfInBounds_toArray, List.set_cons_zero, List.set_cons_succ], HS.out, (fun h => by first | rfl | exact P0.out (by simpa using h)), (fun h => by first | rfl | exact P1.out (by simpa using h)), (fun h => by first | rfl | exact P2.out (by simpa using h)), (fun _ => rfl), (fun h => by first | rfl | exact P4.out (by simpa using h)), (fun h => by first | rfl | exact P5.out (by simpa using h)), (fun h => by first | rfl | exact P6.out (by simpa using h)), (fun h => by first | rfl | exact P7.out (by simpa using h)), (fun h => by first | rfl | exact P8.out (by simpa using h)), (fun h => by first | rfl | exact P9.out (by simpa using h)), (fun h => by first | rfl | exact P10.out (by simpa using h)), (fun h => by first | rfl | exact P11.out (by simpa using h)), (fun h => by first | rfl | exact P12.out (by simpa using h)), (fun h => by first | rfl | exact P13.out (by simpa using h)), (fun h => by first | rfl | exact P14.out (by simpa using h)), (fun h => by first | rfl | exact P15.out (by simpa using h))⟩
                · simp only [List.getElem?_toArray, List.getElem?_cons_zero, List.getElem?_cons_succ, Option.some.injEq] at ho
                  subst ho
                  obtain rfl := p3 (hafter ⟨3, .data⟩ (by simp) rfl)
                  have P0 := Lib.hid p0
                  have P1 := Lib.hid p1
                  have P2 := Lib.hid p2
                  have P3 := Lib.hid p3
                  have P4 := Lib.hid p4
                  have P5 := Lib.hid p5
                  have P6 := Lib.hid p6
                  have P7 := Lib.hid p7
                  have P8 := Lib.hid p8
                  have P9 := Lib.hid p9
                  have P10 := Lib.hid p10
                  have P11 := Lib.hid p11
                  have P12 := Lib.hid p12
                  have P13 := Lib.hid p13
                  have P14 := Lib.hid p14
                  have P15 := Lib.hid p15
                  have HS := Lib.hid hS
                  clear hS hLi hafter p0 p1 p2 p3 p4 p5 p6 p7 p8 p9 p10 p11 p12 p13 p14 p15
                  simp only [Act.put, List.setIfInBounds_toArray, List.set_cons_zero, List.set_cons_succ]
                  go_wp2_with fail
                  exact ⟨u43, u44, u45, .pointer (some ⟨b, off + k * 2, none⟩), .pointer (some ⟨b, off + k * 2, none⟩), u48, u49, u50, u51, u52, u53, u54, u55, u56, u11, u12, by simp only [Act.put, List.setIfInBounds_toArray, List.set_cons_zero, List.set_cons_succ], HS.out, (fun h => by first | rfl | exact P0.out (by simpa using h)), (fun h => by first | rfl | exact P1.out (by simpa using h)), (fun h => by first | rfl | exact P2.out (by simpa using h)), (fun h => by first | rfl | exact P3.out (by simpa using h)), (fun _ => rfl), (fun h => by first | rfl | exact P5.out (by simpa using h)), (fun h => by first | rfl | exact P6.out (by simpa using h)), (fun h => by first | rfl | exact P7.out (by simpa using h)), (fun h => by first | rfl | exact P8.out (by simpa using h)), (fun h => by first | rfl | exact P9.out (by simpa using h)), (fun h => by first | rfl | exact P10.out (by simpa using h)), (fun h => by first | rfl | exact P11.out (by simpa using h)), (fun h => by first | rfl | exact P12.out (by simpa using h)), (fun h => by first | rfl | exact P13.out (by simpa using h)), (fun h => by first | rfl | exact P14.out (by simpa using h)), (fun h => by first | rfl | exact P15.out (by simpa using h))⟩
                · simp only [List.getElem?_toArray, List.getElem?_cons_zero, List.getElem?_cons_succ, Option.some.injEq] at ho
                  subst ho
                  obtain rfl := p4 (hafter ⟨4, .data⟩ (by simp) rfl)
                  have c0 := cell_mono g0 hS.1
                  have P0 := Lib.hid p0
                  have P1 := Lib.hid p1
                  have P2 := Lib.hid p2
                  have P3 := Lib.hid p3
                  have P4 := Lib.hid p4
                  have P5 := Lib.hid p5
                  have P6 := Lib.hid p6
                  have P7 := Lib.hid p7
                  have P8 := Lib.hid p8
                  have P9 := Lib.hid p9
                  have P10 := Lib.hid p10
                  have P11 := Lib.hid p11
                  have P12 := Lib.hid p12
                  have P13 := Lib.hid p13
                  have P14 := Lib.hid p14
                  have P15 := Lib.hid p15
                  have HS := Lib.hid hS
                  clear hS hLi hafter p0 p1 p2 p3 p4 p5 p6 p7 p8 p9 p10 p11 p12 p13 p14 p15
                  simp only [Act.put, List.setIfInBounds_toArray, List.set_cons_zero, List.set_cons_succ]
                  go_wp2_with fail
                  exact ⟨u43, u44, u45, u46, .pointer (some ⟨b, off + k * 2, none⟩), .int .i64 p1, u49, u50, u51, u52, u53, u54, u55, u56, u11, u12, by simp only [Act.put, List.setIfInBounds_toArray, List.set_cons_zero, List.set_cons_succ], HS.out, (fun h => by first | rfl | exact P0.out (by simpa using h)), (fun h => by first | rfl | exact P1.out (by simpa using h)), (fun h => by first | rfl | exact P2.out (by simpa using h)), (fun h => by first | rfl | exact P3.out (by simpa using h)), (fun h => by first | rfl | exact P4.out (by simpa using h)), (fun _ => rfl), (fun h => by first | rfl | exact P6.out (by simpa using h)), (fun h => by first | rfl | exact P7.out (by simpa using h)), (fun h => by first | rfl | exact P8.out (by simpa using h)), (fun h => by first | rfl | exact P9.out (by simpa using h)), (fun h => by first | rfl | exact P10.out (by simpa using h)), (fun h => by first | rfl | exact P11.out (by simpa using h)), (fun h => by first | rfl | exact P12.out (by simpa using h)), (fun h => by first | rfl | exact P13.out (by simpa using h)), (fun h => by first | rfl | exact P14.out (by simpa using h)), (fun h => by first | rfl | exact P15.out (by simpa using h))⟩
                · simp only [List.getElem?_toArray, List.getElem?_cons_zero, List.getElem?_cons_succ, Option.some.injEq] at ho
                  subst ho
                  obtain rfl := p0 (hafter ⟨0, .data⟩ (by simp) rfl)
                  obtain rfl := p5 (hafter ⟨5, .data⟩ (by simp) rfl)
                  have P0 := Lib.hid p0
                  have P1 := Lib.hid p1
                  have P2 := Lib.hid p2
                  have P3 := Lib.hid p3
                  have P4 := Lib.hid p4
                  have P5 := Lib.hid p5
                  have P6 := Lib.hid p6
                  have P7 := Lib.hid p7
                  have P8 := Lib.hid p8
                  have P9 := Lib.hid p9
                  have P10 := Lib.hid p10
                  have P11 := Lib.hid p11
                  have P12 := Lib.hid p12
                  have P13 := Lib.hid p13
                  have P14 := Lib.hid p14
                  have P15 := Lib.hid p15
                  have HS := Lib.hid hS
                  clear hS hLi hafter p0 p1 p2 p3 p4 p5 p6 p7 p8 p9 p10 p11 p12 p13 p14 p15
                  simp only [Act.put, List.setIfInBounds_toArray, List.set_cons_zero, List.set_cons_succ]
                  go_wp2_with fail
                  refine (xindex_any _ _ _ D p1 _ (HZ1.out.below HS.out.1) ia HIA.out).mono ?_
                  rintro e wn ⟨rfl, hwn⟩
                  obtain rfl := hwn
                  go_wp2_with fail
                  exact ⟨.slice a1 q c1, u44, u45, u46, u47, .int .i64 p1, .int .i64 (ia : Nat), u50, u51, u52, u53, u54, u55, u56, u11, u12, by simp only [Act.put, List.setIfInBounds_toArray, List.set_cons_zero, List.set_cons_succ], HS.out, (fun h => by first | rfl | exact P0.out (by simpa using h)), (fun h => by first | rfl | exact P1.out (by simpa using h)), (fun h => by first | rfl | exact P2.out (by simpa using h)), (fun h => by first | rfl | exact P3.out (by simpa using h)), (fun h => by first | rfl | exact P4.out (by simpa using h)), (fun h => by first | rfl | exact P5.out (by simpa using h)), (fun _ => rfl), (fun h => by first | rfl | exact P7.out (by simpa using h)), (fun h => by first | rfl | exact P8.out (by simpa using h)), (fun h => by first | rfl | exact P9.out (by simpa using h)), (fun h => by first | rfl | exact P10.out (by simpa using h)), (fun h => by first | rfl | exact P11.out (by simpa using h)), (fun h => by first | rfl | exact P12.out (by simpa using h)), (fun h => by first | rfl | exact P13.out (by simpa using h)), (fun h => by first | rfl | exact P14.out (by simpa using h)), (fun h => by first | rfl | exact P15.out (by simpa using h))⟩
                · simp only [List.getElem?_toArray, List.getElem?_cons_zero, List.getElem?_cons_succ, Option.some.injEq] at ho
                  subst ho
                  have P0 := Lib.hid p0
                  have P1 := Lib.hid p1
                  have P2 := Lib.hid p2
                  have P3 := Lib.hid p3
                  have P4 := Lib.hid p4
                  have P5 := Lib.hid p5
                  have P6 := Lib.hid p6
                  have P7 := Lib.hid p7
                  have P8 := Lib.hid p8
                  have P9 := Lib.hid p9
                  have P10 := Lib.hid p10
                  have P11 := Lib.hid p11
                  have P12 := Lib.hid p12
                  have P13 := Lib.hid p13
                  have P14 := Lib.hid p14
                  have P15 := Lib.hid p15
                  have HS := Lib.hid hS
                  clear hS hLi hafter p0 p1 p2 p3 p4 p5 p6 p7 p8 p9 p10 p11 p12 p13 p14 p15
                  simp only [Act.put, List.setIfInBounds_toArray, List.set_cons_zero, List.set_cons_succ]
                  go_wp2_with fail
                  exact ⟨u43, u44, u45, u46, u47, u48, u49, .slice a1 q c1, u51, u52, u53, u54, u55, u56, u11, u12, by simp only [Act.put, List.setIfInBounds_toArray, List.set_cons_zero, List.set_cons_succ], HS.out, (fun h => by first | rfl | exact P0.out (by simpa using h)), (fun h => by first | rfl | exact P1.out (by simpa using h)), (fun h => by first | rfl | exact P2.out (by simpa using h)), (fun h => by first | rfl | exact P3.out (by simpa using h)), (fun h => by first | rfl | exact P4.out (by simpa using h)), (fun h => by first | rfl | exact P5.out (by simpa using h)), (fun h => by first | rfl | exact P6.out (by simpa using h)), (fun _ => rfl), (fun h => by first | rfl | exact P8.out (by simpa using h)), (fun h => by first | rfl | exact P9.out (by simpa using h)), (fun h => by first | rfl | exact P10.out (by simpa using h)), (fun h => by first | rfl | exact P11.out (by simpa using h)), (fun h => by first | rfl | exact P12.out (by simpa using h)), (fun h => by first | rfl | exact P13.out (by simpa using h)), (fun h => by first | rfl | exact P14.out (by simpa using h)), (fun h => by first | rfl | exact P15.out (by simpa using h))⟩
                · simp only [List.getElem?_toArray, List.getElem?_cons_zero, List.getElem?_cons_succ, Option.some.injEq] at ho
                  subst ho
                  have P0 := Lib.hid p0
                  have P1 := Lib.hid p1
                  have P2 := Lib.hid p2
                  have P3 := Lib.hid p3
                  have P4 := Lib.hid p4
                  have P5 := Lib.hid p5
                  have P6 := Lib.hid p6
                  have P7 := Lib.hid p7
                  have P8 := Lib.hid p8
                  have P9 := Lib.hid p9
                  have P10 := Lib.hid p10
                  have P11 := Lib.hid p11
                  have P12 := Lib.hid p12
                  have P13 := Lib.hid p13
                  have P14 := Lib.hid p14
                  have P15 := Lib.hid p15
                  have HS := Lib.hid hS
                  clear hS hLi hafter p0 p1 p2 p3 p4 p5 p6 p7 p8 p9 p10 p11 p12 p13 p14 p15
                  simp only [Act.put, List.setIfInBounds_toArray, List.set_cons_zero, List.set_cons_succ]
                  go_wp2_with fail
                  exact ⟨u43, u44, u45, u46, u47, u48, u49, u50, .slice (some ⟨b, off, none⟩) ne c2, u52, u53, u54, u55, u56, u11, u12, by simp only [Act.put, List.setIfInBounds_toArray, List.set_cons_zero, List.set_cons_succ], HS.out, (fun h => by first | rfl | exact P0.out (by simpa using h)), (fun h => by first | rfl | exact P1.out (by simpa using h)), (fun h => by first | rfl | exact P2.out (by simpa using h)), (fun h => by first | rfl | exact P3.out (by simpa using h)), (fun h => by first | rfl | exact P4.out (by simpa using h)), (fun h => by first | rfl | exact P5.out (by simpa using h)), (fun h => by first | rfl | exact P6.out (by simpa using h)), (fun h => by first | rfl | exact P7.out (by simpa using h)), (fun _ => rfl), (fun h => by first | rfl | exact P9.out (by simpa using h)), (fun h => by first | rfl | exact P10.out (by simpa using h)), (fun h => by first | rfl | exact P11.out (by simpa using h)), (fun h => by first | rfl | exact P12.out (by simpa using h)), (fun h => by first | rfl | exact P13.out (by simpa using h)), (fun h => by first | rfl | exact P14.out (by simpa using h)), (fun h => by first | rfl | exact P15.out (by simpa using h))⟩
                · simp only [List.getElem?_toArray, List.getElem?_cons_zero, List.getElem?_cons_succ, Option.some.injEq] at ho
                  subst ho
                  have P0 := Lib.hid p0
                  have P1 := Lib.hid p1
                  have P2 := Lib.hid p2
                  have P3 := Lib.hid p3
                  have P4 := Lib.hid p4
                  have P5 := Lib.hid p5
                  have P6 := Lib.hid p6
                  have P7 := Lib.hid p7
                  have P8 := Lib.hid p8
                  have P9 := Lib.hid p9
                  have P10 := Lib.hid p10
                  have P11 := Lib.hid p11
                  have P12 := Lib.hid p12
                  have P13 := Lib.hid p13
                  have P14 := Lib.hid p14
                  have P15 := Lib.hid p15
                  have HS := Lib.hid hS
                  clear hS hLi hafter p0 p1 p2 p3 p4 p5 p6 p7 p8 p9 p10 p11 p12 p13 p14 p15
                  simp only [Act.put, List.setIfInBounds_toArray, List.set_cons_zero, List.set_cons_succ]
                  go_wp2_with fail
                  exact ⟨u43, u44, u45, u46, u47, u48, u49, u50, u51, .int .i64 (k : Nat), u53, u54, u55, u56, u11, u12, by simp only [Act.put, List.setIfInBounds_toArray, List.set_cons_zero, List.set_cons_succ], HS.out, (fun h => by first | rfl | exact P0.out (by simpa using h)), (fun h => by first | rfl | exact P1.out (by simpa using h)), (fun h => by first | rfl | exact P2.out (by simpa using h)), (fun h => by first | rfl | exact P3.out (by simpa using h)), (fun h => by first | rfl | exact P4.out (by simpa using h)), (fun h => by first | rfl | exact P5.out (by simpa using h)), (fun h => by first | rfl | exact P6.out (by simpa using h)), (fun h => by first | rfl | exact P7.out (by simpa using h)), (fun h => by first | rfl | exact P8.out (by simpa using h)), (fun _ => rfl), (fun h => by first | rfl | exact P10.out (by simpa using h)), (fun h => by first | rfl | exact P11.out (by simpa using h)), (fun h => by first | rfl | exact P12.out (by simpa using h)), (fun h => by first | rfl | exact P13.out (by simpa using h)), (fun h => by first | rfl | exact P14.out (by simpa using h)), (fun h => by first | rfl | exact P15.out (by simpa using h))⟩
                · simp only [List.getElem?_toArray, List.getElem?_cons_zero, List.getElem?_cons_succ, Option.some.injEq] at ho
                  subst ho
                  obtain rfl := p8 (hafter ⟨8, .data⟩ (by simp) rfl)
                  obtain rfl := p9 (hafter ⟨9, .data⟩ (by simp) rfl)
                  have P0 := Lib.hid p0
                  have P1 := Lib.hid p1
                  have P2 := Lib.hid p2
                  have P3 := Lib.hid p3
                  have P4 := Lib.hid p4
                  have P5 := Lib.hid p5
                  have P6 := Lib.hid p6
                  have P7 := Lib.hid p7
                  have P8 := Lib.hid p8
                  have P9 := Lib.hid p9
                  have P10 := Lib.hid p10
                  have P11 := Lib.hid p11
                  have P12 := Lib.hid p12
                  have P13 := Lib.hid p13
                  have P14 := Lib.hid p14
                  have P15 := Lib.hid p15
                  have HS := Lib.hid hS
                  clear hS hLi hafter p0 p1 p2 p3 p4 p5 p6 p7 p8 p9 p10 p11 p12 p13 p14 p15
                  simp only [Act.put, List.setIfInBounds_toArray, List.set_cons_zero, List.set_cons_succ]
                  go_wp2_with fail
                  exact ⟨u43, u44, u45, u46, u47, u48, u49, u50, .slice (some ⟨b, off, none⟩) ne c2, .int .i64 (k : Nat), .pointer (some ⟨b, off + k * 2, none⟩), u54, u55, u56, u11, u12, by simp only [Act.put, List.setIfInBounds_toArray, List.set_cons_zero, List.set_cons_succ], HS.out, (fun h => by first | rfl | exact P0.out (by simpa using h)), (fun h => by first | rfl | exact P1.out (by simpa using h)), (fun h => by first | rfl | exact P2.out (by simpa using h)), (fun h => by first | rfl | exact P3.out (by simpa using h)), (fun h => by first | rfl | exact P4.out (by simpa using h)), (fun h => by first | rfl | exact P5.out (by simpa using h)), (fun h => by first | rfl | exact P6.out (by simpa using h)), (fun h => by first | rfl | exact P7.out (by simpa using h)), (fun h => by first | rfl | exact P8.out (by simpa using h)), (fun h => by first | rfl | exact P9.out (by simpa using h)), (fun _ => rfl), (fun h => by first | rfl | exact P11.out (by simpa using h)), (fun h => by first | rfl | exact P12.out (by simpa using h)), (fun h => by first | rfl | exact P13.out (by simpa using h)), (fun h => by first | rfl | exact P14.out (by simpa using h)), (fun h => by first | rfl | exact P15.out (by simpa using h))⟩
                · simp only [List.getElem?_toArray, List.getElem?_cons_zero, List.getElem?_cons_succ, Option.some.injEq] at ho
                  subst ho
                  obtain rfl := p10 (hafter ⟨10, .data⟩ (by simp) rfl)
                  have P0 := Lib.hid p0
                  have P1 := Lib.hid p1
                  have P2 := Lib.hid p2
                  have P3 := Lib.hid p3
                  have P4 := Lib.hid p4
                  have P5 := Lib.hid p5
                  have P6 := Lib.hid p6
                  have P7 := Lib.hid p7
                  have P8 := Lib.hid p8
                  have P9 := Lib.hid p9
                  have P10 := Lib.hid p10
                  have P11 := Lib.hid p11
                  have P12 := Lib.hid p12
                  have P13 := Lib.hid p13
                  have P14 := Lib.hid p14
                  have P15 := Lib.hid p15
                  have HS := Lib.hid hS
                  clear hS hLi hafter p0 p1 p2 p3 p4 p5 p6 p7 p8 p9 p10 p11 p12 p13 p14 p15
                  simp only [Act.put, List.setIfInBounds_toArray, List.set_cons_zero, List.set_cons_succ]
                  go_wp2_with fail
                  exact ⟨u43, u44, u45, u46, u47, u48, u49, u50, u51, u52, .pointer (some ⟨b, off + k * 2, none⟩), .pointer (some ⟨b, off + k * 2 + 1, none⟩), u55, u56, u11, u12, by simp only [Act.put, List.setIfInBounds_toArray, List.set_cons_zero, List.set_cons_succ], HS.out, (fun h => by first | rfl | exact P0.out (by simpa using h)), (fun h => by first | rfl | exact P1.out (by simpa using h)), (fun h => by first | rfl | exact P2.out (by simpa using h)), (fun h => by first | rfl | exact P3.out (by simpa using h)), (fun h => by first | rfl | exact P4.out (by simpa using h)), (fun h => by first | rfl | exact P5.out (by simpa using h)), (fun h => by first | rfl | exact P6.out (by simpa using h)), (fun h => by first | rfl | exact P7.out (by simpa using h)), (fun h => by first | rfl | exact P8.out (by simpa using h)), (fun h => by first | rfl | exact P9.out (by simpa using h)), (fun h => by first | rfl | exact P10.out (by simpa using h)), (fun _ => rfl), (fun h => by first | rfl | exact P12.out (by simpa using h)), (fun h => by first | rfl | exact P13.out (by simpa using h)), (fun h => by first | rfl | exact P14.out (by simpa using h)), (fun h => by first | rfl | exact P15.out (by simpa using h))⟩
                · simp only [List.getElem?_toArray, List.getElem?_cons_zero, List.getElem?_cons_succ, Option.some.injEq] at ho
                  subst ho
                  obtain rfl := p11 (hafter ⟨11, .data⟩ (by simp) rfl)
                  have c0 := cell_mono g1 hS.1
                  have P0 := Lib.hid p0
                  have P1 := Lib.hid p1
                  have P2 := Lib.hid p2
                  have P3 := Lib.hid p3
                  have P4 := Lib.hid p4
                  have P5 := Lib.hid p5
                  have P6 := Lib.hid p6
                  have P7 := Lib.hid p7
                  have P8 := Lib.hid p8
                  have P9 := Lib.hid p9
                  have P10 := Lib.hid p10
                  have P11 := Lib.hid p11
                  have P12 := Lib.hid p12
                  have P13 := Lib.hid p13
                  have P14 := Lib.hid p14
                  have P15 := Lib.hid p15
                  have HS := Lib.hid hS
                  clear hS hLi hafter p0 p1 p2 p3 p4 p5 p6 p7 p8 p9 p10 p11 p12 p13 p14 p15
                  simp only [Act.put, List.setIfInBounds_toArray, List.set_cons_zero, List.set_cons_succ]
                  go_wp2_with fail
                  exact ⟨u43, u44, u45, u46, u47, u48, u49, u50, u51, u52, u53, .pointer (some ⟨b, off + k * 2 + 1, none⟩), .int .i64 p2, u56, u11, u12, by simp only [Act.put, List.setIfInBounds_toArray, List.set_cons_zero, List.set_cons_succ], HS.out, (fun h => by first | rfl | exact P0.out (by simpa using h)), (fun h => by first | rfl | exact P1.out (by simpa using h)), (fun h => by first | rfl | exact P2.out (by simpa using h)), (fun h => by first | rfl | exact P3.out (by simpa using h)), (fun h => by first | rfl | exact P4.out (by simpa using h)), (fun h => by first | rfl | exact P5.out (by simpa using h)), (fun h => by first | rfl | exact P6.out (by simpa using h)), (fun h => by first | rfl | exact P7.out (by simpa using h)), (fun h => by first | rfl | exact P8.out (by simpa using h)), (fun h => by first | rfl | exact P9.out (by simpa using h)), (fun h => by first | rfl | exact P10.out (by simpa using h)), (fun h => by first | rfl | exact P11.out (by simpa using h)), (fun _ => rfl), (fun h => by first | rfl | exact P13.out (by simpa using h)), (fun h => by first | rfl | exact P14.out (by simpa using h)), (fun h => by first | rfl | exact P15.out (by simpa using h))⟩
                · simp only [List.getElem?_toArray, List.getElem?_cons_zero, List.getElem?_cons_succ, Option.some.injEq] at ho
                  subst ho
                  obtain rfl := p7 (hafter ⟨7, .data⟩ (by simp) rfl)
                  obtain rfl := p12 (hafter ⟨12, .data⟩ (by simp) rfl)
                  have P0 := Lib.hid p0
                  have P1 := Lib.hid p1
                  have P2 := Lib.hid p2
                  have P3 := Lib.hid p3
                  have P4 := Lib.hid p4
                  have P5 := Lib.hid p5
                  have P6 := Lib.hid p6
                  have P7 := Lib.hid p7
                  have P8 := Lib.hid p8
                  have P9 := Lib.hid p9
                  have P10 := Lib.hid p10
                  have P11 := Lib.hid p11
                  have P12 := Lib.hid p12
                  have P13 := Lib.hid p13
                  have P14 := Lib.hid p14
                  have P15 := Lib.hid p15
                  have HS := Lib.hid hS
                  clear hS hLi hafter p0 p1 p2 p3 p4 p5 p6 p7 p8 p9 p10 p11 p12 p13 p14 p15
                  simp only [Act.put, List.setIfInBounds_toArray, List.set_cons_zero, List.set_cons_succ]
                  go_wp2_with fail
                  refine (xindex_any _ _ _ D p2 _ (HZ1.out.below HS.out.1) ib HIB.out).mono ?_
                  rintro e wn ⟨rfl, hwn⟩
                  obtain rfl := hwn
                  go_wp2_with fail
                  exact ⟨u43, u44, u45, u46, u47, u48, u49, .slice a1 q c1, u51, u52, u53, u54, .int .i64 p2, .int .i64 (ib : Nat), u11, u12, by simp only [Act.put, List.setIfInBounds_toArray, List.set_cons_zero, List.set_cons_succ], HS.out, (fun h => by first | rfl | exact P0.out (by simpa using h)), (fun h => by first | rfl | exact P1.out (by simpa using h)), (fun h => by first | rfl | exact P2.out (by simpa using h)), (fun h => by first | rfl | exact P3.out (by simpa using h)), (fun h => by first | rfl | exact P4.out (by simpa using h)), (fun h => by first | rfl | exact P5.out (by simpa using h)), (fun h => by first | rfl | exact P6.out (by simpa using h)), (fun h => by first | rfl | exact P7.out (by simpa using h)), (fun h => by first | rfl | exact P8.out (by simpa using h)), (fun h => by first | rfl | exact P9.out (by simpa using h)), (fun h => by first | rfl | exact P10.out (by simpa using h)), (fun h => by first | rfl | exact P11.out (by simpa using h)), (fun h => by first | rfl | exact P12.out (by simpa using h)), (fun _ => rfl), (fun h => by first | rfl | exact P14.out (by simpa using h)), (fun h => by first | rfl | exact P15.out (by simpa using h))⟩
                · simp only [List.getElem?_toArray, List.getElem?_cons_zero, List.getElem?_cons_succ, Option.some.injEq] at ho
                  subst ho
                  obtain rfl := p6 (hafter ⟨6, .data⟩ (by simp) rfl)
                  have P0 := Lib.hid p0
                  have P1 := Lib.hid p1
                  have P2 := Lib.hid p2
                  have P3 := Lib.hid p3
                  have P4 := Lib.hid p4
                  have P5 := Lib.hid p5
                  have P6 := Lib.hid p6
                  have P7 := Lib.hid p7
                  have P8 := Lib.hid p8
                  have P9 := Lib.hid p9
                  have P10 := Lib.hid p10
                  have P11 := Lib.hid p11
                  have P12 := Lib.hid p12
                  have P13 := Lib.hid p13
                  have P14 := Lib.hid p14
                  have P15 := Lib.hid p15
                  have HS := Lib.hid hS
                  clear hS hLi hafter p0 p1 p2 p3 p4 p5 p6 p7 p8 p9 p10 p11 p12 p13 p14 p15
                  simp only [Act.put, List.setIfInBounds_toArray, List.set_cons_zero, List.set_cons_succ]
                  go_wp2_with fail
                  exact ⟨u43, u44, u45, u46, u47, u48, .int .i64 (ia : Nat), u50, u51, u52, u53, u54, u55, u56, .int .i64 (ia : Nat), u12, by simp only [Act.put, List.setIfInBounds_toArray, List.set_cons_zero, List.set_cons_succ], HS.out, (fun h => by first | rfl | exact P0.out (by simpa using h)), (fun h => by first | rfl | exact P1.out (by simpa using h)), (fun h => by first | rfl | exact P2.out (by simpa using h)), (fun h => by first | rfl | exact P3.out (by simpa using h)), (fun h => by first | rfl | exact P4.out (by simpa using h)), (fun h => by first | rfl | exact P5.out (by simpa using h)), (fun h => by first | rfl | exact P6.out (by simpa using h)), (fun h => by first | rfl | exact P7.out (by simpa using h)), (fun h => by first | rfl | exact P8.out (by simpa using h)), (fun h => by first | rfl | exact P9.out (by simpa using h)), (fun h => by first | rfl | exact P10.out (by simpa using h)), (fun h => by first | rfl | exact P11.out (by simpa using h)), (fun h => by first | rfl | exact P12.out (by simpa using h)), (fun h => by first | rfl | exact P13.out (by simpa using h)), (fun _ => rfl), (fun h => by first | rfl | exact P15.out (by simpa using h))⟩
                · simp only [List.getElem?_toArray, List.getElem?_cons_zero, List.getElem?_cons_succ, Option.some.injEq] at ho
                  subst ho
                  obtain rfl := p13 (hafter ⟨13, .data⟩ (by simp) rfl)
                  have P0 := Lib.hid p0
                  have P1 := Lib.hid p1
                  have P2 := Lib.hid p2
                  have P3 := Lib.hid p3
                  have P4 := Lib.hid p4
                  have P5 := Lib.hid p5
                  have P6 := Lib.hid p6
                  have P7 := Lib.hid p7
                  have P8 := Lib.hid p8
                  have P9 := Lib.hid p9
                  have P10 := Lib.hid p10
                  have P11 := Lib.hid p11
                  have P12 := Lib.hid p12
                  have P13 := Lib.hid p13
                  have P14 := Lib.hid p14
                  have P15 := Lib.hid p15
                  have HS := Lib.hid hS
                  clear hS hLi hafter p0 p1 p2 p3 p4 p5 p6 p7 p8 p9 p10 p11 p12 p13 p14 p15
                  simp only [Act.put, List.setIfInBounds_toArray, List.set_cons_zero, List.set_cons_succ]
                  go_wp2_with fail
                  exact ⟨u43, u44, u45, u46, u47, u48, u49, u50, u51, u52, u53, u54, u55, .int .i64 (ib : Nat), u11, .int .i64 (ib : Nat), by simp only [Act.put, List.setIfInBounds_toArray, List.set_cons_zero, List.set_cons_succ], HS.out, (fun h => by first | rfl | exact P0.out (by simpa using h)), (fun h => by first | rfl | exact P1.out (by simpa using h)), (fun h => by first | rfl | exact P2.out (by simpa using h)), (fun h => by first | rfl | exact P3.out (by simpa using h)), (fun h => by first | rfl | exact P4.out (by simpa using h)), (fun h => by first | rfl | exact P5.out (by simpa using h)), (fun h => by first | rfl | exact P6.out (by simpa using h)), (fun h => by first | rfl | exact P7.out (by simpa using h)), (fun h => by first | rfl | exact P8.out (by simpa using h)), (fun h => by first | rfl | exact P9.out (by simpa using h)), (fun h => by first | rfl | exact P10.out (by simpa using h)), (fun h => by first | rfl | exact P11.out (by simpa using h)), (fun h => by first | rfl | exact P12.out (by simpa using h)), (fun h => by first | rfl | exact P13.out (by simpa using h)), (fun h => by first | rfl | exact P14.out (by simpa using h)), (fun _ => rfl)⟩
              · intro Ls a0 wq hall hJ
                obtain ⟨u43, u44, u45, u46, u47, u48, u49, u50, u51, u52, u53, u54, u55, u56, u11, u12, rfl, hS, p0, p1, p2, p3, p4, p5, p6, p7, p8, p9, p10, p11, p12, p13, p14, p15⟩ := hJ
                replace p0 := p0 (hall 0 (by decide))
                replace p1 := p1 (hall 1 (by decide))
                replace p2 := p2 (hall 2 (by decide))
                replace p3 := p3 (hall 3 (by decide))
                replace p4 := p4 (hall 4 (by decide))
                replace p5 := p5 (hall 5 (by decide))
                replace p6 := p6 (hall 6 (by decide))
                replace p7 := p7 (hall 7 (by decide))
                replace p8 := p8 (hall 8 (by decide))
                replace p9 := p9 (hall 9 (by decide))
                replace p10 := p10 (hall 10 (by decide))
                replace p11 := p11 (hall 11 (by decide))
                replace p12 := p12 (hall 12 (by decide))
                replace p13 := p13 (hall 13 (by decide))
                replace p14 := p14 (hall 14 (by decide))
                replace p15 := p15 (hall 15 (by decide))
                have HO7 := Lib.hid (HO6.out.below hS.1)
                have HB7 := Lib.hid (HB6.out.trans (hS.1.mono hs6))
                have hs7 := HB7.out.size
                subst p14 p15
                clear hall hS g0 g1 p0 p1 p2 p3 p4 p5 p6 p7 p8 p9 p10 p11 p12 p13
                obtain ⟨la, hla⟩ : ∃ l, lab2 ia = l := ⟨_, rfl⟩
                obtain ⟨lb, hlb⟩ : ∃ l, lab2 ib = l := ⟨_, rfl⟩
                have HLA := Lib.hid hla
                have HLBB := Lib.hid hlb
                clear hla hlb
                obtain ⟨g3, fz⟩ := ow_cell HO7.out (j := ia) (x := (la : Int)) (by rw [labL_len]; exact hia2) (by rw [labL_get hia2, HLA.out])
                obtain ⟨g4, _⟩ := ow_cell HO7.out (j := ib) (x := (lb : Int)) (by rw [labL_len]; exact hib2) (by rw [labL_get hib2, HLBB.out])
                have x0 : (0 : Int) ≤ (ia : Int) := by omega
                have x1 : (ia : Int) < (q : Int) := by omega
                have x2 : (0 : Int) ≤ (ib : Int) := by omega
                have x3 : (ib : Int) < (q : Int) := by omega
                simp only [Act.put, List.setIfInBounds_toArray, List.set_cons_zero, List.set_cons_succ]
                by_cases hll : la = lb
                · have hee : ((la : Int) != (lb : Int)) = false := by simp [hll]
                  have HLL := Lib.hid hll
                  clear hll
                  go_wp2_with fail
                  go_region_o
                  go_wp2_with fail
                  go_roundw
                  case rel => exact ⟨k + 1, c2', lab2, by omega, by go_num, rfl, HL2, by first | exact HO7.out.below (bel_drewN _ _) | exact HO7.out, by first | exact below_drewN HB7.out _ | exact HB7.out, Lib.hid (fun h => ⟨(HF2.out h).1, fun p hp => by rw [take_snoc hkE, HPQ.out] at hp; rcases List.mem_append.1 hp with hp | hp; (· exact (HF2.out h).2 p hp); (· rw [List.mem_singleton] at hp; subst hp; simp only; rw [HIA.out, HIB.out, ← (HF2.out h).1, HLA.out, HLBB.out]; exact HLL.out)⟩), HT2, HS2⟩
                  case measure => simp [intOf]; omega
                · have hee : ((la : Int) != (lb : Int)) = true := by simp; omega
                  have HLL := Lib.hid hll
                  obtain ⟨mm, hmm⟩ : ∃ m, min la lb = m := ⟨_, rfl⟩
                  have HMM := Lib.hid hmm
                  have hmi : min (la : Int) (lb : Int) = (mm : Int) := by omega
                  clear hmm hll
                  have hiab : ¬ ia = ib := fun e => HLL.out (by rw [← HLA.out, ← HLBB.out, e])
                  have hiba : ¬ ib = ia := fun e => hiab e.symm
                  go_wp2_with fail
                  go_region_o
                  go_wp2_with fail
                  go_big_region_o
                  go_upto_region 17 with fail
                  refine block_nameP fun W2 hW => ?_
                  have HBw2 := Lib.hid (show Below wq.heap.size wq W2 by rw [← hW]; (repeat' (first | with_reducible exact Below.refl _ _ | (with_reducible refine Below.alloc ?_ ?_ _; rotate_left; (focus (first | omega | (simp; done) | (simp; omega)))) | with_reducible apply Below.drew | (with_reducible refine Below.setCell ?_ ?_ _; rotate_left; (focus (first | omega | (simp; done) | (simp; omega)))))))
                  clear hW
                  replace HO7 := Lib.hid (HO7.out.below HBw2.out)
                  replace HB7 := Lib.hid (HB7.out.trans (HBw2.out.mono hs7))
                  replace hs7 := HB7.out.size
                  clear g3 g4 fz
                  obtain ⟨g3, fz⟩ := ow_cell HO7.out (j := ia) (x := (la : Int)) (by rw [labL_len]; exact hia2) (by rw [labL_get hia2, HLA.out])
                  obtain ⟨g4, _⟩ := ow_cell HO7.out (j := ib) (x := (lb : Int)) (by rw [labL_len]; exact hib2) (by rw [labL_get hib2, HLBB.out])
                  go_wp2_with fail
                  go_roundw
                  case rel => exact ⟨k + 1, true, upN (upN lab2 ia mm) ib mm, by omega, by go_num, rfl, Lib.hid (HL2.out.step (by rw [HND.out]; exact hia2) (by rw [HND.out]; exact hib2) HPE.out (by rw [HLA.out, HLBB.out]; exact HMM.out)), by rw [← labL_set, ← labL_set]; exact Ow.set (Ow.set HO7.out _ _) _ _, HB7.out.grown (gr_set (gr_set (gr_refl _ (some w2.heap.size)) _ _) _ _) hs7 (fun j hj => by cases hj; exact Nat.le_refl _), Lib.hid (fun h => by cases h), Lib.hid (fun _ => Nat.lt_of_lt_of_le (up_sum hia2 hib2 (by rw [HLA.out, HLBB.out]; exact HLL.out) (by rw [HLA.out, HLBB.out]; exact HMM.out)) HS2.out), Lib.hid (Nat.le_trans (Nat.le_of_lt (up_sum hia2 hib2 (by rw [HLA.out, HLBB.out]; exact HLL.out) (by rw [HLA.out, HLBB.out]; exact HMM.out))) HS2.out)⟩
                  case measure => simp [intOf]; omega
            · obtain rfl : k = ne := by omega
              clear hbel
              go_wp2_with fail
              go_roundg (sumN q lab2 + (if c2' = true then 1 else 0))
              case measure => have h1 := HGG.out; have h2 := HS2.out; cases c2' <;> simp at h1 ⊢; (· omega); (· have := HT2.out rfl; omega)
              case rel => exact ⟨c2', lab2, rfl, HL2, HO6.out, HB6.out, Nat.le_refl _, Lib.hid (fun h => by obtain ⟨h1, h2⟩ := HF2.out h; rw [h1]; intro p hp; exact h2 p (by rw [List.take_of_length_le (by rw [HNE.out]; exact Nat.le_refl _)]; exact hp))⟩

set_option maxRecDepth 20000 in
set_option maxHeartbeats 4000000 in
theorem egroups_walk (a : Option Addr) (n cap : Nat) (L : List (Int × Int)) (ia : Option Addr) (m ic : Nat) (ids : List Int) (w : World) (h : Pr w a n cap L) (hL64 : ∀ p ∈ L, W64 p.1 ∧ W64 p.2) (hz : Zl w ia m ic ids) (h64 : ∀ y ∈ ids, W64 y) (hn : n ≤ 549755813888) (hm : m ≤ 549755813888) :
    Calls Try.prog 6 #[.slice a n cap, .slice ia m ic] w fun e w' => e = .returned (.bool true) ∧ Below w.heap.size w w' := by
  have HPL := Lib.hid h
  have HZ := Lib.hid hz
  have HL64 := Lib.hid hL64
  have H64 := Lib.hid h64
  clear h hz hL64 h64
  have HB := Lib.hid (Below.refl w.heap.size w)
  go_enter Try.func6, Try.ntmps6
  go_wp2_with fail
  refine (groups_any _ _ _ L _ _ _ ids _ HPL.out HL64.out HZ.out H64.out (by omega) (by omega)).mono ?_
  rintro e w1 ⟨v1, G, rfl, hG, hgn, hb⟩
  obtain ⟨a1, c1, rfl, hgl⟩ := hgn.gl
  clear hgn
  have HG1 := Lib.hid hgl
  replace HPL := Lib.hid (HPL.out.below hb)
  replace HZ := Lib.hid (HZ.out.below hb)
  replace HB := Lib.hid (HB.out.trans (hb.mono HB.out.size))
  clear hb hgl
  have HGG := Lib.hid hG
  clear hG
  go_wp2_with fail
  refine (xgroups_any _ _ _ L _ _ _ ids _ HPL.out HZ.out (by omega) (by omega)).mono ?_
  rintro e w2 ⟨v2, G2, rfl, hG, hgn, hb⟩
  obtain ⟨a2, c2, rfl, hgl⟩ := hgn.gl
  clear hgn
  have HG2 := Lib.hid hgl
  replace HPL := Lib.hid (HPL.out.below hb)
  replace HZ := Lib.hid (HZ.out.below hb)
  replace HG1 := Lib.hid (HG1.out.below hb)
  replace HB := Lib.hid (HB.out.trans (hb.mono HB.out.size))
  clear hb hgl
  obtain rfl := HGG.out.unique hG
  clear hG
  go_wp2_with fail
  refine (sameg_any _ _ _ _ _ G _ HG1.out HG2.out).mono ?_
  rintro e w3 ⟨rfl, hb⟩
  replace HPL := Lib.hid (HPL.out.below hb)
  replace HZ := Lib.hid (HZ.out.below hb)
  replace HG1 := Lib.hid (HG1.out.below hb)
  replace HG2 := Lib.hid (HG2.out.below hb)
  replace HB := Lib.hid (HB.out.trans (hb.mono HB.out.size))
  clear hb
  go_wp2_with fail
  refine (awake_any _).mono ?_
  rintro e w4 ⟨rfl, hb⟩
  replace HPL := Lib.hid (HPL.out.below hb)
  replace HZ := Lib.hid (HZ.out.below hb)
  replace HG1 := Lib.hid (HG1.out.below hb)
  replace HG2 := Lib.hid (HG2.out.below hb)
  replace HB := Lib.hid (HB.out.trans (hb.mono HB.out.size))
  clear hb
  go_wp2_with fail
  go_ret
  exact ⟨rfl, HB.out⟩

end Go.Proofs.Ytonnbcongnkcdaa
