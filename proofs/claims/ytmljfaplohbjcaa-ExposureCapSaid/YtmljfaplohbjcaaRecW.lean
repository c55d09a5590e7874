/- Contract of exposure.Record: the uses after a test, in normal form, or the error. Conditions: lists of at most 2^40 elements. -/
import Derived.Test.YtmljfaplohbjcaaRecP
import Derived.Test.YtmljfaplohbjcaaSlP
import Derived.Test.YtmljfaplohbjcaaMpR
import Derived.Test.YtmljfaplohbjcaaShelfS
namespace Go.Proofs.Ytmljfaplohbjcaa
open Go.RowKit

theorem infoUseE : (Try.prog.info? 28).map (fun i => (i.zero, i.size, i.bytes)) = some (some (.agg #[.int .i64 0, .int .i64 0]), 2, 16) := by kernel_rfl
theorem underUsesE : Try.prog.underlying 22 = some (.slice 28) := by kernel_rfl
def cfU (x y : Int × Int) : Int := Lib.compareInt x.1 y.1
theorem cfU_lt (x y : Int × Int) : ltOf cfU x y = decide (x.1 < y.1) := by
  unfold ltOf cfU Lib.compareInt
  by_cases h1 : x.1 < y.1
  · simp [h1]
  · by_cases h2 : y.1 < x.1 <;> simp [h1, h2]
theorem cfU_swo : Go.Sort.SWO (ltOf cfU) where
  irrefl x := by rw [cfU_lt]; simp
  trans x y z h1 h2 := by rw [cfU_lt] at *; simp at *; omega
  ntrans x y z h1 h2 := by rw [cfU_lt] at *; simp at *; omega
theorem Rg.left_eq {P : Program} {K E : TypeId} {w : World} {b r n cnt : Nat} {f : Int → Int} {left : Int → Bool} (h : Rg P K E w b r n f left cnt) : w.rangeLeft b r = cnt := by obtain ⟨D, lf, h, _⟩ := h; exact h.left_eq
set_option maxHeartbeats 1000000 in
theorem cmpU_any (x y : Int × Int) (W : World) : Calls Try.prog 20 #[.agg #[.int .i64 x.1, .int .i64 x.2], .agg #[.int .i64 y.1, .int .i64 y.2]] W fun e w' => e = .returned (.int .i64 (cfU x y)) ∧ ∃ q os', w' = Go.Sort.grow (W.drewN q) os' := by
  have hcon := fun W' => Try.cmp_Compare_int x.1 y.1 W'
  unfold cfU
  generalize Lib.compareInt x.1 y.1 = r at hcon ⊢
  go_enter Try.func20, Try.ntmps20
  go_wp2_with (go_at_call 21; refine (hcon _).mono ?_; rintro e w' ⟨rfl, rfl⟩)
  go_ret
  exact ⟨rfl, 0, _, by rw [Go.Sort.alloc_eq_grow, Go.Sort.alloc_eq_grow, Go.Sort.grow_grow]; rfl⟩
theorem sortU_own {B : Nat} {E : TypeId} (v : Value) (zs : List (Int × Int)) (w : World) (h : Op2 B E w v zs) (hl : zs.length < 4611686018427387904) :
    Calls Try.prog 19 #[v, .func (.func 20) #[] #[]] w fun e w' => e = .returned (.tuple #[]) ∧ ∃ zs', Op2 B E w' v zs' ∧ zs'.Perm zs ∧ (zs'.Pairwise fun x y => ¬ y.1 < x.1) ∧ w.grownBy w' v.ownBlock := by
  refine (sortP_own (P := Try.prog) Try.sortStruct Try.isAgg28 Try.sizeOf28 cfU cfU_swo 20 (enters_of Try.func20 (by kernel_rfl) rfl) cmpU_any v zs w h hl).mono fun e w' he => ?_
  obtain ⟨rfl, zs', h1, h2, h3, h4⟩ := he
  exact ⟨rfl, zs', h1, h2, h3.imp fun h => by rw [cfU_lt] at h; simpa using h, h4⟩
/-- the slice v holds the uses L -/
def Ul (w : World) (v : Value) (L : List (Int × Int)) : Prop := ∃ a cap, v = .slice a L.length cap ∧ Us w a L.length cap (fun j => (L.getD j (0, 0)).1) (fun j => (L.getD j (0, 0)).2)
theorem Op2.ul {B : Nat} {E : TypeId} {w : World} {v : Value} {L : List (Int × Int)} (h : Op2 B E w v L) : Ul w v L := by
  rcases h.open with ⟨rfl, rfl⟩ | ⟨g, cap, rfl, _, _, hc, hm, hx⟩
  · exact ⟨none, 0, rfl, Nat.le_refl _, Nat.zero_le _, fun h => absurd h (by simp)⟩
  · exact ⟨_, cap, rfl, hc, hm, fun _ => ⟨g, 0, rfl, fun j hj => by rw [Nat.zero_add]; exact hx j hj⟩⟩
theorem Ul.below {w w' : World} {v : Value} {L : List (Int × Int)} (h : Ul w v L) (hb : Below w.heap.size w w') : Ul w' v L := by
  obtain ⟨a, cap, e, h⟩ := h
  exact ⟨a, cap, e, h.below hb⟩
def RecPost (z : Nat → Int) (m : Nat) (F : Int → Int) (e : Ending) (w' : World) : Prop :=
  (¬ NoD z m ∧ e = .returned (.tuple #[.slice none 0 0, .int .i64 7])) ∨ (NoD z m ∧ ¬ InR z m ∧ e = .returned (.tuple #[.slice none 0 0, .int .i64 3])) ∨
  (NoD z m ∧ InR z m ∧ ∃ v L, e = .returned (.tuple #[v, .int .i64 0]) ∧ Ul w' v L ∧ RecL F L)
theorem cell_two (w : World) (g : Nat) (hg : g = w.heap.size) (x y : Value) (T : TypeId) : ∀ (j : Nat) (u : Value), [x, y][j]? = some u → (w.alloc (.cells #[x, y] T)).cell? ((⟨g, 0, none⟩ : Addr).add j) = some u := by
  subst hg
  intro j u hj
  rcases j with _ | _ | j
  · simp at hj; subst hj; simp [Addr.add]
  · simp at hj; subst hj; simp [Addr.add]
  · simp at hj
theorem inR_succ {z : Nat → Int} {j : Nat} {x : Int} (h : ∀ y, y < j → 1 ≤ z y ∧ z y ≤ 9999999) (hx : z j = x) (h2 : 1 ≤ x ∧ x ≤ 9999999) : ∀ y, y < j + 1 → 1 ≤ z y ∧ z y ≤ 9999999 := fun y hy => by
  by_cases e : y = j
  · subst e; rw [hx]; exact h2
  · exact h y (by omega)
theorem ownNe {B s b : Nat} {o : Option Nat} (h : ∀ k, o = some k → B ≤ k ∧ k < s) (hb : b < B) : some b ≠ o := fun e => by have := (h b e.symm).1; omega
theorem ownNone {r s : Nat} {o : Option Nat} (h : ∀ k, o = some k → r + 1 ≤ k ∧ k < s) : o = none ∨ o ≠ some r := by
  cases o with
  | none => exact .inl rfl
  | some k => exact .inr fun e => by have := (h k rfl).1; cases e; omega

set_option maxRecDepth 20000 in
set_option maxHeartbeats 8000000 in
theorem record_any (ua : Option Addr) (n uc : Nat) (it ct : Nat → Int) (ia : Option Addr) (m ic : Nat) (z : Nat → Int) (w : World) (hu : Us w ua n uc it ct) (hu64 : ∀ i, i < n → W64 (it i)) (hz : Zs w ia m ic z) (h64 : ∀ i, i < m → W64 (z i)) (hn : n ≤ 1099511627776) (hm : m ≤ 1099511627776) :
    Calls Try.prog 6 #[.slice ua n uc, .slice ia m ic] w fun e w' => RecPost z m (recF (cntF it ct n) z m) e w' ∧ Below w.heap.size w w' := by
  have HU := Lib.hid hu
  have HZ := Lib.hid hz
  have b1 := hu.1
  have b2 := hu.2.1
  have b3 := hz.1
  have b4 := hz.2.1
  have hnm : n < maxLen := by unfold maxLen; omega
  unfold maxLen at b2 b4
  clear hu hz
  have hmm := @run_makeMap Try.prog
  obtain ⟨i0, hi, hzz⟩ := Option.map_eq_some_iff.1 infoUseE
  simp only [Prod.mk.injEq] at hzz
  obtain ⟨hz0, hz1, hz2⟩ := hzz
  go_enter Try.func6, Try.ntmps6
  go_wp2_with fail
  go_loopw [8, 20] (fun _ i wr => ∃ k : Nat, k ≤ m ∧ i = .int .i64 k ∧ Mb Try.prog 3 4 wr w.heap.size k (hasB z k) ∧ Below w.heap.size w wr ∧ Hid (NoD z k)) (fun _ i _ => m - (intOf i).toNat)
  case atStart => exact ⟨0, Nat.zero_le _, rfl, Mb.made w, bel1 _ _, Lib.hid (fun i j _ h => by omega)⟩
  case round =>
    obtain ⟨k, hk, rfl, hm1, hbel, hnd⟩ := hrel
    have HM := Lib.hid hm1
    have HB := Lib.hid hbel
    have hs0 := hbel.size
    clear hm1
    by_cases hkm : k < m
    · obtain ⟨b, off, rfl, hc⟩ := (HZ.out.below hbel).2.2 (by omega)
      have g0 := hc k hkm
      obtain ⟨x, hx⟩ : ∃ x, z k = x := ⟨_, rfl⟩
      rw [hx] at g0
      have HX := Lib.hid hx
      have HX64 := Lib.hid (show W64 x by rw [← hx]; exact h64 k hkm)
      clear hc hx
      have hix0 : (0 : Int) ≤ (k : Int) := by omega
      have hix1 : (k : Int) < (m : Int) := by omega
      clear hbel
      have hkx : k < maxLen := by unfold maxLen; omega
      obtain ⟨hb, hhb⟩ : ∃ y, hasB z k x = y := ⟨_, rfl⟩
      have HV := Lib.hid hhb
      clear hhb
      rcases Bool.eq_false_or_eq_true hb with h0 | h0
      · subst h0
        go_wp2_with (at_lookup; refine wp_look_b _ rfl _ _ rfl mtB w.heap.size _ _ rfl HM.out x true rfl HX64.out HV.out ?_)
        go_ret2
        exact ⟨.inl ⟨NoD.not hkm HX.out HV.out, rfl⟩, HB.out⟩
      · subst h0
        go_wp2_with (first | (at_lookup; refine wp_look_b _ rfl _ _ rfl mtB w.heap.size _ _ rfl HM.out x false rfl HX64.out HV.out ?_) | (at_mapUpdate; refine wp_put_b _ rfl _ _ _ rfl mtB w.heap.size _ _ rfl HM.out hkx x true rfl HX64.out rfl ?_; intro w2 hm2 hg2; have HM2 := Lib.hid hm2; have HB2 := Lib.hid (HB.out.grown hg2 hs0 (fun j hj => by cases hj; exact Nat.le_refl _)); clear hm2 hg2))
        go_roundw
        case rel => exact ⟨k + 1, by omega, by go_num, HM2.out.congr (Nat.le_refl _) (fun y _ => hasB_up HX.out y), HB2.out, Lib.hid (hnd.out.succ HX.out HV.out)⟩
        case measure => simp [intOf]; omega
    · obtain rfl : k = m := by omega
      have HZ2 := Lib.hid (HZ.out.below hbel)
      have HU2 := Lib.hid (HU.out.below hbel)
      clear hbel HM
      obtain ⟨WB, rfl⟩ : ∃ x : World, x = wr := ⟨_, rfl⟩
      go_wp2_with fail
      go_loopw [10, 32] (fun _ i wr => ∃ j : Nat, j ≤ k ∧ i = .int .i64 j ∧ Hid (∀ y, y < j → 1 ≤ z y ∧ z y ≤ 9999999) ∧ WB = wr) (fun _ i _ => k - (intOf i).toNat)
      case atStart => exact ⟨0, Nat.zero_le _, rfl, Lib.hid (fun y h => by omega), rfl⟩
      case round =>
        obtain ⟨j, hj, rfl, hin, rfl⟩ := hrel
        by_cases hjm : j < k
        · obtain ⟨b, off, rfl, hc⟩ := HZ2.out.2.2 (by omega)
          have g0 := hc j hjm
          obtain ⟨x, hx⟩ : ∃ x, z j = x := ⟨_, rfl⟩
          rw [hx] at g0
          have HX := Lib.hid hx
          have HX64 := Lib.hid (show W64 x by rw [← hx]; exact h64 j hjm)
          clear hc hx
          have hix0 : (0 : Int) ≤ (j : Int) := by omega
          have hix1 : (j : Int) < (k : Int) := by omega
          by_cases h1 : x < 1
          · go_wp2_with fail
            go_ret2
            exact ⟨.inr (.inl ⟨hnd.out, fun h => by have := h j hjm; rw [HX.out] at this; omega, rfl⟩), HB.out⟩
          · by_cases h2 : 9999999 < x
            · go_wp2_with fail
              go_ret2
              exact ⟨.inr (.inl ⟨hnd.out, fun h => by have := h j hjm; rw [HX.out] at this; omega, rfl⟩), HB.out⟩
            · go_wp2_with fail
              go_roundw
              case rel => exact ⟨j + 1, by omega, by go_num, Lib.hid (inR_succ hin.out HX.out (by omega)), by first | rfl | trivial⟩
              case measure => simp [intOf]; omega
        · obtain rfl : j = k := by omega
          go_wp2_with fail
          refine (counts_any _ _ _ _ _ _ HU2.out hu64 hnm).mono ?_
          rintro e w3 ⟨bm, rfl, hbm, hm3, hb3⟩
          have HM := Lib.hid hm3
          have HB3 := Lib.hid (HB.out.trans (hb3.mono hs0))
          have HZ3 := Lib.hid (HZ2.out.below hb3)
          have hs3 : w.heap.size ≤ w3.heap.size := HB3.out.size
          have hbm0 : w.heap.size ≤ bm := Nat.le_trans hs0 hbm
          clear hm3 hb3
          go_wp2_with fail
          go_loopw [13, 47] (fun _ i wr => ∃ q : Nat, q ≤ j ∧ i = .int .i64 q ∧ Mi Try.prog 3 3 wr bm (n + q) (recF (cntF it ct n) z q) ∧ Below w.heap.size w wr) (fun _ i _ => j - (intOf i).toNat)
          case atStart => exact ⟨0, Nat.zero_le _, rfl, by rw [recF_start]; exact HM.out, HB3.out⟩
          case round =>
            obtain ⟨q, hq, rfl, hm4, hbel⟩ := hrel
            have HM4 := Lib.hid hm4
            have HB4 := Lib.hid hbel
            have hs4 := hbel.size
            clear hm4
            by_cases hqm : q < j
            · obtain ⟨b, off, rfl, hc⟩ := (HZ.out.below hbel).2.2 (by omega)
              have g0 := hc q hqm
              obtain ⟨x, hx⟩ : ∃ x, z q = x := ⟨_, rfl⟩
              rw [hx] at g0
              have HX := Lib.hid hx
              have HX64 := Lib.hid (show W64 x by rw [← hx]; exact h64 q hqm)
              clear hc hx
              have hix0 : (0 : Int) ≤ (q : Int) := by omega
              have hix1 : (q : Int) < (j : Int) := by omega
              clear hbel
              have hqx : n + q < maxLen := by unfold maxLen; omega
              have HNB := Lib.hid (show hasB z q x = false from hasB_false.2 (fun i hi => by rw [← HX.out]; exact hnd.out i q hi hqm))
              obtain ⟨v, hv⟩ : ∃ v, cntF it ct n x = v := ⟨_, rfl⟩
              have hv2 := cntN_bd it ct x n
              rw [show cntN it ct x n = v from hv] at hv2
              obtain ⟨y, hy⟩ : ∃ y, lim (v + 1) = y := ⟨_, rfl⟩
              have HY := Lib.hid hy
              have HY64 := Lib.hid (show W64 y by rw [← hy]; exact W64.lim _)
              have HV := Lib.hid (show recF (cntF it ct n) z q x = v by rw [recF_at HNB.out]; exact hv)
              have HUP := Lib.hid (recF_up (f := cntF it ct n) HX.out HNB.out (show lim (cntF it ct n x + 1) = y by rw [hv]; exact hy))
              clear hv hy
              obtain ⟨v1, v2⟩ := hv2
              go_wp2_with (at_lookup; refine wp_look_i _ rfl _ _ rfl mtI bm _ _ rfl HM4.out x v rfl HX64.out HV.out ?_)
              refine (limited_any _ _).mono ?_
              rintro e wn ⟨rfl, rfl⟩
              rw [HY.out]
              go_wp2_with (at_mapUpdate; refine wp_put_i _ rfl _ _ _ rfl mtI bm _ _ rfl HM4.out hqx x y rfl HX64.out rfl HY64.out ?_; intro w5 hm5 hg5; have HM5 := Lib.hid hm5; have HB5 := Lib.hid (HB4.out.grown hg5 hs4 (fun j hj => by cases hj; exact hbm0)); clear hm5 hg5)
              go_roundw
              case rel => exact ⟨q + 1, by omega, by go_num, HM5.out.congr (by omega) (fun u _ => HUP.out u), HB5.out⟩
              case measure => simp [intOf]; omega
            · obtain rfl : q = j := by omega
              have hbm1 := HM4.out.lt
              obtain ⟨F, hF⟩ : ∃ F, recF (cntF it ct n) z q = F := ⟨_, rfl⟩
              rw [hF] at HM4
              obtain ⟨r, hr⟩ : ∃ r, wr.heap.size = r := ⟨_, rfl⟩
              have HBW := HB4
              clear hbel
              go_wp2_with (at_range; refine wp_range _ rfl _ rfl mtI bm _ _ rfl HM4.out ?_; intro w6 left0 cnt0 hrg6 hcn6 hlf6 hg6 hs6)
              go_frame
              rw [hr] at hrg6 hs6
              have HRG6 := Lib.hid hrg6
              have HLF6 := Lib.hid hlf6
              have HB6 := Lib.hid (HB4.out.grown hg6 hs4 (fun j hj => by cases hj))
              clear hrg6 hlf6 hg6
              have hr0 : w.heap.size ≤ r := by omega
              have hbr : bm < r := by omega
              rw [hr]
              go_loopw [14, 15, 16] (fun out _ _ wr => ∃ (left : Int → Bool) (cnt : Nat) (L : List (Int × Int)), Rg Try.prog 3 3 wr bm r (n + q) F left cnt ∧ L.length + cnt ≤ n + q ∧ Hid (Cls F left L) ∧ Op2 (r + 1) 28 wr out L ∧ r + 1 ≤ wr.heap.size ∧ Below w.heap.size w wr) (fun _ _ _ wr => wr.rangeLeft bm r)
              case atStart => exact ⟨left0, cnt0, [], HRG6.out, by simpa using hcn6, Lib.hid (Cls.start HLF6.out), Op2.nil _ _ _, by omega, HB6.out⟩
              case round =>
                obtain ⟨left, cnt, L, hrg, hlc, hcl, hop, hrs, hbel⟩ := hrel
                have HRG := Lib.hid hrg
                have HOP := Lib.hid hop
                have HB7 := Lib.hid hbel
                have hs7 := hbel.size
                have HLE := Lib.hid hrg.left_eq
                clear hrg hop hbel
                go_wp2_with (at_next; refine wp_next _ rfl _ rfl mtI bm r _ _ F left rfl HRG.out ?_ ?_)
                · intro hl
                  have HL := Lib.hid hl
                  clear hl
                  go_wp2_with fail
                  refine (sortU_own _ L _ HOP.out (by omega)).mono ?_
                  rintro e w8 ⟨rfl, L2, h1, h2, h3, h4⟩
                  have HRL := Lib.hid (hcl.out.end HL.out h2 h3)
                  have HUL := Lib.hid h1.ul
                  have HB8 := Lib.hid (HB7.out.grown h4 hs7 (fun j hj => by have := (HOP.out.lt j hj).1; omega))
                  clear h1 h2 h3 h4
                  go_wp2_with fail
                  go_ret2
                  exact ⟨.inr (.inr ⟨hnd.out, hin.out, _, L2, rfl, HUL.out, by rw [hF]; exact HRL.out⟩), HB8.out⟩
                · intro x c w8 cnt8 hx hcc hlx hfx hrg8 hlt hg8 hs8' hen
                  have HRG8 := Lib.hid hrg8
                  have HB8 := Lib.hid (HB7.out.grown hg8 hs7 (fun j hj => by cases hj; exact hr0))
                  have HOP2 := Lib.hid (HOP.out.grown hg8 (ownNone HOP.out.lt))
                  have hs8 : w.heap.size ≤ w8.heap.size := by omega
                  have hrs8 : r + 1 ≤ w8.heap.size := by omega
                  have HFX := Lib.hid hfx
                  have HLX := Lib.hid hlx
                  have HX64 := Lib.hid hx
                  clear hrg8 hg8 hfx hlx hx hcc hs8'
                  by_cases hc0 : 0 < c
                  · go_wp2_with (at_builtin; refine wpList_append_own_at _ rfl (.tmp 68) (.tmp 72) 22 rfl (r + 1) 28 i0 (.agg #[.int .i64 0, .int .i64 0]) 2 16 underUsesE hi hz0 hz1 hz2 rfl (by decide) _ L.length (L.flatMap enc2) rfl (World.ownsRow.alloc HOP2.out _) ⟨w8.heap.size, 0, none⟩ 1 1 [.int .i64 x, .int .i64 c] (by first | rfl | simp) rfl (cell_two _ _ rfl _ _ _) (by intro u hu; rcases List.mem_cons.1 hu with rfl | hu; (· rfl); (· rcases List.mem_cons.1 hu with rfl | hu; (· rfl); (· cases hu))) (by unfold maxLen; omega) (by omega) (by first | omega | (simp; omega) | (simp only [size_alloc]; omega)) ?_; intro v2 w9 hm9 hg9 _ hat9; have HM9 := Lib.hid hm9; have HG9 := Lib.hid hg9; clear hm9 hg9 hat9)
                    have HO9 := Lib.hid (Op2.push HM9.out)
                    have HB9 := Lib.hid ((HB8.out.alloc hs8 _).grown HG9.out (by simp; omega) (fun j hj => by have := (HOP2.out.lt j hj).1; omega))
                    have HRG9 := Lib.hid ((HRG8.out.heap none (World.grownBy_alloc _ _ _) (by simp) (by simp)).heap _ HG9.out (ownNe (HOP2.out.lt) (by omega)) (ownNe (HOP2.out.lt) (by omega)))
                    have hs9 := HG9.out.size
                    go_roundw
                    case rel => exact ⟨_, cnt8, L ++ [(x, c)], HRG9.out, by rw [List.length_append]; simp; omega, Lib.hid (hcl.out.yes HX64.out HLX.out HFX.out hc0), HO9.out, by simp at hs9; omega, HB9.out⟩
                    case measure => rw [HRG9.out.left_eq, HLE.out]; exact hlt
                  · go_wp2_with fail
                    go_roundw
                    case rel => exact ⟨_, cnt8, L, HRG8.out, by omega, Lib.hid (hcl.out.no HFX.out hc0), HOP2.out, hrs8, HB8.out⟩
                    case measure => rw [HRG8.out.left_eq, HLE.out]; exact hlt

end Go.Proofs.Ytmljfaplohbjcaa
