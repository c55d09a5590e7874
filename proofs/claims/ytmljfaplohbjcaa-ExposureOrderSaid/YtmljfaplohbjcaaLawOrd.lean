/- ExposureOrder returns true for every input; no condition. -/
import Derived.Test.YtmljfaplohbjcaaRecW
import Derived.Test.YtmljfaplohbjcaaOrdP
import Derived.Test.YtmljfaplohbjcaaFrP
namespace Go.Proofs.Ytmljfaplohbjcaa
open Go.RowKit Go.ChangeShapes Go.WideShapes Go.ChangeAt Go.Deep

theorem map_push {α : Type} (f : Nat → α) (k : Nat) : (List.range k).map f ++ [f k] = (List.range (k + 1)).map f := by rw [List.range_succ, List.map_append]; rfl

set_option maxHeartbeats 2000000 in
theorem uses_same (a b : Option Addr) (n ca cb : Nat) (it ct : Nat → Int) (w : World) (ha : Us w a n ca it ct) (hb : Us w b n cb it ct) :
    Calls Try.prog 7 #[.slice a n ca, .slice b n cb] w fun e w' => e = .returned (.bool true) ∧ Below w.heap.size w w' := by
  have HA := Lib.hid ha
  have HB := Lib.hid hb
  have e1 := ha.1
  have e2 := ha.2.1
  unfold maxLen at e2
  clear ha hb
  go_enter Try.func7, Try.ntmps7
  go_wp2_with fail
  go_loopw [5] (fun i wr => ∃ k : Nat, k ≤ n ∧ i = .int .i64 k ∧ Below w.heap.size w wr) (fun i _ => n - (intOf i).toNat)
  case atStart => exact ⟨0, Nat.zero_le _, rfl, Below.refl _ _⟩
  case round =>
    obtain ⟨k, hk, rfl, hbel⟩ := hrel
    have HB2 := Lib.hid hbel
    by_cases hkn : k < n
    · obtain ⟨b5, o5, rfl, hc5⟩ := (HA.out.below hbel).2.2 (by omega)
      obtain ⟨b6, o6, rfl, hc6⟩ := (HB.out.below hbel).2.2 (by omega)
      have g5 := (hc5 k hkn).1
      have g6 := (hc6 k hkn).1
      have g7 := (hc5 k hkn).2
      have g8 := (hc6 k hkn).2
      obtain ⟨x, hx⟩ : ∃ x, it k = x := ⟨_, rfl⟩
      obtain ⟨y, hy⟩ : ∃ x, ct k = x := ⟨_, rfl⟩
      rw [hx] at g5 g6
      rw [hy] at g7 g8
      clear hc5 hc6 hx hy hbel
      have hix0 : (0 : Int) ≤ (k : Int) := by omega
      have hix1 : (k : Int) < (n : Int) := by omega
      go_wp2_with fail
      go_quiet (fail)
      go_wp2_with fail
      go_roundw
      case rel => exact ⟨k + 1, by omega, by go_num, below_drewN HB2.out _⟩
      case measure => simp [intOf]; omega
    · obtain rfl : k = n := by omega
      clear hbel
      go_wp2_with fail
      go_ret
      exact ⟨rfl, HB2.out⟩

theorem us_congr {w : World} {a : Option Addr} {n cap : Nat} {it ct it2 ct2 : Nat → Int} (h : Us w a n cap it ct) (e1 : ∀ i, i < n → it i = it2 i) (e2 : ∀ i, i < n → ct i = ct2 i) : Us w a n cap it2 ct2 := by
  obtain ⟨h1, h2, h3⟩ := h
  refine ⟨h1, h2, fun hn => ?_⟩
  obtain ⟨b, off, e, hc⟩ := h3 hn
  exact ⟨b, off, e, fun i hi => by rw [← e1 i hi, ← e2 i hi]; exact hc i hi⟩
theorem zs_congr {w : World} {a : Option Addr} {n cap : Nat} {z z2 : Nat → Int} (h : Zs w a n cap z) (e1 : ∀ i, i < n → z i = z2 i) : Zs w a n cap z2 := by
  obtain ⟨h1, h2, h3⟩ := h
  refine ⟨h1, h2, fun hn => ?_⟩
  obtain ⟨b, off, e, hc⟩ := h3 hn
  exact ⟨b, off, e, fun i hi => by rw [← e1 i hi]; exact hc i hi⟩

set_option maxRecDepth 20000 in
set_option maxHeartbeats 8000000 in
theorem order_walk (ua : Option Addr) (n uc : Nat) (it ct : Nat → Int) (ia : Option Addr) (m ic : Nat) (z : Nat → Int) (w : World) (hu : Us w ua n uc it ct) (hu64 : ∀ i, i < n → W64 (it i)) (hz : Zs w ia m ic z) (h64 : ∀ i, i < m → W64 (z i)) :
    Calls Try.prog 3 #[.slice ua n uc, .slice ia m ic] w fun e w' => e = .returned (.bool true) ∧ Below w.heap.size w w' := by
  have HU := Lib.hid hu
  have HZ := Lib.hid hz
  have b1 := hu.1
  have b2 := hu.2.1
  have b3 := hz.1
  have b4 := hz.2.1
  unfold maxLen at b2 b4
  clear hu hz
  by_cases h100 : 100 < n
  · have d1 : ((100 : Int) < (n : Int)) := by omega
    go_enter Try.func3, Try.ntmps3
    go_wp2_with fail
    go_ret
    exact ⟨rfl, Below.refl _ _⟩
  · have d1 : ¬ ((100 : Int) < (n : Int)) := by omega
    by_cases h30 : 30 < m
    · have d2 : ((30 : Int) < (m : Int)) := by omega
      go_enter Try.func3, Try.ntmps3
      go_wp2_with fail
      go_ret
      exact ⟨rfl, Below.refl _ _⟩
    · have d2 : ¬ ((30 : Int) < (m : Int)) := by omega
      obtain ⟨i0, hi, hzz⟩ := Option.map_eq_some_iff.1 infoUseE
      simp only [Prod.mk.injEq] at hzz
      obtain ⟨hz0, hz1, hz2⟩ := hzz
      obtain ⟨j0, hj, hyy⟩ := Option.map_eq_some_iff.1 infoIntE
      simp only [Prod.mk.injEq] at hyy
      obtain ⟨hy0, hy1, hy2⟩ := hyy
      go_enter Try.func3, Try.ntmps3
      go_wp2_with fail
      refine (record_any _ n _ it ct _ m _ z _ HU.out hu64 HZ.out h64 (by omega) (by omega)).mono ?_
      rintro e w1 ⟨hpost, hb⟩
      have HB0 := Lib.hid hb
      have HU1 := Lib.hid (HU.out.below hb)
      have HZ1 := Lib.hid (HZ.out.below hb)
      clear hb
      have HPOST := Lib.hid hpost
      clear hpost
      obtain ⟨v1, ev, rfl⟩ : ∃ v1 ev, e = .returned (.tuple #[v1, .int .i64 ev]) := by rcases HPOST.out with ⟨_, rfl⟩ | ⟨_, _, rfl⟩ | ⟨_, _, v, L, rfl, _⟩ <;> exact ⟨_, _, rfl⟩
      go_wp2_with fail
      go_loopw [7, 8] (fun out i wr => ∃ (k : Nat), k ≤ n ∧ i = .int .i64 ((n : Int) - 1 - k) ∧ Op2 w1.heap.size 28 wr out ((List.range k).map fun j => (it (n - 1 - j), ct (n - 1 - j))) ∧ Below w1.heap.size w1 wr) (fun _ i _ => (intOf i + 1).toNat)
      case atStart => exact ⟨0, Nat.zero_le _, by first | rfl | simp | (congr 1; omega), Op2.nil _ _ _, Below.refl _ _⟩
      case round =>
        obtain ⟨k, hk, rfl, hop, hbel⟩ := hrel
        obtain ⟨l, hl⟩ : ∃ l, (List.range k).map (fun j => (it (n - 1 - j), ct (n - 1 - j))) = l := ⟨_, rfl⟩
        have hll : l.length = k := by rw [← hl]; simp
        rw [hl] at hop
        have HL := Lib.hid hl
        have HLL := Lib.hid hll
        have hll2 : l.length ≤ 100 := by omega
        have HOP := Lib.hid hop
        have HB := Lib.hid hbel
        have hs0 := hbel.size
        clear hop hl hll
        by_cases hkn : k < n
        · obtain ⟨b, off, rfl, hc⟩ := (HU1.out.below hbel).2.2 (by omega)
          obtain ⟨p, hp⟩ : ∃ p, n - 1 - k = p := ⟨_, rfl⟩
          have g0 := (hc p (by omega)).1
          have g1 := (hc p (by omega)).2
          obtain ⟨x, hx⟩ : ∃ x, it p = x := ⟨_, rfl⟩
          obtain ⟨y, hy⟩ : ∃ x, ct p = x := ⟨_, rfl⟩
          rw [hx] at g0
          rw [hy] at g1
          have HX := Lib.hid (show (it (n - 1 - k), ct (n - 1 - k)) = (x, y) by rw [hp, hx, hy])
          have ep : (n : Int) - 1 - (k : Int) = (p : Int) := by omega
          rw [ep]
          have hix0 : (0 : Int) ≤ (p : Int) := by omega
          have hix1 : (p : Int) < (n : Int) := by omega
          have HP := Lib.hid hp
          clear hc hx hy hbel hp ep
          go_wp2_with (at_builtin; refine wpList_append_own_at _ rfl (.tmp 38) (.tmp 43) 22 rfl w1.heap.size 28 i0 (.agg #[.int .i64 0, .int .i64 0]) 2 16 underUsesE hi hz0 hz1 hz2 rfl (by decide) _ l.length (l.flatMap enc2) rfl (World.ownsRow.alloc HOP.out _) ⟨wr.heap.size, 0, none⟩ 1 1 [.int .i64 x, .int .i64 y] (by first | rfl | simp) rfl (cell_two _ _ rfl _ _ _) (by intro u hu; rcases List.mem_cons.1 hu with rfl | hu; (· rfl); (· rcases List.mem_cons.1 hu with rfl | hu; (· rfl); (· cases hu))) (by unfold maxLen; omega) (by omega) (by first | omega | (simp; omega)) ?_; intro v2 w9 hm9 hg9 _ hat9; have HO9 := Lib.hid (Op2.push hm9); have HB9 := Lib.hid ((HB.out.alloc hs0 _).grown hg9 (by simp; omega) (fun j hj => (HOP.out.lt j hj).1)); clear hm9 hg9 hat9)
          go_roundw
          case rel => exact ⟨k + 1, by omega, by have := HP.out; go_num, by rw [← map_push, HX.out, HL.out]; exact HO9.out, HB9.out⟩
          case measure => have := HP.out; (first | (simp [intOf]; done) | (simp [intOf]; omega))
        · obtain rfl : k = n := by omega
          have hbk := (show ¬ (0 : Int) ≤ (k : Int) - 1 - (k : Int) by omega)
          obtain ⟨wB, rfl⟩ : ∃ x : World, x = wr := ⟨_, rfl⟩
          have HUL := Lib.hid HOP.out.ul
          have HZ2 := Lib.hid (HZ1.out.below hbel)
          have HU2 := Lib.hid (HU1.out.below hbel)
          clear hbel HOP
          go_wp2_with fail
          go_loopw [9, 10] (fun out i wr => ∃ (q : Nat), q ≤ m ∧ i = .int .i64 ((m : Int) - 1 - q) ∧ Ow wB.heap.size 3 wr out ((List.range q).map fun j => z (m - 1 - j)) ∧ Below wB.heap.size wB wr) (fun _ i _ => (intOf i + 1).toNat)
          case atStart => exact ⟨0, Nat.zero_le _, by first | rfl | simp | (congr 1; omega), Ow.nil _ _ _, Below.refl _ _⟩
          case round =>
            obtain ⟨q, hq, rfl, how, hbel⟩ := hrel
            obtain ⟨l2, hl2⟩ : ∃ l, (List.range q).map (fun j => z (m - 1 - j)) = l := ⟨_, rfl⟩
            have hll3 : l2.length = q := by rw [← hl2]; simp
            rw [hl2] at how
            have HL2 := Lib.hid hl2
            have HLL2 := Lib.hid hll3
            have hll4 : l2.length ≤ 30 := by omega
            have HOW := Lib.hid how
            have HB2 := Lib.hid hbel
            have hs2 := hbel.size
            clear how hl2 hll3
            by_cases hqm : q < m
            · obtain ⟨b, off, rfl, hc⟩ := (HZ2.out.below hbel).2.2 (by omega)
              obtain ⟨p, hp⟩ : ∃ p, m - 1 - q = p := ⟨_, rfl⟩
              have g0 := hc p (by omega)
              obtain ⟨x, hx⟩ : ∃ x, z p = x := ⟨_, rfl⟩
              rw [hx] at g0
              have HX := Lib.hid (show z (m - 1 - q) = x by rw [hp, hx])
              have ep : (m : Int) - 1 - (q : Int) = (p : Int) := by omega
              rw [ep]
              have hix0 : (0 : Int) ≤ (p : Int) := by omega
              have hix1 : (p : Int) < (m : Int) := by omega
              have HP := Lib.hid hp
              clear hc hx hbel hp ep
              go_wp2_with (at_builtin; refine wpList_append_own_at _ rfl (.tmp 52) (.tmp 57) 23 rfl wB.heap.size 3 j0 (.int .i64 0) 1 8 underIntsE hj hy0 hy1 hy2 rfl (by decide) _ l2.length (l2.map (Value.int .i64)) rfl (World.ownsRow.alloc HOW.out _) ⟨wr.heap.size, 0, none⟩ 1 1 [.int .i64 x] (by first | rfl | simp) rfl (by intro j u hj; rcases j with _ | j; (· simp at hj; subst hj; simp [Addr.add]); (· simp at hj)) (by intro u hu; simp at hu; subst hu; rfl) (by unfold maxLen; omega) (by omega) (by first | omega | (simp; omega)) ?_; intro v2 w9 hm9 hg9 _ hat9; have HO9 := Lib.hid (Ow.push hm9); have HB9 := Lib.hid ((HB2.out.alloc hs2 _).grown hg9 (by simp; omega) (fun j hj => (HOW.out.lt j hj).1)); clear hm9 hg9 hat9)
              go_roundw
              case rel => exact ⟨q + 1, by omega, by have := HP.out; go_num, by rw [← map_push, HX.out, HL2.out]; exact HO9.out, HB9.out⟩
              case measure => have := HP.out; (first | (simp [intOf]; done) | (simp [intOf]; omega))
            · obtain rfl : q = m := by omega
              have hbq := (show ¬ (0 : Int) ≤ (q : Int) - 1 - (q : Int) by omega)
              obtain ⟨aU, cU, rfl, hu2⟩ := HUL.out.below hbel
              rw [HLL.out] at hu2 ⊢
              obtain ⟨aZ, cZ, rfl, hz2⟩ := HOW.out.il.zs
              rw [HLL2.out] at hz2 ⊢
              have HUr := Lib.hid (show Us wr aU k cU (fun i => it (k - 1 - i)) (fun i => ct (k - 1 - i)) from us_congr hu2 (fun i hi => by rw [← HL.out]; simp [List.getD, hi]) (fun i hi => by rw [← HL.out]; simp [List.getD, hi]))
              have HZr := Lib.hid (show Zs wr aZ q cZ (fun i => z (q - 1 - i)) from zs_congr hz2 (fun i hi => by rw [← HL2.out]; simp [List.getD, hi]))
              have HUw := Lib.hid (HU2.out.below hbel)
              have HZw := Lib.hid (HZ2.out.below hbel)
              have HBw := Lib.hid (show Below w.heap.size w wr from (HB0.out.trans (HB.out.mono HB0.out.size)).trans (hbel.mono (Nat.le_trans HB0.out.size hs0)))
              have HBr := Lib.hid (show Below w1.heap.size w1 wr from HB.out.trans (hbel.mono hs0))
              have hsw := HBw.out.size
              clear hu2 hz2 hbel HUL HOW
              go_wp2_with fail
              refine (record_any aU k cU _ _ aZ q cZ _ _ HUr.out (fun i hi => hu64 _ (by omega)) HZr.out (fun i hi => h64 _ (by omega)) (by omega) (by omega)).mono ?_
              rintro e w2 ⟨hpost, hb⟩
              have HP2 := Lib.hid hpost
              have HB3 := Lib.hid (HBw.out.trans (hb.mono hsw))
              have HB4 := Lib.hid (HBr.out.trans (hb.mono HBr.out.size))
              have HU3 := Lib.hid (HUw.out.below hb)
              have HZ3 := Lib.hid (HZw.out.below hb)
              have hs3 := HB3.out.size
              clear hpost hb
              rcases HPOST.out with ⟨h1, he⟩ | ⟨h1, h2, he⟩ | ⟨h1, h2, v, L, he, hul, hrl⟩
              · simp only [Ending.returned.injEq, Value.tuple.injEq, Array.mk.injEq, List.cons.injEq, Value.int.injEq, and_true, true_and] at he
                obtain ⟨rfl, rfl⟩ := he
                have he2 : e = .returned (.tuple #[.slice none 0 0, .int .i64 7]) := by
                  rcases HP2.out with ⟨g1, he⟩ | ⟨g1, g2, he⟩ | ⟨g1, g2, v, L, he, _⟩
                  · exact he
                  · exact absurd ((NoD_rev z q).1 g1) h1
                  · exact absurd ((NoD_rev z q).1 g1) h1
                subst he2
                clear HPOST HP2
                go_wp2_with fail
                refine (uses_same none none 0 0 0 (fun _ => 0) (fun _ => 0) _ ⟨Nat.le_refl _, Nat.zero_le _, fun h => absurd h (by omega)⟩ ⟨Nat.le_refl _, Nat.zero_le _, fun h => absurd h (by omega)⟩).mono ?_
                rintro e w4 ⟨rfl, hb⟩
                have HB5 := Lib.hid (HB3.out.trans (hb.mono hs3))
                clear hb
                go_wp2_with fail
                go_ret
                exact ⟨rfl, HB5.out⟩
              · simp only [Ending.returned.injEq, Value.tuple.injEq, Array.mk.injEq, List.cons.injEq, Value.int.injEq, and_true, true_and] at he
                obtain ⟨rfl, rfl⟩ := he
                have he2 : e = .returned (.tuple #[.slice none 0 0, .int .i64 3]) := by
                  rcases HP2.out with ⟨g1, he⟩ | ⟨g1, g2, he⟩ | ⟨g1, g2, v, L, he, _⟩
                  · exact absurd ((NoD_rev z q).2 h1) g1
                  · exact he
                  · exact absurd ((InR_rev z q).1 g2) h2
                subst he2
                clear HPOST HP2
                go_wp2_with fail
                refine (uses_same none none 0 0 0 (fun _ => 0) (fun _ => 0) _ ⟨Nat.le_refl _, Nat.zero_le _, fun h => absurd h (by omega)⟩ ⟨Nat.le_refl _, Nat.zero_le _, fun h => absurd h (by omega)⟩).mono ?_
                rintro e w4 ⟨rfl, hb⟩
                have HB5 := Lib.hid (HB3.out.trans (hb.mono hs3))
                clear hb
                go_wp2_with fail
                go_ret
                exact ⟨rfl, HB5.out⟩
              · simp only [Ending.returned.injEq, Value.tuple.injEq, Array.mk.injEq, List.cons.injEq, Value.int.injEq, and_true, true_and] at he
                obtain ⟨rfl, rfl⟩ := he
                obtain ⟨v2, he2, hul2⟩ : ∃ v2, e = .returned (.tuple #[v2, .int .i64 0]) ∧ Ul w2 v2 L := by
                  rcases HP2.out with ⟨g1, he⟩ | ⟨g1, g2, he⟩ | ⟨g1, g2, v, L2, he, hul2, hrl2⟩
                  · exact absurd ((NoD_rev z q).2 h1) g1
                  · exact absurd ((InR_rev z q).2 h2) g2
                  · refine ⟨v, he, ?_⟩
                    rw [hrl.unique hrl2 (fun x _ => (recF_rev it ct z k q x).symm)]
                    exact hul2
                subst he2
                obtain ⟨a1, c1, rfl, hq1⟩ := hul.below HB4.out
                obtain ⟨a2, c2, rfl, hq2⟩ := hul2
                have HQ1 := Lib.hid hq1
                have HQ2 := Lib.hid hq2
                have e1 := hq1.1
                have e2 := hq1.2.1
                have e3 := hq2.1
                have e4 := hq2.2.1
                unfold maxLen at e2 e4
                have HRL := Lib.hid hrl
                clear hq1 hq2 hul hrl HPOST HP2
                obtain ⟨it2, hit2⟩ : ∃ f : Nat → Int, (fun j => (L.getD j (0, 0)).1) = f := ⟨_, rfl⟩
                obtain ⟨ct2, hct2⟩ : ∃ f : Nat → Int, (fun j => (L.getD j (0, 0)).2) = f := ⟨_, rfl⟩
                rw [hit2, hct2] at HQ1 HQ2
                obtain ⟨ln, hln⟩ : ∃ l, L.length = l := ⟨_, rfl⟩
                have HGA := Lib.hid (show (∀ j, j < ln → 0 < ct2 j) ∧ (∀ i j, i < j → j < ln → it2 i < it2 j) by rw [← hln, ← hit2, ← hct2]; exact ⟨HRL.out.get.1, HRL.out.get.2.1⟩)
                have HCN := Lib.hid (show ∀ x, W64 x → hasB z q x = true → cntN it2 ct2 x ln = lim (cntN it ct x k + 1) by intro x hx hb; rw [← hln, ← hit2, ← hct2]; exact HRL.out.count (fun x => cntN_bd it ct x k) hx hb)
                rw [hln] at HQ1 HQ2 e1 e3 ⊢
                clear hln hit2 hct2 HRL
                go_wp2_with fail
                refine (uses_same a1 a2 ln c1 c2 it2 ct2 _ HQ1.out HQ2.out).mono ?_
                rintro e w4 ⟨rfl, hb⟩
                have HB5 := Lib.hid (HB3.out.trans (hb.mono hs3))
                have HQ3 := Lib.hid (HQ1.out.below hb)
                have HU4 := Lib.hid (HU3.out.below hb)
                have HZ4 := Lib.hid (HZ3.out.below hb)
                have hs5 := HB5.out.size
                clear hb HQ1 HQ2
                go_wp2_with fail
                go_loopw [13] (fun i wr => ∃ p : Nat, p ≤ ln ∧ i = .int .i64 p ∧ Below w4.heap.size w4 wr) (fun i _ => ln - (intOf i).toNat)
                case atStart => exact ⟨0, Nat.zero_le _, rfl, Below.refl _ _⟩
                case round =>
                  obtain ⟨p, hp, rfl, hbel⟩ := hrel
                  have HB6 := Lib.hid hbel
                  have hs6 := hbel.size
                  by_cases hpl : p < ln
                  · obtain ⟨b5, o5, rfl, hc5⟩ := (HQ3.out.below hbel).2.2 (by omega)
                    have g1 := (hc5 p hpl).2
                    have gp := HGA.out.1 p hpl
                    obtain ⟨y, hy⟩ : ∃ x, ct2 p = x := ⟨_, rfl⟩
                    rw [hy] at g1 gp
                    have dy : ¬ y < 1 := by omega
                    have dy2 : decide (y < 1) = false := decide_eq_false dy
                    have hix0 : (0 : Int) ≤ (p : Int) := by omega
                    have hix1 : (p : Int) < (ln : Int) := by omega
                    by_cases hp0 : p = 0
                    · have dz : ¬ (0 : Int) < (p : Int) := by omega
                      have dz2 : decide ((p : Int) > 0) = false := decide_eq_false dz
                      have dz3 : decide (0 < p) = false := decide_eq_false (by omega)
                      have dz4 : decide ((0 : Int) < (p : Int)) = false := decide_eq_false dz
                      clear hc5 hy hbel gp hp0
                      have mixed : Try.prog.follows Departure.mixedOrders = true := by kernel_rfl
                      go_wp2_with fail
                      go_big_region_o
                      go_wp2_with fail
                      go_roundw
                      case rel => exact ⟨p + 1, by omega, by go_num, by first | exact HB6.out.drew | exact below_drewN HB6.out _⟩
                      case measure => simp [intOf]; omega
                    · obtain ⟨r, hr⟩ : ∃ r, p = r + 1 := ⟨p - 1, by omega⟩
                      have g0 := (hc5 p hpl).1
                      have g2 := (hc5 r (by omega)).1
                      have gl := HGA.out.2 r p (by omega) hpl
                      obtain ⟨x, hx⟩ : ∃ x, it2 p = x := ⟨_, rfl⟩
                      obtain ⟨u, hu⟩ : ∃ x, it2 r = x := ⟨_, rfl⟩
                      rw [hx] at g0 gl
                      rw [hu] at g2 gl
                      have du : ¬ x ≤ u := by omega
                      have dz : (0 : Int) < (p : Int) := by omega
                      have dz2 : decide ((p : Int) > 0) = true := decide_eq_true dz
                      have dz3 : decide (0 < p) = true := decide_eq_true (by omega)
                      have dz4 : decide ((0 : Int) < (p : Int)) = true := decide_eq_true dz
                      have du2 : decide (x ≤ u) = false := decide_eq_false du
                      have er : (p : Int) - 1 = (r : Int) := by omega
                      have hr0 : (0 : Int) ≤ (r : Int) := by omega
                      have hr1 : (r : Int) < (ln : Int) := by omega
                      have wp : IntKind.i64.wrap ((p : Int) - 1) = (r : Int) := by rw [IntKind.wrap_i64]; omega
                      clear hc5 hy hbel gp hp0 hx hu hr gl
                      have mixed : Try.prog.follows Departure.mixedOrders = true := by kernel_rfl
                      go_wp2_with fail
                      go_big_region_o
                      go_wp2_with fail
                      go_roundw
                      case rel => exact ⟨p + 1, by omega, by go_num, by first | exact HB6.out.drew | exact below_drewN HB6.out _⟩
                      case measure => simp [intOf]; omega
                  · obtain rfl : p = ln := by omega
                    have HQ5 := Lib.hid (HQ3.out.below hbel)
                    have HU5 := Lib.hid (HU4.out.below hbel)
                    have HZ5 := Lib.hid (HZ4.out.below hbel)
                    have HB7 := Lib.hid (HB5.out.trans (hbel.mono hs5))
                    have hs7 := HB7.out.size
                    obtain ⟨wC, rfl⟩ : ∃ x : World, x = wr := ⟨_, rfl⟩
                    clear hbel
                    go_wp2_with fail
                    go_loopw [14, 15, 16] (fun i _ _ wr => ∃ t : Nat, t ≤ q ∧ i = .int .i64 t ∧ Below wC.heap.size wC wr) (fun i _ _ _ => q - (intOf i).toNat)
                    case atStart => exact ⟨0, Nat.zero_le _, rfl, Below.refl _ _⟩
                    case round =>
                      obtain ⟨t, ht, rfl, hbel⟩ := hrel
                      have HB8 := Lib.hid hbel
                      have hs8 := hbel.size
                      by_cases htq : t < q
                      · obtain ⟨b5, o5, rfl, hc5⟩ := (HZ5.out.below hbel).2.2 (by omega)
                        have g0 := hc5 t htq
                        obtain ⟨x, hx⟩ : ∃ x, z t = x := ⟨_, rfl⟩
                        rw [hx] at g0
                        have HCX := Lib.hid (HCN.out x (by rw [← hx]; exact h64 t htq) (hasB_iff.2 ⟨t, htq, hx⟩))
                        have cb := cntN_bd it ct x k
                        obtain ⟨cn, hcn⟩ : ∃ c, cntN it ct x k = c := ⟨_, rfl⟩
                        have HCN2 := Lib.hid hcn
                        rw [hcn] at HCX cb
                        have HUx := Lib.hid (HU5.out.below hbel)
                        have HQx := Lib.hid (HQ5.out.below hbel)
                        have hix0 : (0 : Int) ≤ (t : Int) := by omega
                        have hix1 : (t : Int) < (q : Int) := by omega
                        clear hc5 hx hcn
                        obtain ⟨c1', c2'⟩ := cb
                        go_wp2_with fail
                        refine (count_any _ _ _ it ct x _ HUx.out).mono ?_
                        rintro e w5 ⟨rfl, hb⟩
                        rw [HCN2.out]
                        have HQy := Lib.hid (HQx.out.below hb)
                        have g0' := cell_mono g0 hb
                        have HB9 := Lib.hid (HB8.out.trans (hb.mono hs8))
                        have hs9 := HB9.out.size
                        clear hb hbel g0
                        go_wp2_with fail
                        refine (count_any _ _ _ it2 ct2 x _ HQy.out).mono ?_
                        rintro e w6 ⟨rfl, hb⟩
                        rw [HCX.out]
                        have HB10 := Lib.hid (HB9.out.trans (hb.mono hs9))
                        clear hb g0'
                        obtain ⟨mn, hmn⟩ : ∃ c, lim (cn + 1) = c := ⟨_, rfl⟩
                        rw [hmn]
                        by_cases hc : cn = 1000000
                        · obtain rfl : mn = 1000000 := by rw [← hmn, hc]; rfl
                          subst hc
                          clear hmn HCX HCN2
                          go_wp2_with fail
                          go_roundw
                          case rel => exact ⟨t + 1, by omega, by go_num, HB10.out⟩
                          case measure => simp [intOf]; omega
                        · obtain rfl : mn = cn + 1 := by rw [← hmn]; unfold lim; omega
                          clear hmn HCX HCN2
                          have ee : ((cn + 1 : Int) != (cn + 1)) = false := by simp
                          go_wp2_with fail
                          go_roundw
                          case rel => exact ⟨t + 1, by omega, by go_num, HB10.out⟩
                          case measure => simp [intOf]; omega
                      · obtain rfl : t = q := by omega
                        have HB11 := Lib.hid (HB7.out.trans (hbel.mono hs7))
                        clear hbel
                        go_wp2_with fail
                        go_ret
                        exact ⟨rfl, HB11.out⟩

set_option maxRecDepth 100000 in
theorem exposureOrder_lifted (os : Os) (started : os.Started) (H : Type) (enc : TypeId × Value → H) :
    ReturnsInHanded {} Try.checked os 3 .any (Rows.exposureOrderSpec.pre6 enc Try.prog Try.f3 Rows.exposureOrderRow.domain false) (Rows.exposureOrderSpec.post enc Try.prog Try.f3 false true false false) := by
  refine returnsInHanded_of_change (C := Try.checked) Try.own started (by kernel_rfl) Try.func3
    (ChangeSpec.witness6 (enc := enc) (C := Try.checked) false ⟨#[], #[.slice none 0 0, .slice none 0 0], []⟩ 8 (by kernel_rfl) (by kernel_rfl) (by kernel_rfl) (by kernel_rfl)) ?_
  intro W base args ds gs before hval0 hW hcnd _
  have hval : ∀ (j : Nat) t v, Try.f3.params[j]? = some t → args[j]? = some v → Value.okWide Try.prog W .any base t v := hval0
  have hW' := hW
  obtain ⟨p, q, hA0, hV, rfl, hfz, hnd⟩ := hW
  have hA : DataW.TrodAll enc Try.prog W 0 (fun _ => true) true Try.f3.params.toList args.toList ds p := hA0
  rw [Try.params3] at hA hval
  obtain ⟨v0, vs0, x0, ds0, p0, q0, hargs, rfl, rfl, h0, r0⟩ := trodAll_cons hA
  obtain ⟨v1, vs1, x1, ds1, p1, q1, rfl, rfl, rfl, h1, r1⟩ := trodAll_cons r0
  obtain ⟨rfl, rfl, rfl⟩ := trodAll_nil r1
  obtain rfl : args = #[v0, v1] := by cases args; simp_all
  obtain ⟨rfl, rfl⟩ := trodVars_none hV
  have k0 := h0
  have lt0 : ∀ x ∈ p0, x.block < W.heap.size := by obtain ⟨m, hm⟩ := k0; exact DataW.trod_lt m _ _ _ hm
  obtain ⟨a0, n0, c0, rfl⟩ := okWide_slice Try.underlying22 (hval 0 22 v0 rfl rfl); obtain ⟨it0, ct0, hu0, hu640⟩ := open_uses64 h0
  have k1 := h1
  have lt1 : ∀ x ∈ p1, x.block < W.heap.size := by obtain ⟨m, hm⟩ := k1; exact DataW.trod_lt m _ _ _ hm
  obtain ⟨a1, n1, c1, rfl⟩ := okWide_slice Try.underlying23 (hval 1 23 v1 rfl rfl); obtain ⟨z1, hz1, h641⟩ := open_ints64 h1
  clear hA0 hval0
  refine (order_walk a0 n0 c0 it0 ct0 a1 n1 c1 z1 W hu0 hu640 hz1 h641).mono fun e W' ⟨he, bel⟩ => ?_
  subst he
  exact ⟨_, rfl, _, _, _, [], _, [], hW', trodAll_mk1 (shut_bool Try.underlying4 _), (trodAll_cons_mk (Below.trod Try.laidOut (by kernel_rfl) (of_decide_eq_true (by kernel_rfl)) k0 bel lt0) (trodAll_cons_mk (Below.trod Try.laidOut (by kernel_rfl) (of_decide_eq_true (by kernel_rfl)) k1 bel lt1) trodAll_mk0)), rfl, bel.frame _, fun h => by cases h⟩

theorem exposureOrder_holds : Rows.ExposureOrderSaid :=
  OpenClaim.holds_of_wide 3 Try.f3 rfl rfl rfl rfl rfl rfl rfl ⟨rfl, rfl, rfl, rfl, rfl⟩ rfl rfl rfl rfl rfl (by kernel_rfl) Try.func3 (by kernel_rfl)
    (of_decide_eq_true (by kernel_rfl)) (by unfold Func.isWrapper; first | (rw [if_pos (by decide +kernel)]; kernel_rfl) | (rw [if_neg (by decide +kernel)]; exact ⟨rfl, rfl⟩))
    (fun os started H enc _ => exposureOrder_lifted os started H enc)
#print axioms exposureOrder_holds

end Go.Proofs.Ytmljfaplohbjcaa
