/- The statements on Norm, on Add, Remove and Are, and on Undo: their walks. Condition: a relation of at most 2^43 - 2 pairs. -/
import Derived.Test.YtonnbcongnkcdaaEnR
namespace Go.Proofs.Ytonnbcongnkcdaa
open Go.RowKit

theorem addP_ok {w w' : World} {L : List (Int × Int)} {x y : Int} {e : Ending} (h : AddP w L x y e w') (hc : addE L x y = 0) : ∃ a c, e = .returned (.tuple #[.slice a (addR L x y).length c, .int .i64 0]) ∧ Pr w' a (addR L x y).length c (addR L x y) ∧ Below w.heap.size w w' := by
  obtain ⟨c, v, h1, rfl, h2, _, hb⟩ := h
  obtain rfl : 0 = c := hc.symm.trans h1
  obtain ⟨a, cc, rfl, hp⟩ := (h2 rfl).pr
  exact ⟨a, cc, rfl, hp, hb⟩
theorem addP_no {w w' : World} {L : List (Int × Int)} {x y : Int} {e : Ending} {c : Nat} (h : AddP w L x y e w') (hc : addE L x y = c) (h0 : c ≠ 0) : e = .returned (.tuple #[.slice none 0 0, .int .i64 c]) ∧ Below w.heap.size w w' := by
  obtain ⟨c', v, h1, rfl, _, h2, hb⟩ := h
  obtain rfl : c = c' := hc.symm.trans h1
  rw [h2 h0]
  exact ⟨rfl, hb⟩
theorem remP_ok {w w' : World} {L R : List (Int × Int)} {x y : Int} {e : Ending} (h : RemP w L x y e w') (hc : areP L x y = true) (hR : remF (normR L) (ordP x y) = R) : ∃ a c, e = .returned (.tuple #[.slice a R.length c, .int .i64 0]) ∧ Pr w' a R.length c R ∧ Below w.heap.size w w' := by
  obtain ⟨c, v, h1, rfl, h2, _, hb⟩ := h
  rw [if_pos hc] at h1
  subst h1
  have h3 := h2 rfl
  rw [hR] at h3
  obtain ⟨a, cc, rfl, hp⟩ := h3.pr
  exact ⟨a, cc, rfl, hp, hb⟩
theorem remP_no {w w' : World} {L : List (Int × Int)} {x y : Int} {e : Ending} (h : RemP w L x y e w') (hc : areP L x y = false) : e = .returned (.tuple #[.slice none 0 0, .int .i64 6]) ∧ Below w.heap.size w w' := by
  obtain ⟨c', v, h1, rfl, _, h2, hb⟩ := h
  rw [hc] at h1
  obtain rfl : 6 = c' := h1
  rw [h2 (by decide)]
  exact ⟨rfl, hb⟩

set_option maxRecDepth 20000 in
set_option maxHeartbeats 4000000 in
theorem norm_walk (a : Option Addr) (n cap : Nat) (L : List (Int × Int)) (w : World) (h : Pr w a n cap L) (hn : n ≤ 8796093022206) :
    Calls Try.prog 3 #[.slice a n cap] w fun e w' => e = .returned (.bool true) ∧ Below w.heap.size w w' := by
  have HPL := Lib.hid h
  clear h
  have HB := Lib.hid (Below.refl w.heap.size w)
  go_enter Try.func3, Try.ntmps3
  go_wp2_with fail
  refine (norm_any _ _ _ L _ HPL.out (by omega)).mono ?_
  rintro e w1 ⟨v1, rfl, ho, hb⟩
  obtain ⟨a1, c1, rfl, hp⟩ := ho.pr
  clear ho
  have HN1 := Lib.hid hp
  replace HPL := Lib.hid (HPL.out.below hb)
  replace HB := Lib.hid (HB.out.trans (hb.mono HB.out.size))
  clear hb hp
  go_wp2_with fail
  refine (xnorm_any _ _ _ L _ HPL.out (by omega)).mono ?_
  rintro e w2 ⟨v2, rfl, ho, hb⟩
  obtain ⟨a2, c2, rfl, hp⟩ := ho.pr
  clear ho
  have HN2 := Lib.hid hp
  replace HPL := Lib.hid (HPL.out.below hb)
  replace HN1 := Lib.hid (HN1.out.below hb)
  replace HB := Lib.hid (HB.out.trans (hb.mono HB.out.size))
  clear hb hp
  go_wp2_with fail
  refine (same_any _ _ _ _ _ (normR L) _ HN1.out HN2.out).mono ?_
  rintro e w3 ⟨rfl, hb⟩
  replace HPL := Lib.hid (HPL.out.below hb)
  replace HN1 := Lib.hid (HN1.out.below hb)
  replace HN2 := Lib.hid (HN2.out.below hb)
  replace HB := Lib.hid (HB.out.trans (hb.mono HB.out.size))
  clear hb
  go_wp2_with fail
  refine (awake_any _).mono ?_
  rintro e w4 ⟨rfl, hb⟩
  replace HPL := Lib.hid (HPL.out.below hb)
  replace HN1 := Lib.hid (HN1.out.below hb)
  replace HN2 := Lib.hid (HN2.out.below hb)
  replace HB := Lib.hid (HB.out.trans (hb.mono HB.out.size))
  clear hb
  go_wp2_with fail
  go_ret
  exact ⟨rfl, HB.out⟩

set_option maxRecDepth 20000 in
set_option maxHeartbeats 8000000 in
theorem changes_walk (a : Option Addr) (n cap : Nat) (L : List (Int × Int)) (x y : Int) (w : World) (h : Pr w a n cap L) (hn : n ≤ 8796093022206) :
    Calls Try.prog 4 #[.slice a n cap, .int .i64 x, .int .i64 y] w fun e w' => e = .returned (.bool true) ∧ Below w.heap.size w w' := by
  have HPL := Lib.hid h
  clear h
  have HB := Lib.hid (Below.refl w.heap.size w)
  obtain ⟨ce, hce⟩ : ∃ c, addE L x y = c := ⟨_, rfl⟩
  have HCE := Lib.hid hce
  obtain ⟨ca, hca⟩ : ∃ c, areP L x y = c := ⟨_, rfl⟩
  have HCA := Lib.hid hca
  clear hca hce
  by_cases h0 : ce = 0
  · subst h0
    go_enter Try.func4, Try.ntmps4
    go_wp2_with fail
    refine (add_any _ _ _ L x y _ HPL.out hn).mono ?_
    intro e w1 hA
    obtain ⟨a1, c1, rfl, hp, hb⟩ := addP_ok hA HCE.out
    clear hA
    have HM1 := Lib.hid hp
    replace HPL := Lib.hid (HPL.out.below hb)
    replace HB := Lib.hid (HB.out.trans (hb.mono HB.out.size))
    clear hb hp
    go_wp2_with fail
    refine (xadd_any _ _ _ L x y _ HPL.out hn).mono ?_
    intro e w2 hA
    obtain ⟨a2, c2, rfl, hp, hb⟩ := addP_ok hA HCE.out
    clear hA
    have HM2 := Lib.hid hp
    replace HPL := Lib.hid (HPL.out.below hb)
    replace HM1 := Lib.hid (HM1.out.below hb)
    replace HB := Lib.hid (HB.out.trans (hb.mono HB.out.size))
    clear hb hp
    go_wp2_with fail
    refine (same_any _ _ _ _ _ (addR L x y) _ HM1.out HM2.out).mono ?_
    rintro e w3 ⟨rfl, hb⟩
    replace HPL := Lib.hid (HPL.out.below hb)
    replace HM1 := Lib.hid (HM1.out.below hb)
    replace HM2 := Lib.hid (HM2.out.below hb)
    replace HB := Lib.hid (HB.out.trans (hb.mono HB.out.size))
    clear hb
    go_wp2_with fail
    cases ca
    · refine (remove_any _ _ _ L x y _ HPL.out hn).mono ?_
      intro e w5 hA
      obtain ⟨rfl, hb⟩ := remP_no hA HCA.out
      clear hA
      replace HPL := Lib.hid (HPL.out.below hb)
      replace HM1 := Lib.hid (HM1.out.below hb)
      replace HM2 := Lib.hid (HM2.out.below hb)
      replace HB := Lib.hid (HB.out.trans (hb.mono HB.out.size))
      clear hb
      go_wp2_with fail
      refine (xremove_any _ _ _ L x y _ HPL.out hn).mono ?_
      intro e w6 hA
      obtain ⟨rfl, hb⟩ := remP_no hA HCA.out
      clear hA
      replace HPL := Lib.hid (HPL.out.below hb)
      replace HM1 := Lib.hid (HM1.out.below hb)
      replace HM2 := Lib.hid (HM2.out.below hb)
      replace HB := Lib.hid (HB.out.trans (hb.mono HB.out.size))
      clear hb
      go_wp2_with fail
      refine (same_any _ _ _ _ _ [] _ (pr_nil _) (pr_nil _)).mono ?_
      rintro e w7 ⟨rfl, hb⟩
      replace HPL := Lib.hid (HPL.out.below hb)
      replace HM1 := Lib.hid (HM1.out.below hb)
      replace HM2 := Lib.hid (HM2.out.below hb)
      replace HB := Lib.hid (HB.out.trans (hb.mono HB.out.size))
      clear hb
      go_wp2_with fail
      refine (are_any _ _ _ (L) x y _ HPL.out false HCA.out).mono ?_
      rintro e w8 ⟨rfl, hb⟩
      replace HPL := Lib.hid (HPL.out.below hb)
      replace HM1 := Lib.hid (HM1.out.below hb)
      replace HM2 := Lib.hid (HM2.out.below hb)
      replace HB := Lib.hid (HB.out.trans (hb.mono HB.out.size))
      clear hb
      go_wp2_with fail
      refine (xare_any _ _ _ (L) x y _ HPL.out false HCA.out).mono ?_
      rintro e w9 ⟨rfl, hb⟩
      replace HPL := Lib.hid (HPL.out.below hb)
      replace HM1 := Lib.hid (HM1.out.below hb)
      replace HM2 := Lib.hid (HM2.out.below hb)
      replace HB := Lib.hid (HB.out.trans (hb.mono HB.out.size))
      clear hb
      go_wp2_with fail
      refine (awake_any _).mono ?_
      rintro e w10 ⟨rfl, hb⟩
      replace HPL := Lib.hid (HPL.out.below hb)
      replace HM1 := Lib.hid (HM1.out.below hb)
      replace HM2 := Lib.hid (HM2.out.below hb)
      replace HB := Lib.hid (HB.out.trans (hb.mono HB.out.size))
      clear hb
      go_wp2_with fail
      go_ret
      exact ⟨rfl, HB.out⟩
    · refine (remove_any _ _ _ L x y _ HPL.out hn).mono ?_
      intro e w5 hA
      obtain ⟨a3, c3, rfl, hp, hb⟩ := remP_ok hA HCA.out rfl
      clear hA
      have HR1 := Lib.hid hp
      replace HPL := Lib.hid (HPL.out.below hb)
      replace HM1 := Lib.hid (HM1.out.below hb)
      replace HM2 := Lib.hid (HM2.out.below hb)
      replace HB := Lib.hid (HB.out.trans (hb.mono HB.out.size))
      clear hb hp
      go_wp2_with fail
      refine (xremove_any _ _ _ L x y _ HPL.out hn).mono ?_
      intro e w6 hA
      obtain ⟨a4, c4, rfl, hp, hb⟩ := remP_ok hA HCA.out rfl
      clear hA
      have HR2 := Lib.hid hp
      replace HPL := Lib.hid (HPL.out.below hb)
      replace HM1 := Lib.hid (HM1.out.below hb)
      replace HM2 := Lib.hid (HM2.out.below hb)
      replace HR1 := Lib.hid (HR1.out.below hb)
      replace HB := Lib.hid (HB.out.trans (hb.mono HB.out.size))
      clear hb hp
      go_wp2_with fail
      refine (same_any _ _ _ _ _ (remF (normR L) (ordP x y)) _ HR1.out HR2.out).mono ?_
      rintro e w7 ⟨rfl, hb⟩
      replace HPL := Lib.hid (HPL.out.below hb)
      replace HM1 := Lib.hid (HM1.out.below hb)
      replace HM2 := Lib.hid (HM2.out.below hb)
      replace HR1 := Lib.hid (HR1.out.below hb)
      replace HR2 := Lib.hid (HR2.out.below hb)
      replace HB := Lib.hid (HB.out.trans (hb.mono HB.out.size))
      clear hb
      go_wp2_with fail
      refine (are_any _ _ _ (L) x y _ HPL.out true HCA.out).mono ?_
      rintro e w8 ⟨rfl, hb⟩
      replace HPL := Lib.hid (HPL.out.below hb)
      replace HM1 := Lib.hid (HM1.out.below hb)
      replace HM2 := Lib.hid (HM2.out.below hb)
      replace HR1 := Lib.hid (HR1.out.below hb)
      replace HR2 := Lib.hid (HR2.out.below hb)
      replace HB := Lib.hid (HB.out.trans (hb.mono HB.out.size))
      clear hb
      go_wp2_with fail
      refine (xare_any _ _ _ (L) x y _ HPL.out true HCA.out).mono ?_
      rintro e w9 ⟨rfl, hb⟩
      replace HPL := Lib.hid (HPL.out.below hb)
      replace HM1 := Lib.hid (HM1.out.below hb)
      replace HM2 := Lib.hid (HM2.out.below hb)
      replace HR1 := Lib.hid (HR1.out.below hb)
      replace HR2 := Lib.hid (HR2.out.below hb)
      replace HB := Lib.hid (HB.out.trans (hb.mono HB.out.size))
      clear hb
      go_wp2_with fail
      refine (awake_any _).mono ?_
      rintro e w10 ⟨rfl, hb⟩
      replace HPL := Lib.hid (HPL.out.below hb)
      replace HM1 := Lib.hid (HM1.out.below hb)
      replace HM2 := Lib.hid (HM2.out.below hb)
      replace HR1 := Lib.hid (HR1.out.below hb)
      replace HR2 := Lib.hid (HR2.out.below hb)
      replace HB := Lib.hid (HB.out.trans (hb.mono HB.out.size))
      clear hb
      go_wp2_with fail
      go_ret
      exact ⟨rfl, HB.out⟩
  · have he0 : ((ce : Int) == (ce : Int)) = true := by simp
    have he1 : ((ce : Int) != (ce : Int)) = false := by simp
    go_enter Try.func4, Try.ntmps4
    go_wp2_with fail
    refine (add_any _ _ _ L x y _ HPL.out hn).mono ?_
    intro e w1 hA
    obtain ⟨rfl, hb⟩ := addP_no hA HCE.out h0
    clear hA
    replace HPL := Lib.hid (HPL.out.below hb)
    replace HB := Lib.hid (HB.out.trans (hb.mono HB.out.size))
    clear hb
    go_wp2_with fail
    refine (xadd_any _ _ _ L x y _ HPL.out hn).mono ?_
    intro e w2 hA
    obtain ⟨rfl, hb⟩ := addP_no hA HCE.out h0
    clear hA
    replace HPL := Lib.hid (HPL.out.below hb)
    replace HB := Lib.hid (HB.out.trans (hb.mono HB.out.size))
    clear hb
    go_wp2_with fail
    refine (same_any _ _ _ _ _ [] _ (pr_nil _) (pr_nil _)).mono ?_
    rintro e w3 ⟨rfl, hb⟩
    replace HPL := Lib.hid (HPL.out.below hb)
    replace HB := Lib.hid (HB.out.trans (hb.mono HB.out.size))
    clear hb
    go_wp2_with fail
    cases ca
    · refine (remove_any _ _ _ L x y _ HPL.out hn).mono ?_
      intro e w5 hA
      obtain ⟨rfl, hb⟩ := remP_no hA HCA.out
      clear hA
      replace HPL := Lib.hid (HPL.out.below hb)
      replace HB := Lib.hid (HB.out.trans (hb.mono HB.out.size))
      clear hb
      go_wp2_with fail
      refine (xremove_any _ _ _ L x y _ HPL.out hn).mono ?_
      intro e w6 hA
      obtain ⟨rfl, hb⟩ := remP_no hA HCA.out
      clear hA
      replace HPL := Lib.hid (HPL.out.below hb)
      replace HB := Lib.hid (HB.out.trans (hb.mono HB.out.size))
      clear hb
      go_wp2_with fail
      refine (same_any _ _ _ _ _ [] _ (pr_nil _) (pr_nil _)).mono ?_
      rintro e w7 ⟨rfl, hb⟩
      replace HPL := Lib.hid (HPL.out.below hb)
      replace HB := Lib.hid (HB.out.trans (hb.mono HB.out.size))
      clear hb
      go_wp2_with fail
      refine (are_any _ _ _ (L) x y _ HPL.out false HCA.out).mono ?_
      rintro e w8 ⟨rfl, hb⟩
      replace HPL := Lib.hid (HPL.out.below hb)
      replace HB := Lib.hid (HB.out.trans (hb.mono HB.out.size))
      clear hb
      go_wp2_with fail
      refine (xare_any _ _ _ (L) x y _ HPL.out false HCA.out).mono ?_
      rintro e w9 ⟨rfl, hb⟩
      replace HPL := Lib.hid (HPL.out.below hb)
      replace HB := Lib.hid (HB.out.trans (hb.mono HB.out.size))
      clear hb
      go_wp2_with fail
      refine (awake_any _).mono ?_
      rintro e w10 ⟨rfl, hb⟩
      replace HPL := Lib.hid (HPL.out.below hb)
      replace HB := Lib.hid (HB.out.trans (hb.mono HB.out.size))
      clear hb
      go_wp2_with fail
      go_ret
      exact ⟨rfl, HB.out⟩
    · refine (remove_any _ _ _ L x y _ HPL.out hn).mono ?_
      intro e w5 hA
      obtain ⟨a3, c3, rfl, hp, hb⟩ := remP_ok hA HCA.out rfl
      clear hA
      have HR1 := Lib.hid hp
      replace HPL := Lib.hid (HPL.out.below hb)
      replace HB := Lib.hid (HB.out.trans (hb.mono HB.out.size))
      clear hb hp
      go_wp2_with fail
      refine (xremove_any _ _ _ L x y _ HPL.out hn).mono ?_
      intro e w6 hA
      obtain ⟨a4, c4, rfl, hp, hb⟩ := remP_ok hA HCA.out rfl
      clear hA
      have HR2 := Lib.hid hp
      replace HPL := Lib.hid (HPL.out.below hb)
      replace HR1 := Lib.hid (HR1.out.below hb)
      replace HB := Lib.hid (HB.out.trans (hb.mono HB.out.size))
      clear hb hp
      go_wp2_with fail
      refine (same_any _ _ _ _ _ (remF (normR L) (ordP x y)) _ HR1.out HR2.out).mono ?_
      rintro e w7 ⟨rfl, hb⟩
      replace HPL := Lib.hid (HPL.out.below hb)
      replace HR1 := Lib.hid (HR1.out.below hb)
      replace HR2 := Lib.hid (HR2.out.below hb)
      replace HB := Lib.hid (HB.out.trans (hb.mono HB.out.size))
      clear hb
      go_wp2_with fail
      refine (are_any _ _ _ (L) x y _ HPL.out true HCA.out).mono ?_
      rintro e w8 ⟨rfl, hb⟩
      replace HPL := Lib.hid (HPL.out.below hb)
      replace HR1 := Lib.hid (HR1.out.below hb)
      replace HR2 := Lib.hid (HR2.out.below hb)
      replace HB := Lib.hid (HB.out.trans (hb.mono HB.out.size))
      clear hb
      go_wp2_with fail
      refine (xare_any _ _ _ (L) x y _ HPL.out true HCA.out).mono ?_
      rintro e w9 ⟨rfl, hb⟩
      replace HPL := Lib.hid (HPL.out.below hb)
      replace HR1 := Lib.hid (HR1.out.below hb)
      replace HR2 := Lib.hid (HR2.out.below hb)
      replace HB := Lib.hid (HB.out.trans (hb.mono HB.out.size))
      clear hb
      go_wp2_with fail
      refine (awake_any _).mono ?_
      rintro e w10 ⟨rfl, hb⟩
      replace HPL := Lib.hid (HPL.out.below hb)
      replace HR1 := Lib.hid (HR1.out.below hb)
      replace HR2 := Lib.hid (HR2.out.below hb)
      replace HB := Lib.hid (HB.out.trans (hb.mono HB.out.size))
      clear hb
      go_wp2_with fail
      go_ret
      exact ⟨rfl, HB.out⟩

set_option maxRecDepth 20000 in
set_option maxHeartbeats 16000000 in
theorem undo_walk (a : Option Addr) (n cap : Nat) (L : List (Int × Int)) (x y u v : Int) (w : World) (h : Pr w a n cap L) (hn : n ≤ 8796093022206) :
    Calls Try.prog 8 #[.slice a n cap, .int .i64 x, .int .i64 y, .int .i64 u, .int .i64 v] w fun e w' => e = .returned (.bool true) ∧ Below w.heap.size w w' := by
  have HPL := Lib.hid h
  clear h
  have HB := Lib.hid (Below.refl w.heap.size w)
  obtain ⟨ce, hce⟩ : ∃ c, addE L x y = c := ⟨_, rfl⟩
  have HCE := Lib.hid hce
  clear hce
  by_cases h0 : ce = 0
  · subst h0
    obtain ⟨hxy, hLxy, hnl⟩ := addE_zero HCE.out
    have HA1 := Lib.hid (are_add (L := L) hxy)
    have HA2 := Lib.hid (show areP (addR L x y) y x = true by rw [areP_comm]; exact HA1.out)
    have HA3 := Lib.hid hLxy
    have HR := Lib.hid (rem_add hLxy hxy)
    have hml : (addR L x y).length ≤ 400 := by have := putL_len (ordP x y) (normR L); unfold addR; omega
    have HXY := Lib.hid hxy
    clear hxy hLxy hnl
    go_enter Try.func8, Try.ntmps8
    go_wp2_with fail
    refine (add_any _ _ _ L x y _ HPL.out hn).mono ?_
    intro e w1 hA
    obtain ⟨a1, c1, rfl, hp, hb⟩ := addP_ok hA HCE.out
    clear hA
    have HM := Lib.hid hp
    replace HPL := Lib.hid (HPL.out.below hb)
    replace HB := Lib.hid (HB.out.trans (hb.mono HB.out.size))
    clear hb hp
    obtain ⟨M, hM⟩ : ∃ M, addR L x y = M := ⟨_, rfl⟩
    rw [hM] at HM HA1 HA2 HR hml ⊢
    have HMM := Lib.hid hM
    clear hM
    obtain ⟨q, hq⟩ : ∃ q, M.length = q := ⟨_, rfl⟩
    rw [hq] at HM hml ⊢
    clear hq
    go_wp2_with fail
    refine (are_any _ _ _ (M) x y _ HM.out true HA1.out).mono ?_
    rintro e w2 ⟨rfl, hb⟩
    replace HPL := Lib.hid (HPL.out.below hb)
    replace HM := Lib.hid (HM.out.below hb)
    replace HB := Lib.hid (HB.out.trans (hb.mono HB.out.size))
    clear hb
    go_wp2_with fail
    refine (are_any _ _ _ (M) y x _ HM.out true HA2.out).mono ?_
    rintro e w3 ⟨rfl, hb⟩
    replace HPL := Lib.hid (HPL.out.below hb)
    replace HM := Lib.hid (HM.out.below hb)
    replace HB := Lib.hid (HB.out.trans (hb.mono HB.out.size))
    clear hb
    go_wp2_with fail
    refine (are_any _ _ _ (L) x y _ HPL.out false HA3.out).mono ?_
    rintro e w4 ⟨rfl, hb⟩
    replace HPL := Lib.hid (HPL.out.below hb)
    replace HM := Lib.hid (HM.out.below hb)
    replace HB := Lib.hid (HB.out.trans (hb.mono HB.out.size))
    clear hb
    have hxy := HXY.out
    by_cases e1 : u = x
    · obtain rfl := e1.symm
      by_cases e2 : v = y
      · obtain rfl := e2.symm
        clear hxy
        go_wp2_with fail
        refine (remove_any _ _ _ M y x _ HM.out (by omega)).mono ?_
        intro e w7 hA
        obtain ⟨a7, c7, rfl, hp, hb⟩ := remP_ok hA HA2.out HR.out
        clear hA
        have HQ := Lib.hid hp
        replace HPL := Lib.hid (HPL.out.below hb)
        replace HM := Lib.hid (HM.out.below hb)
        replace HB := Lib.hid (HB.out.trans (hb.mono HB.out.size))
        clear hb hp
        go_wp2_with fail
        refine (norm_any _ _ _ L _ HPL.out (by omega)).mono ?_
        rintro e w8 ⟨v8, rfl, ho, hb⟩
        obtain ⟨a8, c8, rfl, hp⟩ := ho.pr
        clear ho
        have HN8 := Lib.hid hp
        replace HPL := Lib.hid (HPL.out.below hb)
        replace HM := Lib.hid (HM.out.below hb)
        replace HQ := Lib.hid (HQ.out.below hb)
        replace HB := Lib.hid (HB.out.trans (hb.mono HB.out.size))
        clear hb hp
        go_wp2_with fail
        refine (same_any _ _ _ _ _ (normR L) _ HQ.out HN8.out).mono ?_
        rintro e w9 ⟨rfl, hb⟩
        replace HPL := Lib.hid (HPL.out.below hb)
        replace HM := Lib.hid (HM.out.below hb)
        replace HQ := Lib.hid (HQ.out.below hb)
        replace HN8 := Lib.hid (HN8.out.below hb)
        replace HB := Lib.hid (HB.out.trans (hb.mono HB.out.size))
        clear hb
        go_wp2_with fail
        refine (awake_any _).mono ?_
        rintro e w10 ⟨rfl, hb⟩
        replace HPL := Lib.hid (HPL.out.below hb)
        replace HM := Lib.hid (HM.out.below hb)
        replace HQ := Lib.hid (HQ.out.below hb)
        replace HN8 := Lib.hid (HN8.out.below hb)
        replace HB := Lib.hid (HB.out.trans (hb.mono HB.out.size))
        clear hb
        go_wp2_with fail
        go_ret
        exact ⟨rfl, HB.out⟩
      · have f2 : (v == y) = false := by simpa using e2
        have f3 : (x == y) = false := by simpa using hxy
        obtain ⟨co, hco⟩ : ∃ c, areP L x v = c := ⟨_, rfl⟩
        have HO1 := Lib.hid hco
        have HO2 := Lib.hid (show areP M x v = co by rw [← HMM.out, are_add_other (fun e => by rcases ordP_eq.1 e with ⟨h1, h2⟩ | ⟨h1, h2⟩ <;> first | exact e2 h2 | exact hxy h1), hco])
        clear hco
        have g0 : (co != co) = false := by cases co <;> rfl
        clear e2 hxy
        go_wp2_with fail
        refine (are_any _ _ _ (L) x v _ HPL.out co HO1.out).mono ?_
        rintro e w5 ⟨rfl, hb⟩
        replace HPL := Lib.hid (HPL.out.below hb)
        replace HM := Lib.hid (HM.out.below hb)
        replace HB := Lib.hid (HB.out.trans (hb.mono HB.out.size))
        clear hb
        go_wp2_with fail
        refine (are_any _ _ _ (M) x v _ HM.out co HO2.out).mono ?_
        rintro e w6 ⟨rfl, hb⟩
        replace HPL := Lib.hid (HPL.out.below hb)
        replace HM := Lib.hid (HM.out.below hb)
        replace HB := Lib.hid (HB.out.trans (hb.mono HB.out.size))
        clear hb
        go_wp2_with fail
        refine (remove_any _ _ _ M y x _ HM.out (by omega)).mono ?_
        intro e w7 hA
        obtain ⟨a7, c7, rfl, hp, hb⟩ := remP_ok hA HA2.out HR.out
        clear hA
        have HQ := Lib.hid hp
        replace HPL := Lib.hid (HPL.out.below hb)
        replace HM := Lib.hid (HM.out.below hb)
        replace HB := Lib.hid (HB.out.trans (hb.mono HB.out.size))
        clear hb hp
        go_wp2_with fail
        refine (norm_any _ _ _ L _ HPL.out (by omega)).mono ?_
        rintro e w8 ⟨v8, rfl, ho, hb⟩
        obtain ⟨a8, c8, rfl, hp⟩ := ho.pr
        clear ho
        have HN8 := Lib.hid hp
        replace HPL := Lib.hid (HPL.out.below hb)
        replace HM := Lib.hid (HM.out.below hb)
        replace HQ := Lib.hid (HQ.out.below hb)
        replace HB := Lib.hid (HB.out.trans (hb.mono HB.out.size))
        clear hb hp
        go_wp2_with fail
        refine (same_any _ _ _ _ _ (normR L) _ HQ.out HN8.out).mono ?_
        rintro e w9 ⟨rfl, hb⟩
        replace HPL := Lib.hid (HPL.out.below hb)
        replace HM := Lib.hid (HM.out.below hb)
        replace HQ := Lib.hid (HQ.out.below hb)
        replace HN8 := Lib.hid (HN8.out.below hb)
        replace HB := Lib.hid (HB.out.trans (hb.mono HB.out.size))
        clear hb
        go_wp2_with fail
        refine (awake_any _).mono ?_
        rintro e w10 ⟨rfl, hb⟩
        replace HPL := Lib.hid (HPL.out.below hb)
        replace HM := Lib.hid (HM.out.below hb)
        replace HQ := Lib.hid (HQ.out.below hb)
        replace HN8 := Lib.hid (HN8.out.below hb)
        replace HB := Lib.hid (HB.out.trans (hb.mono HB.out.size))
        clear hb
        go_wp2_with fail
        go_ret
        exact ⟨rfl, HB.out⟩
    · have f1 : (u == x) = false := by simpa using e1
      by_cases e3 : u = y
      · obtain rfl := e3.symm
        by_cases e4 : v = x
        · obtain rfl := e4.symm
          clear hxy e1
          go_wp2_with fail
          refine (remove_any _ _ _ M y x _ HM.out (by omega)).mono ?_
          intro e w7 hA
          obtain ⟨a7, c7, rfl, hp, hb⟩ := remP_ok hA HA2.out HR.out
          clear hA
          have HQ := Lib.hid hp
          replace HPL := Lib.hid (HPL.out.below hb)
          replace HM := Lib.hid (HM.out.below hb)
          replace HB := Lib.hid (HB.out.trans (hb.mono HB.out.size))
          clear hb hp
          go_wp2_with fail
          refine (norm_any _ _ _ L _ HPL.out (by omega)).mono ?_
          rintro e w8 ⟨v8, rfl, ho, hb⟩
          obtain ⟨a8, c8, rfl, hp⟩ := ho.pr
          clear ho
          have HN8 := Lib.hid hp
          replace HPL := Lib.hid (HPL.out.below hb)
          replace HM := Lib.hid (HM.out.below hb)
          replace HQ := Lib.hid (HQ.out.below hb)
          replace HB := Lib.hid (HB.out.trans (hb.mono HB.out.size))
          clear hb hp
          go_wp2_with fail
          refine (same_any _ _ _ _ _ (normR L) _ HQ.out HN8.out).mono ?_
          rintro e w9 ⟨rfl, hb⟩
          replace HPL := Lib.hid (HPL.out.below hb)
          replace HM := Lib.hid (HM.out.below hb)
          replace HQ := Lib.hid (HQ.out.below hb)
          replace HN8 := Lib.hid (HN8.out.below hb)
          replace HB := Lib.hid (HB.out.trans (hb.mono HB.out.size))
          clear hb
          go_wp2_with fail
          refine (awake_any _).mono ?_
          rintro e w10 ⟨rfl, hb⟩
          replace HPL := Lib.hid (HPL.out.below hb)
          replace HM := Lib.hid (HM.out.below hb)
          replace HQ := Lib.hid (HQ.out.below hb)
          replace HN8 := Lib.hid (HN8.out.below hb)
          replace HB := Lib.hid (HB.out.trans (hb.mono HB.out.size))
          clear hb
          go_wp2_with fail
          go_ret
          exact ⟨rfl, HB.out⟩
        · have f4 : (v == x) = false := by simpa using e4
          obtain ⟨co, hco⟩ : ∃ c, areP L y v = c := ⟨_, rfl⟩
          have HO1 := Lib.hid hco
          have HO2 := Lib.hid (show areP M y v = co by rw [← HMM.out, are_add_other (fun e => by rcases ordP_eq.1 e with ⟨h1, h2⟩ | ⟨h1, h2⟩ <;> first | exact e1 h1 | exact e4 h2), hco])
          clear hco
          have g0 : (co != co) = false := by cases co <;> rfl
          clear e1 e4 hxy
          go_wp2_with fail
          refine (are_any _ _ _ (L) y v _ HPL.out co HO1.out).mono ?_
          rintro e w5 ⟨rfl, hb⟩
          replace HPL := Lib.hid (HPL.out.below hb)
          replace HM := Lib.hid (HM.out.below hb)
          replace HB := Lib.hid (HB.out.trans (hb.mono HB.out.size))
          clear hb
          go_wp2_with fail
          refine (are_any _ _ _ (M) y v _ HM.out co HO2.out).mono ?_
          rintro e w6 ⟨rfl, hb⟩
          replace HPL := Lib.hid (HPL.out.below hb)
          replace HM := Lib.hid (HM.out.below hb)
          replace HB := Lib.hid (HB.out.trans (hb.mono HB.out.size))
          clear hb
          go_wp2_with fail
          refine (remove_any _ _ _ M y x _ HM.out (by omega)).mono ?_
          intro e w7 hA
          obtain ⟨a7, c7, rfl, hp, hb⟩ := remP_ok hA HA2.out HR.out
          clear hA
          have HQ := Lib.hid hp
          replace HPL := Lib.hid (HPL.out.below hb)
          replace HM := Lib.hid (HM.out.below hb)
          replace HB := Lib.hid (HB.out.trans (hb.mono HB.out.size))
          clear hb hp
          go_wp2_with fail
          refine (norm_any _ _ _ L _ HPL.out (by omega)).mono ?_
          rintro e w8 ⟨v8, rfl, ho, hb⟩
          obtain ⟨a8, c8, rfl, hp⟩ := ho.pr
          clear ho
          have HN8 := Lib.hid hp
          replace HPL := Lib.hid (HPL.out.below hb)
          replace HM := Lib.hid (HM.out.below hb)
          replace HQ := Lib.hid (HQ.out.below hb)
          replace HB := Lib.hid (HB.out.trans (hb.mono HB.out.size))
          clear hb hp
          go_wp2_with fail
          refine (same_any _ _ _ _ _ (normR L) _ HQ.out HN8.out).mono ?_
          rintro e w9 ⟨rfl, hb⟩
          replace HPL := Lib.hid (HPL.out.below hb)
          replace HM := Lib.hid (HM.out.below hb)
          replace HQ := Lib.hid (HQ.out.below hb)
          replace HN8 := Lib.hid (HN8.out.below hb)
          replace HB := Lib.hid (HB.out.trans (hb.mono HB.out.size))
          clear hb
          go_wp2_with fail
          refine (awake_any _).mono ?_
          rintro e w10 ⟨rfl, hb⟩
          replace HPL := Lib.hid (HPL.out.below hb)
          replace HM := Lib.hid (HM.out.below hb)
          replace HQ := Lib.hid (HQ.out.below hb)
          replace HN8 := Lib.hid (HN8.out.below hb)
          replace HB := Lib.hid (HB.out.trans (hb.mono HB.out.size))
          clear hb
          go_wp2_with fail
          go_ret
          exact ⟨rfl, HB.out⟩
      · have f3 : (u == y) = false := by simpa using e3
        obtain ⟨co, hco⟩ : ∃ c, areP L u v = c := ⟨_, rfl⟩
        have HO1 := Lib.hid hco
        have HO2 := Lib.hid (show areP M u v = co by rw [← HMM.out, are_add_other (fun e => by rcases ordP_eq.1 e with ⟨h1, h2⟩ | ⟨h1, h2⟩ <;> first | exact e1 h1 | exact e3 h1), hco])
        clear hco
        have g0 : (co != co) = false := by cases co <;> rfl
        clear e1 e3 hxy
        go_wp2_with fail
        refine (are_any _ _ _ (L) u v _ HPL.out co HO1.out).mono ?_
        rintro e w5 ⟨rfl, hb⟩
        replace HPL := Lib.hid (HPL.out.below hb)
        replace HM := Lib.hid (HM.out.below hb)
        replace HB := Lib.hid (HB.out.trans (hb.mono HB.out.size))
        clear hb
        go_wp2_with fail
        refine (are_any _ _ _ (M) u v _ HM.out co HO2.out).mono ?_
        rintro e w6 ⟨rfl, hb⟩
        replace HPL := Lib.hid (HPL.out.below hb)
        replace HM := Lib.hid (HM.out.below hb)
        replace HB := Lib.hid (HB.out.trans (hb.mono HB.out.size))
        clear hb
        go_wp2_with fail
        refine (remove_any _ _ _ M y x _ HM.out (by omega)).mono ?_
        intro e w7 hA
        obtain ⟨a7, c7, rfl, hp, hb⟩ := remP_ok hA HA2.out HR.out
        clear hA
        have HQ := Lib.hid hp
        replace HPL := Lib.hid (HPL.out.below hb)
        replace HM := Lib.hid (HM.out.below hb)
        replace HB := Lib.hid (HB.out.trans (hb.mono HB.out.size))
        clear hb hp
        go_wp2_with fail
        refine (norm_any _ _ _ L _ HPL.out (by omega)).mono ?_
        rintro e w8 ⟨v8, rfl, ho, hb⟩
        obtain ⟨a8, c8, rfl, hp⟩ := ho.pr
        clear ho
        have HN8 := Lib.hid hp
        replace HPL := Lib.hid (HPL.out.below hb)
        replace HM := Lib.hid (HM.out.below hb)
        replace HQ := Lib.hid (HQ.out.below hb)
        replace HB := Lib.hid (HB.out.trans (hb.mono HB.out.size))
        clear hb hp
        go_wp2_with fail
        refine (same_any _ _ _ _ _ (normR L) _ HQ.out HN8.out).mono ?_
        rintro e w9 ⟨rfl, hb⟩
        replace HPL := Lib.hid (HPL.out.below hb)
        replace HM := Lib.hid (HM.out.below hb)
        replace HQ := Lib.hid (HQ.out.below hb)
        replace HN8 := Lib.hid (HN8.out.below hb)
        replace HB := Lib.hid (HB.out.trans (hb.mono HB.out.size))
        clear hb
        go_wp2_with fail
        refine (awake_any _).mono ?_
        rintro e w10 ⟨rfl, hb⟩
        replace HPL := Lib.hid (HPL.out.below hb)
        replace HM := Lib.hid (HM.out.below hb)
        replace HQ := Lib.hid (HQ.out.below hb)
        replace HN8 := Lib.hid (HN8.out.below hb)
        replace HB := Lib.hid (HB.out.trans (hb.mono HB.out.size))
        clear hb
        go_wp2_with fail
        go_ret
        exact ⟨rfl, HB.out⟩
  · have hc0 : ((ce : Int) != 0) = true := by simp; omega
    have hc1 : ¬ (ce : Int) = 0 := by omega
    go_enter Try.func8, Try.ntmps8
    go_wp2_with fail
    refine (add_any _ _ _ L x y _ HPL.out hn).mono ?_
    intro e w1 hA
    obtain ⟨rfl, hb⟩ := addP_no hA HCE.out h0
    clear hA
    replace HPL := Lib.hid (HPL.out.below hb)
    replace HB := Lib.hid (HB.out.trans (hb.mono HB.out.size))
    clear hb
    go_wp2_with fail
    refine (awake_any _).mono ?_
    rintro e w2 ⟨rfl, hb⟩
    replace HPL := Lib.hid (HPL.out.below hb)
    replace HB := Lib.hid (HB.out.trans (hb.mono HB.out.size))
    clear hb
    go_wp2_with fail
    go_ret
    exact ⟨rfl, HB.out⟩

end Go.Proofs.Ytonnbcongnkcdaa
