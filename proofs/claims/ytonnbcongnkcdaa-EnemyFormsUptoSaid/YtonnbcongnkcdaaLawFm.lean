/- The statement that no result depends on the form of the relation: its walk. Condition: at most 2^39 elements. -/
import Derived.Test.YtonnbcongnkcdaaLawNm
namespace Go.Proofs.Ytonnbcongnkcdaa
open Go.RowKit


set_option maxRecDepth 20000 in
set_option maxHeartbeats 8000000 in
theorem forms_walk (a : Option Addr) (n cap : Nat) (L : List (Int × Int)) (ia : Option Addr) (m ic : Nat) (ids : List Int) (x y : Int) (w : World) (h : Pr w a n cap L) (hL64 : ∀ p ∈ L, W64 p.1 ∧ W64 p.2) (hz : Zl w ia m ic ids) (h64 : ∀ y ∈ ids, W64 y) (hn : n ≤ 549755813888) (hm : m ≤ 549755813888) :
    Calls Try.prog 9 #[.slice a n cap, .slice ia m ic, .int .i64 x, .int .i64 y] w fun e w' => e = .returned (.bool true) ∧ Below w.heap.size w w' := by
  have HPL := Lib.hid h
  have HZ := Lib.hid hz
  have HL64 := Lib.hid hL64
  have H64 := Lib.hid h64
  have HN64 := Lib.hid (normR_64 hL64)
  have hLn := h.1
  have hNl : (normR L).length ≤ n := by have := normR_len L L.length (Nat.le_refl _); rw [List.take_length] at this; omega
  clear h hz hL64 h64 hLn
  have HB := Lib.hid (Below.refl w.heap.size w)
  have HNN := Lib.hid (normR_idem L)
  obtain ⟨ce, hce⟩ : ∃ c, addE L x y = c := ⟨_, rfl⟩
  have HCE := Lib.hid hce
  have HCE2 := Lib.hid (show addE (normR L) y x = ce by rw [addE_norm]; exact hce)
  have HAR := Lib.hid (addR_norm L x y)
  obtain ⟨ca, hca⟩ : ∃ c, areP L x y = c := ⟨_, rfl⟩
  have HCA := Lib.hid hca
  have HCA2 := Lib.hid (show areP (normR L) y x = ca by rw [areP_norm, areP_comm]; exact hca)
  clear hca hce
  obtain ⟨N, hN⟩ : ∃ N, normR L = N := ⟨_, rfl⟩
  rw [hN] at hNl HNN HN64 HCE2 HAR HCA2
  have HN := Lib.hid hN
  clear hN
  obtain ⟨q, hq⟩ : ∃ q, N.length = q := ⟨_, rfl⟩
  have HQ := Lib.hid hq
  clear hq
  go_enter Try.func9, Try.ntmps9
  go_wp2_with fail
  refine (norm_any _ _ _ L _ HPL.out (by omega)).mono ?_
  rintro e w1 ⟨v1, rfl, ho, hb⟩
  rw [HN.out] at ho
  obtain ⟨a1, c1, rfl, hp⟩ := ho.pr
  rw [HQ.out] at hp hNl ⊢
  clear ho
  have HPN := Lib.hid hp
  replace HPL := Lib.hid (HPL.out.below hb)
  replace HZ := Lib.hid (HZ.out.below hb)
  replace HB := Lib.hid (HB.out.trans (hb.mono HB.out.size))
  clear hb hp
  go_wp2_with fail
  refine (norm_any _ _ _ N _ HPN.out (by omega)).mono ?_
  rintro e w2 ⟨v2, rfl, ho, hb⟩
  rw [HNN.out] at ho
  obtain ⟨a2, c2, rfl, hp⟩ := ho.pr
  rw [HQ.out] at hp ⊢
  clear ho
  have HPM := Lib.hid hp
  replace HPL := Lib.hid (HPL.out.below hb)
  replace HZ := Lib.hid (HZ.out.below hb)
  replace HPN := Lib.hid (HPN.out.below hb)
  replace HB := Lib.hid (HB.out.trans (hb.mono HB.out.size))
  clear hb hp
  go_wp2_with fail
  refine (same_any _ _ _ _ _ (N) _ HPM.out HPN.out).mono ?_
  rintro e w3 ⟨rfl, hb⟩
  replace HPL := Lib.hid (HPL.out.below hb)
  replace HZ := Lib.hid (HZ.out.below hb)
  replace HPN := Lib.hid (HPN.out.below hb)
  replace HPM := Lib.hid (HPM.out.below hb)
  replace HB := Lib.hid (HB.out.trans (hb.mono HB.out.size))
  clear hb
  clear HPM
  have ec : (ca != ca) = false := by cases ca <;> rfl
  go_wp2_with fail
  refine (are_any _ _ _ (L) x y _ HPL.out ca HCA.out).mono ?_
  rintro e w4 ⟨rfl, hb⟩
  replace HPL := Lib.hid (HPL.out.below hb)
  replace HZ := Lib.hid (HZ.out.below hb)
  replace HPN := Lib.hid (HPN.out.below hb)
  replace HB := Lib.hid (HB.out.trans (hb.mono HB.out.size))
  clear hb
  go_wp2_with fail
  refine (are_any _ _ _ (N) y x _ HPN.out ca HCA2.out).mono ?_
  rintro e w5 ⟨rfl, hb⟩
  replace HPL := Lib.hid (HPL.out.below hb)
  replace HZ := Lib.hid (HZ.out.below hb)
  replace HPN := Lib.hid (HPN.out.below hb)
  replace HB := Lib.hid (HB.out.trans (hb.mono HB.out.size))
  clear hb
  go_wp2_with fail
  refine (conflicts_any _ _ _ L _ _ _ ids _ HPL.out HL64.out HZ.out H64.out (by omega) (by omega)).mono ?_
  rintro e w6 ⟨v6, rfl, ho, hb⟩
  rw [HN.out] at ho
  obtain ⟨a6, c6, rfl, hp⟩ := ho.pr
  clear ho
  have HC6 := Lib.hid hp
  replace HPL := Lib.hid (HPL.out.below hb)
  replace HZ := Lib.hid (HZ.out.below hb)
  replace HPN := Lib.hid (HPN.out.below hb)
  replace HB := Lib.hid (HB.out.trans (hb.mono HB.out.size))
  clear hb hp
  go_wp2_with fail
  refine (conflicts_any _ _ _ N _ _ _ ids _ HPN.out HN64.out HZ.out H64.out (by omega) (by omega)).mono ?_
  rintro e w7 ⟨v7, rfl, ho, hb⟩
  rw [HNN.out] at ho
  obtain ⟨a7, c7, rfl, hp⟩ := ho.pr
  clear ho
  have HC7 := Lib.hid hp
  replace HPL := Lib.hid (HPL.out.below hb)
  replace HZ := Lib.hid (HZ.out.below hb)
  replace HPN := Lib.hid (HPN.out.below hb)
  replace HC6 := Lib.hid (HC6.out.below hb)
  replace HB := Lib.hid (HB.out.trans (hb.mono HB.out.size))
  clear hb hp
  go_wp2_with fail
  refine (same_any _ _ _ _ _ (cfl N ids) _ HC6.out HC7.out).mono ?_
  rintro e w8 ⟨rfl, hb⟩
  replace HPL := Lib.hid (HPL.out.below hb)
  replace HZ := Lib.hid (HZ.out.below hb)
  replace HPN := Lib.hid (HPN.out.below hb)
  replace HC6 := Lib.hid (HC6.out.below hb)
  replace HC7 := Lib.hid (HC7.out.below hb)
  replace HB := Lib.hid (HB.out.trans (hb.mono HB.out.size))
  clear hb
  clear HC6 HC7
  clear ec HCA HCA2
  go_wp2_with fail
  by_cases h0 : ce = 0
  · subst h0
    refine (add_any _ _ _ L x y _ HPL.out (by omega)).mono ?_
    intro e w9 hA
    obtain ⟨a9, c9, rfl, hp, hb⟩ := addP_ok hA HCE.out
    clear hA
    have HA1 := Lib.hid hp
    replace HPL := Lib.hid (HPL.out.below hb)
    replace HZ := Lib.hid (HZ.out.below hb)
    replace HPN := Lib.hid (HPN.out.below hb)
    replace HB := Lib.hid (HB.out.trans (hb.mono HB.out.size))
    clear hb hp
    go_wp2_with fail
    refine (add_any _ _ _ N y x _ HPN.out (by omega)).mono ?_
    intro e w10 hA
    obtain ⟨a10, c10, rfl, hp, hb⟩ := addP_ok hA HCE2.out
    rw [HAR.out] at hp ⊢
    clear hA
    have HA2 := Lib.hid hp
    replace HPL := Lib.hid (HPL.out.below hb)
    replace HZ := Lib.hid (HZ.out.below hb)
    replace HPN := Lib.hid (HPN.out.below hb)
    replace HA1 := Lib.hid (HA1.out.below hb)
    replace HB := Lib.hid (HB.out.trans (hb.mono HB.out.size))
    clear hb hp
    go_wp2_with fail
    refine (same_any _ _ _ _ _ (addR L x y) _ HA1.out HA2.out).mono ?_
    rintro e w11 ⟨rfl, hb⟩
    replace HPL := Lib.hid (HPL.out.below hb)
    replace HZ := Lib.hid (HZ.out.below hb)
    replace HPN := Lib.hid (HPN.out.below hb)
    replace HA1 := Lib.hid (HA1.out.below hb)
    replace HA2 := Lib.hid (HA2.out.below hb)
    replace HB := Lib.hid (HB.out.trans (hb.mono HB.out.size))
    clear hb
    clear HA1 HA2
    go_wp2_with fail
    refine (groups_any _ _ _ L _ _ _ ids _ HPL.out HL64.out HZ.out H64.out (by omega) (by omega)).mono ?_
    rintro e w12 ⟨v12, G, rfl, hG, hgn, hb⟩
    rw [HN.out] at hG
    obtain ⟨a12, c12, rfl, hgl⟩ := hgn.gl
    clear hgn
    have HG1 := Lib.hid hgl
    replace HPL := Lib.hid (HPL.out.below hb)
    replace HZ := Lib.hid (HZ.out.below hb)
    replace HPN := Lib.hid (HPN.out.below hb)
    replace HB := Lib.hid (HB.out.trans (hb.mono HB.out.size))
    clear hb hgl
    have HGG := Lib.hid hG
    clear hG
    go_wp2_with fail
    refine (groups_any _ _ _ N _ _ _ ids _ HPN.out HN64.out HZ.out H64.out (by omega) (by omega)).mono ?_
    rintro e w13 ⟨v13, G2, rfl, hG, hgn, hb⟩
    rw [HNN.out] at hG
    obtain ⟨a13, c13, rfl, hgl⟩ := hgn.gl
    clear hgn
    have HG2 := Lib.hid hgl
    replace HPL := Lib.hid (HPL.out.below hb)
    replace HZ := Lib.hid (HZ.out.below hb)
    replace HPN := Lib.hid (HPN.out.below hb)
    replace HG1 := Lib.hid (HG1.out.below hb)
    replace HB := Lib.hid (HB.out.trans (hb.mono HB.out.size))
    clear hb hgl
    obtain rfl := HGG.out.unique hG
    clear hG
    go_wp2_with fail
    refine (sameg_any _ _ _ _ _ G _ HG1.out HG2.out).mono ?_
    rintro e w14 ⟨rfl, hb⟩
    replace HPL := Lib.hid (HPL.out.below hb)
    replace HZ := Lib.hid (HZ.out.below hb)
    replace HPN := Lib.hid (HPN.out.below hb)
    replace HG1 := Lib.hid (HG1.out.below hb)
    replace HG2 := Lib.hid (HG2.out.below hb)
    replace HB := Lib.hid (HB.out.trans (hb.mono HB.out.size))
    clear hb
    go_wp2_with fail
    refine (awake_any _).mono ?_
    rintro e w15 ⟨rfl, hb⟩
    replace HPL := Lib.hid (HPL.out.below hb)
    replace HZ := Lib.hid (HZ.out.below hb)
    replace HPN := Lib.hid (HPN.out.below hb)
    replace HG1 := Lib.hid (HG1.out.below hb)
    replace HG2 := Lib.hid (HG2.out.below hb)
    replace HB := Lib.hid (HB.out.trans (hb.mono HB.out.size))
    clear hb
    go_wp2_with fail
    go_ret
    exact ⟨rfl, HB.out⟩
  · have he0 : ((ce : Int) == (ce : Int)) = true := by simp
    refine (add_any _ _ _ L x y _ HPL.out (by omega)).mono ?_
    intro e w9 hA
    obtain ⟨rfl, hb⟩ := addP_no hA HCE.out h0
    clear hA
    replace HPL := Lib.hid (HPL.out.below hb)
    replace HZ := Lib.hid (HZ.out.below hb)
    replace HPN := Lib.hid (HPN.out.below hb)
    replace HB := Lib.hid (HB.out.trans (hb.mono HB.out.size))
    clear hb
    go_wp2_with fail
    refine (add_any _ _ _ N y x _ HPN.out (by omega)).mono ?_
    intro e w10 hA
    obtain ⟨rfl, hb⟩ := addP_no hA HCE2.out h0
    clear hA
    replace HPL := Lib.hid (HPL.out.below hb)
    replace HZ := Lib.hid (HZ.out.below hb)
    replace HPN := Lib.hid (HPN.out.below hb)
    replace HB := Lib.hid (HB.out.trans (hb.mono HB.out.size))
    clear hb
    go_wp2_with fail
    refine (same_any _ _ _ _ _ [] _ (pr_nil _) (pr_nil _)).mono ?_
    rintro e w11 ⟨rfl, hb⟩
    replace HPL := Lib.hid (HPL.out.below hb)
    replace HZ := Lib.hid (HZ.out.below hb)
    replace HPN := Lib.hid (HPN.out.below hb)
    replace HB := Lib.hid (HB.out.trans (hb.mono HB.out.size))
    clear hb
    go_wp2_with fail
    refine (groups_any _ _ _ L _ _ _ ids _ HPL.out HL64.out HZ.out H64.out (by omega) (by omega)).mono ?_
    rintro e w12 ⟨v12, G, rfl, hG, hgn, hb⟩
    rw [HN.out] at hG
    obtain ⟨a12, c12, rfl, hgl⟩ := hgn.gl
    clear hgn
    have HG1 := Lib.hid hgl
    replace HPL := Lib.hid (HPL.out.below hb)
    replace HZ := Lib.hid (HZ.out.below hb)
    replace HPN := Lib.hid (HPN.out.below hb)
    replace HB := Lib.hid (HB.out.trans (hb.mono HB.out.size))
    clear hb hgl
    have HGG := Lib.hid hG
    clear hG
    go_wp2_with fail
    refine (groups_any _ _ _ N _ _ _ ids _ HPN.out HN64.out HZ.out H64.out (by omega) (by omega)).mono ?_
    rintro e w13 ⟨v13, G2, rfl, hG, hgn, hb⟩
    rw [HNN.out] at hG
    obtain ⟨a13, c13, rfl, hgl⟩ := hgn.gl
    clear hgn
    have HG2 := Lib.hid hgl
    replace HPL := Lib.hid (HPL.out.below hb)
    replace HZ := Lib.hid (HZ.out.below hb)
    replace HPN := Lib.hid (HPN.out.below hb)
    replace HG1 := Lib.hid (HG1.out.below hb)
    replace HB := Lib.hid (HB.out.trans (hb.mono HB.out.size))
    clear hb hgl
    obtain rfl := HGG.out.unique hG
    clear hG
    go_wp2_with fail
    refine (sameg_any _ _ _ _ _ G _ HG1.out HG2.out).mono ?_
    rintro e w14 ⟨rfl, hb⟩
    replace HPL := Lib.hid (HPL.out.below hb)
    replace HZ := Lib.hid (HZ.out.below hb)
    replace HPN := Lib.hid (HPN.out.below hb)
    replace HG1 := Lib.hid (HG1.out.below hb)
    replace HG2 := Lib.hid (HG2.out.below hb)
    replace HB := Lib.hid (HB.out.trans (hb.mono HB.out.size))
    clear hb
    go_wp2_with fail
    refine (awake_any _).mono ?_
    rintro e w15 ⟨rfl, hb⟩
    replace HPL := Lib.hid (HPL.out.below hb)
    replace HZ := Lib.hid (HZ.out.below hb)
    replace HPN := Lib.hid (HPN.out.below hb)
    replace HG1 := Lib.hid (HG1.out.below hb)
    replace HG2 := Lib.hid (HG2.out.below hb)
    replace HB := Lib.hid (HB.out.trans (hb.mono HB.out.size))
    clear hb
    go_wp2_with fail
    go_ret
    exact ⟨rfl, HB.out⟩

end Go.Proofs.Ytonnbcongnkcdaa
