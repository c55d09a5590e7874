/- Contracts of the reference's integers: Norm, Make, Of, Sign, Cmp, Neg, Mul, Add: for integers of at most 2^38 limbs. Contracts of the reference's rational numbers: zero, top, low, reduce, Make, Of, Sign: for at most 2^36 limbs in a part. Contract of the reference's Mul of rational numbers: for at most 2^36 limbs in a part. Contracts of the reference's Make and Of of rational numbers. Contract of the reference's Cmp of rational numbers: for at most 2^36 limbs in a part. -/
import Derived.Test.YtmljfaplohbjcaaAl
import Derived.Test.YtmljfaplohbjcaaJoP
import Derived.Test.YtmljfaplohbjcaaJoN2
import Derived.Test.YtmljfaplohbjcaaJoR1
namespace Go.Proofs.Ytmljfaplohbjcaa
open Go.RowKit

set_option maxHeartbeats 1000000 in
theorem xinorm_core {N : Nat} (s : Bool) (a : Option Addr) (n cap m : Nat) (w : World) (hN : N ≤ w.heap.size) (h : Nt N w a n cap m) (hl : n ≤ 1099511627776) :
    Calls Try.prog 91 #[.agg #[.bool s, .slice a n cap]] w fun e w' => ∃ r cr, e = .returned (.agg #[.bool (s && decide (0 < m)), .slice r (nlen m) cr]) ∧ Nt N w' r (nlen m) cr m ∧ Below w.heap.size w w' := by
  have H := Lib.hid ((h.alloc (.cells #[.bool s, .slice a n cap] 36)).alloc (.cells #[.bool false, .slice none 0 0] 36))
  clear h
  go_enter Try.func91, Try.ntmps91
  go_wp2_with fail
  refine (xnorm_any (N := N) _ _ _ m _ H.out (by omega)).mono ?_
  rintro e wa ⟨r, cr, rfl, hn, hb⟩
  obtain ⟨hcwa, hfwa⟩ := bcell hb
  have hzwa0 : w.heap.size < wa.heap.size := by have := hb.size; (try simp at this); omega
  have hzwa1 : w.heap.size + 1 < wa.heap.size := by have := hb.size; (try simp at this); omega
  have HBwa := Lib.hid hb
  have HNwa := Lib.hid hn
  clear hb hn
  have HX := Lib.hid ((Bx.new' (w.alloc (.cells #[.bool s, .slice a n cap] 36)) #[.bool false, .slice none 0 0] 36 (w.heap.size + 1) (by simp)).below HBwa.out)
  have HF := Lib.hid (fun v0 v1 => fin2 hN (by omega) HX.out HNwa.out ((bel2 w _ _).trans (HBwa.out.mono (by first | omega | (simp; done) | (simp; omega)))) v0 v1)
  cases s
  · go_wp2_with fail
    exact bodyPost_ret (v := .agg #[.bool false, .slice r (nlen m) cr]) (by simp [results, Try.results91, go_sem, hcwa]) rfl ⟨_, _, rfl, (HF.out _ _).1, (HF.out _ _).2⟩
  · have hd : decide (0 < nlen m) = decide (0 < m) := by
      rcases Nat.eq_zero_or_pos m with h | h
      · subst h; simp [nlen_zero]
      · have : nlen m ≠ 0 := fun e => by rw [nlen_eq_zero] at e; omega
        simp [h]; omega
    have HD := Lib.hid hd
    clear hd
    go_wp2_with fail
    exact bodyPost_ret (v := .agg #[.bool (decide (0 < nlen m)), .slice r (nlen m) cr]) (by simp [results, Try.results91, go_sem, hcwa]) rfl ⟨_, _, by rw [HD.out]; rfl, (HF.out _ _).1, (HF.out _ _).2⟩
theorem xinorm_any {N : Nat} (s : Bool) (a : Option Addr) (n cap m : Nat) (w : World) (hN : N ≤ w.heap.size) (h : Nt N w a n cap m) (hl : n ≤ 1099511627776) (z : Int) (hz : zI s m = z) :
    Calls Try.prog 91 #[.agg #[.bool s, .slice a n cap]] w fun e w' => ∃ r cr, e = .returned (.agg #[.bool (decide (z < 0)), .slice r (nlen z.natAbs) cr]) ∧ Nt N w' r (nlen z.natAbs) cr z.natAbs ∧ Below w.heap.size w w' := by
  have h1 := xinorm_core s a n cap m w hN h hl
  rw [zI_neg, hz] at h1
  have h2 := zI_abs s m
  rw [hz] at h2
  rw [h2]
  exact h1

set_option maxHeartbeats 1000000 in
theorem xmake_z {N : Nat} (neg : Bool) (a : Option Addr) (n cap m : Nat) (w : World) (hN : N ≤ w.heap.size) (h : Nt N w a n cap m) (hl : n ≤ 1099511627776) (z : Int) (hz : zI neg m = z) :
    Calls Try.prog 78 #[.bool neg, .slice a n cap] w fun e w' => ∃ r cr, e = .returned (.agg #[.bool (decide (z < 0)), .slice r (nlen z.natAbs) cr]) ∧ Nt N w' r (nlen z.natAbs) cr z.natAbs ∧ Below w.heap.size w w' := by
  have H := Lib.hid (h.alloc (.cells #[.bool false, .slice none 0 0] 36))
  have HZ := Lib.hid hz
  clear h hz
  go_enter Try.func78, Try.ntmps78
  go_wp2_with fail
  refine (xinorm_any (N := N) neg _ _ _ m _ (by simp; omega) H.out hl z HZ.out).mono ?_
  rintro e wa ⟨r, cr, rfl, hn, hb⟩
  obtain ⟨hcwa, hfwa⟩ := bcell hb
  have hzwa0 : w.heap.size < wa.heap.size := by have := hb.size; (try simp at this); omega
  have HBwa := Lib.hid hb
  have HNwa := Lib.hid hn
  clear hb hn
  have HX := Lib.hid ((Bx.new w #[.bool false, .slice none 0 0] 36).below HBwa.out)
  have HF := Lib.hid (fun v0 v1 => fin2 hN (Nat.le_refl _) HX.out HNwa.out ((bel1 w _).trans (HBwa.out.mono (by first | omega | (simp; done) | (simp; omega)))) v0 v1)
  go_wp2_with fail
  exact bodyPost_ret (v := .agg #[.bool (decide (z < 0)), .slice r (nlen z.natAbs) cr]) (by simp [results, Try.results78, go_sem, hcwa]) rfl ⟨_, _, rfl, (HF.out _ _).1, (HF.out _ _).2⟩

theorem conv_negx (z : Int) (h : -9223372036854775808 ≤ z) (h0 : z < 0) : IntKind.u64.wrap (IntKind.u64.wrap (-(z + 1)) + 1) = (z.natAbs : Int) := by
  rw [wrap_u64, wrap_u64]; omega
theorem conv_negy (z : Int) (h : -9223372036854775808 ≤ z) (h0 : z < 0) : -(z + 1) + 1 = (z.natAbs : Int) := by omega

set_option maxHeartbeats 1000000 in
theorem xiof_any {N : Nat} (z : Int) (w : World) (hN : N ≤ w.heap.size) (h1 : -9223372036854775808 ≤ z) (h2 : z ≤ 9223372036854775807) :
    Calls Try.prog 96 #[.int .i64 z] w fun e w' => ∃ r cr, e = .returned (.agg #[.bool (decide (z < 0)), .slice r (nlen z.natAbs) cr]) ∧ Nt N w' r (nlen z.natAbs) cr z.natAbs ∧ Below w.heap.size w w' := by
  have l2 := nlen_two (m := z.natAbs) (by omega)
  by_cases h0 : z < 0
  · have HZ := Lib.hid (show zI true z.natAbs = z by unfold zI; simp; omega)
    have HC := Lib.hid (conv_negy z h1 h0)
    have HC2 := Lib.hid (conv_negx z h1 h0)
    have hb1 : z.natAbs < 18446744073709551616 := by omega
    go_enter Try.func96, Try.ntmps96
    go_wp2_with fail
    first | rw [HC.out] | rw [HC2.out]
    refine (xof_any (N := N) z.natAbs _ hb1).mono ?_
    rintro e wa ⟨rwa, cwa, rfl, hn, hb⟩
    obtain ⟨hcwa, hfwa⟩ := bcell hb
    have hzwa0 : w.heap.size < wa.heap.size := by have := hb.size; (try simp at this); omega
    have HBwa := Lib.hid hb
    have HNwa := Lib.hid hn
    clear hb hn
    go_wp2_with fail
    refine (xmake_z (N := N) true _ _ _ z.natAbs _ (by omega) HNwa.out (by omega) z HZ.out).mono ?_
    rintro e wb ⟨rwb, cwb, rfl, hn, hb⟩
    obtain ⟨hcwb, hfwb⟩ := bcell hb
    have hzwb0 : w.heap.size < wb.heap.size := by have := hb.size; (try simp at this); omega
    have HBwb := Lib.hid hb
    have HNwb := Lib.hid hn
    clear hb hn
    have HX := Lib.hid (((Bx.new w #[.bool false, .slice none 0 0] 36).below HBwa.out).below HBwb.out)
    have HF := Lib.hid (fun v0 v1 => fin2 hN (Nat.le_refl _) HX.out HNwb.out ((((Below.refl w.heap.size w).alloc (Nat.le_refl _) _).trans (HBwa.out.mono (by simp))).trans (HBwb.out.mono (by omega))) v0 v1)
    go_wp2_with fail
    exact bodyPost_ret (v := .agg #[.bool true, .slice rwb (nlen z.natAbs) cwb]) (by simp [results, Try.results96, go_sem, hcwa, hcwb, hzwa0]) rfl ⟨_, _, by simp [h0], (HF.out _ _).1, (HF.out _ _).2⟩
  · obtain ⟨k, rfl⟩ := Int.eq_ofNat_of_zero_le (show 0 ≤ z by omega)
    rw [Int.natAbs_natCast] at l2 ⊢
    have HZ := Lib.hid (show zI false k = (k : Int) by rfl)
    have hb1 : k < 18446744073709551616 := by omega
    have HE := Lib.hid (Int.natAbs_natCast k)
    go_enter Try.func96, Try.ntmps96
    go_wp2_with fail
    refine (xof_any (N := N) k _ hb1).mono ?_
    rintro e wa ⟨rwa, cwa, rfl, hn, hb⟩
    obtain ⟨hcwa, hfwa⟩ := bcell hb
    have hzwa0 : w.heap.size < wa.heap.size := by have := hb.size; (try simp at this); omega
    have HBwa := Lib.hid hb
    have HNwa := Lib.hid hn
    clear hb hn
    go_wp2_with fail
    refine (xmake_z (N := N) false _ _ _ k _ (by omega) HNwa.out (by omega) (k : Int) HZ.out).mono ?_
    rw [HE.out]
    rintro e wb ⟨rwb, cwb, rfl, hn, hb⟩
    obtain ⟨hcwb, hfwb⟩ := bcell hb
    have hzwb0 : w.heap.size < wb.heap.size := by have := hb.size; (try simp at this); omega
    have HBwb := Lib.hid hb
    have HNwb := Lib.hid hn
    clear hb hn
    have HX := Lib.hid (((Bx.new w #[.bool false, .slice none 0 0] 36).below HBwa.out).below HBwb.out)
    have HF := Lib.hid (fun v0 v1 => fin2 hN (Nat.le_refl _) HX.out HNwb.out ((((Below.refl w.heap.size w).alloc (Nat.le_refl _) _).trans (HBwa.out.mono (by simp))).trans (HBwb.out.mono (by omega))) v0 v1)
    go_wp2_with fail
    exact bodyPost_ret (v := .agg #[.bool (decide ((k : Int) < 0)), .slice rwb (nlen k) cwb]) (by simp [results, Try.results96, go_sem, hcwa, hcwb, hzwa0]) rfl ⟨_, _, rfl, (HF.out _ _).1, (HF.out _ _).2⟩

set_option maxHeartbeats 4000000 in
theorem ximul_any {N : Nat} (sa sb : Bool) (a b : Option Addr) (na ca ma nb cb mb : Nat) (w : World) (hN : N ≤ w.heap.size) (ha : Nt N w a na ca ma) (hb : Nt N w b nb cb mb) (la : na ≤ 274877906944) (lb : nb ≤ 274877906944) (z : Int) (hz : zI sa ma * zI sb mb = z) :
    Calls Try.prog 73 #[.agg #[.bool sa, .slice a na ca], .agg #[.bool sb, .slice b nb cb]] w fun e w' => ∃ r cr, e = .returned (.agg #[.bool (decide (z < 0)), .slice r (nlen z.natAbs) cr]) ∧ Nt N w' r (nlen z.natAbs) cr z.natAbs ∧ Below w.heap.size w w' := by
  have HZ := Lib.hid ((zI_mul sa sb ma mb).trans hz)
  have lm := Nat.le_trans (nlen_mul ma mb) (Nat.add_le_add (nlen_bound ha _ la) (nlen_bound hb _ lb))
  have HA := Lib.hid (((ha.alloc (.cells #[.bool sa, .slice a na ca] 36)).alloc (.cells #[.bool sb, .slice b nb cb] 36)).alloc (.cells #[.bool false, .slice none 0 0] 36))
  have HB := Lib.hid (((hb.alloc (.cells #[.bool sa, .slice a na ca] 36)).alloc (.cells #[.bool sb, .slice b nb cb] 36)).alloc (.cells #[.bool false, .slice none 0 0] 36))
  clear ha hb hz
  go_enter Try.func73, Try.ntmps73
  go_wp2_with fail
  go_region_held3 (fun w' => w'.cell? ⟨w.heap.size, 0, none⟩ = some (.bool sa) ∧ w'.cell? ⟨w.heap.size, 1, none⟩ = some (.slice a na ca) ∧ w'.cell? ⟨w.heap.size + 1, 0, none⟩ = some (.bool sb) ∧ w'.cell? ⟨w.heap.size + 1, 1, none⟩ = some (.slice b nb cb))
    (first | (go_keep; done) | ((try dsimp only); (repeat' apply And.intro) <;> (first | (go_keep; done) | (rw [cell_set2 _ _ _ _ _ _ _ _ (by omega)]; assumption) | (rw [cell_set3 _ _ _ _ _ _ _ _ _ _ (by omega)]; assumption))))
    (first
      | (go_at_call 75; refine (xmul_any (N := N) _ _ _ _ ma _ _ mb _ (by simp; omega) (by exact HA.out) (by exact HB.out) (by omega) (by omega)).mono ?_; rintro e wa ⟨ra, ca', rfl, hn, hb⟩; have kwa0 : wa.cell? ⟨w.heap.size, 0, none⟩ = some (.bool sa) := (hb.cell (p := ⟨w.heap.size, 0, none⟩) (by first | (simp; done) | (simp; omega))).trans (by go_simp); have kwa1 : wa.cell? ⟨w.heap.size, 1, none⟩ = some (.slice a na ca) := (hb.cell (p := ⟨w.heap.size, 1, none⟩) (by first | (simp; done) | (simp; omega))).trans (by go_simp); have kwa2 : wa.cell? ⟨w.heap.size + 1, 0, none⟩ = some (.bool sb) := (hb.cell (p := ⟨w.heap.size + 1, 0, none⟩) (by first | (simp; done) | (simp; omega))).trans (by go_simp); have kwa3 : wa.cell? ⟨w.heap.size + 1, 1, none⟩ = some (.slice b nb cb) := (hb.cell (p := ⟨w.heap.size + 1, 1, none⟩) (by first | (simp; done) | (simp; omega))).trans (by go_simp); have hzwa0 : w.heap.size < wa.heap.size := (by have := hb.size; (try simp at this); omega); have hzwa1 : w.heap.size + 1 < wa.heap.size := (by have := hb.size; (try simp at this); omega); have hzwa2 : w.heap.size + 2 < wa.heap.size := (by have := hb.size; (try simp at this); omega); obtain ⟨hcwa, hfwa⟩ := bcell hb; have HBwa := Lib.hid hb; have HNwa := Lib.hid hn; clear hb hn)
      | (go_at_call 78; refine (xmake_z (N := N) (sa != sb) _ _ _ (ma * mb) _ (by omega) (by exact HNwa.out) (by omega) z HZ.out).mono ?_; rintro e wb ⟨rb, cb', rfl, hn, hb⟩; have kwb0 : wb.cell? ⟨w.heap.size, 0, none⟩ = some (.bool sa) := (hb.cell (p := ⟨w.heap.size, 0, none⟩) (by omega)).trans kwa0; have kwb1 : wb.cell? ⟨w.heap.size, 1, none⟩ = some (.slice a na ca) := (hb.cell (p := ⟨w.heap.size, 1, none⟩) (by omega)).trans kwa1; have kwb2 : wb.cell? ⟨w.heap.size + 1, 0, none⟩ = some (.bool sb) := (hb.cell (p := ⟨w.heap.size + 1, 0, none⟩) (by omega)).trans kwa2; have kwb3 : wb.cell? ⟨w.heap.size + 1, 1, none⟩ = some (.slice b nb cb) := (hb.cell (p := ⟨w.heap.size + 1, 1, none⟩) (by omega)).trans kwa3; have hzwb0 : w.heap.size < wb.heap.size := (by have := hb.size; (try simp at this); omega); have hzwb1 : w.heap.size + 1 < wb.heap.size := (by have := hb.size; (try simp at this); omega); have hzwb2 : w.heap.size + 2 < wb.heap.size := (by have := hb.size; (try simp at this); omega); obtain ⟨hcwb, hfwb⟩ := bcell hb; have HBwb := Lib.hid hb; have HNwb := Lib.hid hn; clear hb hn))
  have HX := Lib.hid (((Bx.new' ((w.alloc (.cells #[.bool sa, .slice a na ca] 36)).alloc (.cells #[.bool sb, .slice b nb cb] 36)) #[.bool false, .slice none 0 0] 36 (w.heap.size + 1 + 1) (by simp)).drewB HBwa.out).below HBwb.out)
  have HF := Lib.hid (fun v0 v1 => fin2 hN (by omega) HX.out HNwb.out (((bel3 w _ _ _).trans ((bel_of_drew HBwa.out).mono (by first | (simp; done) | (simp; omega)))).trans (HBwb.out.mono (by omega))) v0 v1)
  go_wp2_with fail
  exact bodyPost_ret (v := .agg #[.bool (decide (z < 0)), .slice rb (nlen z.natAbs) cb']) (by simp [results, Try.results73, go_sem, hcwa, hcwb, hzwa2]) rfl ⟨_, _, rfl, (HF.out _ _).1, (HF.out _ _).2⟩

set_option maxHeartbeats 1000000 in
theorem xineg_any {N : Nat} (sa : Bool) (a : Option Addr) (na ca ma : Nat) (w : World) (hN : N ≤ w.heap.size) (ha : Nt N w a na ca ma) (la : na ≤ 274877906944) (z : Int) (hz : -zI sa ma = z) :
    Calls Try.prog 114 #[.agg #[.bool sa, .slice a na ca]] w fun e w' => ∃ r cr, e = .returned (.agg #[.bool (decide (z < 0)), .slice r (nlen z.natAbs) cr]) ∧ Nt N w' r (nlen z.natAbs) cr z.natAbs ∧ Below w.heap.size w w' := by
  have HZ := Lib.hid ((zI_not sa ma).trans hz)
  have HA := Lib.hid ((ha.alloc (.cells #[.bool sa, .slice a na ca] 36)).alloc (.cells #[.bool false, .slice none 0 0] 36))
  clear ha hz
  go_enter Try.func114, Try.ntmps114
  go_wp2_with fail
  refine (xmake_z (N := N) (!sa) _ _ _ ma _ (by simp; omega) HA.out (by omega) z HZ.out).mono ?_
  rintro e wb ⟨rb, cb', rfl, hn, hb⟩
  obtain ⟨hcwb, hfwb⟩ := bcell hb
  have hzwb0 : w.heap.size < wb.heap.size := by have := hb.size; simp at this; omega
  have hzwb1 : w.heap.size + 1 < wb.heap.size := by have := hb.size; simp at this; omega
  have HX := Lib.hid ((Bx.new' (w.alloc (.cells #[.bool sa, .slice a na ca] 36)) #[.bool false, .slice none 0 0] 36 (w.heap.size + 1) (by simp)).below hb)
  have HF := Lib.hid (fun v0 v1 => fin2 hN (by omega) HX.out hn ((bel2 w _ _).trans (hb.mono (by simp; omega))) v0 v1)
  clear hn hb
  go_wp2_with fail
  exact bodyPost_ret (v := .agg #[.bool (decide (z < 0)), .slice rb (nlen z.natAbs) cb']) (by simp [results, Try.results114, go_sem, hcwb]) rfl ⟨_, _, rfl, (HF.out _ _).1, (HF.out _ _).2⟩

theorem xsub_nob {N : Nat} (a b : Option Addr) (na ca ma nb cb mb : Nat) (w : World) (ha : Nt N w a na ca ma) (hb : Nt N w b nb cb mb) (hlt : ma < mb) :
    Calls Try.prog 112 #[.slice a na ca, .slice b nb cb] w fun e w' => e = .returned (.tuple #[.slice none 0 0, .bool false]) ∧ Below w.heap.size w w' :=
  (xsub_no a b na ca ma nb cb mb w ha hb hlt).mono fun _ _ ⟨h1, h2⟩ => ⟨h1, h2 ▸ Below.refl _ _⟩

theorem cmpN_swap (a b : Nat) : cmpN b a = -cmpN a b := by
  rcases Nat.lt_trichotomy a b with h | h | h
  · rw [cmpN_gt h, cmpN_lt h]; rfl
  · rw [cmpN_eq h, cmpN_eq h.symm]; rfl
  · rw [cmpN_lt h, cmpN_gt h]
set_option maxHeartbeats 1000000 in
theorem xisign_any {N : Nat} (s : Bool) (a : Option Addr) (n cap m : Nat) (w : World) (hN : N ≤ w.heap.size) (h : Nt N w a n cap m) (hl : n ≤ 1099511627776) (z : Int) (hz : zI s m = z) :
    Calls Try.prog 100 #[.agg #[.bool s, .slice a n cap]] w fun e w' => e = .returned (.int .i64 z.sign) ∧ Below w.heap.size w w' := by
  have H := Lib.hid (h.alloc (.cells #[.bool s, .slice a n cap] 36))
  have HZ := Lib.hid hz
  clear h hz
  go_enter Try.func100, Try.ntmps100
  go_wp2_with fail
  refine (xinorm_any (N := N) s _ _ _ m _ (by simp; omega) H.out hl z HZ.out).mono ?_
  rintro e wa ⟨r, cr, rfl, hn, hb⟩
  obtain ⟨hcwa, hfwa⟩ := bcell hb
  have hzwa0 : w.heap.size < wa.heap.size := by have := hb.size; (try simp at this); omega
  have HBwa := Lib.hid hb
  have HNwa := Lib.hid hn
  clear hb hn
  have HBF := Lib.hid (fun o => (((bel1 w _).trans (HBwa.out.mono (by first | omega | (simp; done) | (simp; omega))))).alloc (o := o) (by omega))
  rcases Int.lt_trichotomy z 0 with h0 | h0 | h0
  · have HS := Lib.hid (Int.sign_eq_neg_one_of_neg h0)
    have HD := Lib.hid (show decide (z < 0) = true by simpa using h0)
    have hl0 : 0 < nlen z.natAbs := Nat.pos_of_ne_zero (fun e => by rw [nlen_eq_zero] at e; omega)
    have hl1 : ((nlen z.natAbs : Int) == 0) = false := by simp; omega
    rw [HD.out]
    clear h0
    go_wp2_with fail
    go_ret
    rw [HS.out]
    exact ⟨rfl, HBF.out _⟩
  · have HS := Lib.hid (show z.sign = 0 by rw [h0]; rfl)
    have HL := Lib.hid (show nlen z.natAbs = 0 by rw [h0]; exact nlen_zero)
    rw [HL.out]
    clear h0
    go_wp2_with fail
    go_ret
    rw [HS.out]
    exact ⟨rfl, HBF.out _⟩
  · have HS := Lib.hid (Int.sign_eq_one_of_pos h0)
    have HD := Lib.hid (show decide (z < 0) = false by simp; omega)
    have hl0 : 0 < nlen z.natAbs := Nat.pos_of_ne_zero (fun e => by rw [nlen_eq_zero] at e; omega)
    have hl1 : ((nlen z.natAbs : Int) == 0) = false := by simp; omega
    rw [HD.out]
    clear h0
    go_wp2_with fail
    go_ret
    rw [HS.out]
    exact ⟨rfl, HBF.out _⟩

set_option maxHeartbeats 4000000 in
theorem xicmp_any {N : Nat} (sa sb : Bool) (a b : Option Addr) (na ca ma nb cb mb : Nat) (w : World) (hN : N ≤ w.heap.size) (ha : Nt N w a na ca ma) (hb : Nt N w b nb cb mb) (la : na ≤ 274877906944) (lb : nb ≤ 274877906944) (x y : Int) (hx : zI sa ma = x) (hy : zI sb mb = y) :
    Calls Try.prog 79 #[.agg #[.bool sa, .slice a na ca], .agg #[.bool sb, .slice b nb cb]] w fun e w' => e = .returned (.int .i64 (cmpZ x y)) ∧ Below w.heap.size w w' := by
  have HA := Lib.hid ((ha.alloc (.cells #[.bool sa, .slice a na ca] 36)).alloc (.cells #[.bool sb, .slice b nb cb] 36))
  have HB := Lib.hid ((hb.alloc (.cells #[.bool sa, .slice a na ca] 36)).alloc (.cells #[.bool sb, .slice b nb cb] 36))
  have HX := Lib.hid hx
  have HY := Lib.hid hy
  obtain ⟨sx, hsx⟩ : ∃ s, x.sign = s := ⟨_, rfl⟩
  obtain ⟨sy, hsy⟩ : ∃ s, y.sign = s := ⟨_, rfl⟩
  have HSX := Lib.hid hsx
  have HSY := Lib.hid hsy
  have s3x := sgn3 x
  have s3y := sgn3 y
  rw [hsx] at s3x
  rw [hsy] at s3y
  have bx : -1 ≤ sx ∧ sx ≤ 1 := by omega
  have byy : -1 ≤ sy ∧ sy ≤ 1 := by omega
  clear ha hb hx hy hsx hsy
  have H3X := Lib.hid s3x
  have H3Y := Lib.hid s3y
  clear s3x s3y
  go_enter Try.func79, Try.ntmps79
  go_wp2_with fail
  refine (xisign_any (N := N) _ _ _ _ ma _ (by simp; omega) HA.out (by omega) x HX.out).mono ?_
  rw [HSX.out]
  rintro e wa ⟨rfl, hb⟩
  obtain ⟨hcwa, hfwa⟩ := bcell hb
  have hzwa0 : w.heap.size < wa.heap.size := by have := hb.size; (try simp at this); omega
  have hzwa1 : w.heap.size + 1 < wa.heap.size := by have := hb.size; (try simp at this); omega
  have HBwa := Lib.hid hb
  clear hb 
  go_wp2_with fail
  refine (xisign_any (N := N) _ _ _ _ mb _ (by omega) (HB.out.below HBwa.out) (by omega) y HY.out).mono ?_
  rw [HSY.out]
  rintro e wb ⟨rfl, hb⟩
  obtain ⟨hcwb, hfwb⟩ := bcell hb
  have hzwb0 : w.heap.size < wb.heap.size := by have := hb.size; (try simp at this); omega
  have hzwb1 : w.heap.size + 1 < wb.heap.size := by have := hb.size; (try simp at this); omega
  have HBwb := Lib.hid hb
  clear hb 
  have HBF := Lib.hid (((bel2 w _ _).trans (HBwa.out.mono (by first | omega | (simp; done) | (simp; omega)))).trans (HBwb.out.mono (by first | omega | (simp; done) | (simp; omega))))
  rcases Int.lt_trichotomy sx sy with h0 | h0 | h0
  · have HE := Lib.hid (cmpZ_sl (x := x) (y := y) (by rw [HSX.out, HSY.out]; exact h0))
    go_wp2_with fail
    go_ret
    rw [HE.out]
    exact ⟨rfl, HBF.out⟩
  · have n1 : ¬ sx < sy := by omega
    have n2 : ¬ sy < sx := by omega
    have HEQ := Lib.hid h0
    clear h0
    by_cases hneg : sx < 0
    · have HE := Lib.hid (show cmpN mb ma = cmpZ x y by
        have e1 : x.sign = -1 := by rw [HSX.out]; have := H3X.out; omega
        have e2 : y.sign = -1 := by rw [HSY.out]; have := H3X.out; have := HEQ.out; omega
        rw [← HX.out] at e1 ⊢
        rw [← HY.out] at e2 ⊢
        exact (cmpN_swap ma mb).trans (cmpZ_neg e1 e2).symm)
      go_wp2_with fail
      refine (xcmp_any (N := N) _ _ _ _ mb _ _ ma _ ((HB.out.below HBwa.out).below HBwb.out) ((HA.out.below HBwa.out).below HBwb.out)).mono ?_
      rintro e wc ⟨rfl, rfl⟩
      go_wp2_with fail
      go_ret
      rw [HE.out]
      exact ⟨rfl, HBF.out⟩
    · have HE := Lib.hid (show cmpN ma mb = cmpZ x y by
        have h3 := H3X.out
        have h4 := HEQ.out
        rcases (show sx = 0 ∨ sx = 1 by omega) with e | e
        · have e1 : x.sign = 0 := by rw [HSX.out]; exact e
          have e2 : y.sign = 0 := by rw [HSY.out]; omega
          rw [cmpZ_zero e1 e2]
          have z1 := Int.sign_eq_zero_iff_zero.1 e1
          have z2 := Int.sign_eq_zero_iff_zero.1 e2
          have a1 := zI_abs sa ma
          have a2 := zI_abs sb mb
          rw [HX.out, z1] at a1
          rw [HY.out, z2] at a2
          exact cmpN_eq (a1.symm.trans a2)
        · have e1 : x.sign = 1 := by rw [HSX.out]; exact e
          have e2 : y.sign = 1 := by rw [HSY.out]; omega
          rw [← HX.out] at e1 ⊢
          rw [← HY.out] at e2 ⊢
          exact (cmpZ_pos e1 e2).symm)
      go_wp2_with fail
      refine (xcmp_any (N := N) _ _ _ _ ma _ _ mb _ ((HA.out.below HBwa.out).below HBwb.out) ((HB.out.below HBwa.out).below HBwb.out)).mono ?_
      rintro e wc ⟨rfl, rfl⟩
      go_wp2_with fail
      go_ret
      rw [HE.out]
      exact ⟨rfl, HBF.out⟩
  · have n1 : ¬ sx < sy := by omega
    have HE := Lib.hid (cmpZ_sg (x := x) (y := y) (by rw [HSX.out, HSY.out]; exact h0))
    go_wp2_with fail
    go_ret
    rw [HE.out]
    exact ⟨rfl, HBF.out⟩

end Go.Proofs.Ytmljfaplohbjcaa

namespace Go.Proofs.Ytmljfaplohbjcaa
open Go.RowKit

/-- numerator and denominator as top and low have them -/
def tz (s : Bool) (mn md : Nat) : Int := if md = 0 then 0 else zI s mn
def dl (md : Nat) : Nat := if md = 0 then 1 else md
theorem dl_pos (md : Nat) : 0 < dl md := by unfold dl; split <;> omega
theorem tz_dl (s : Bool) (mn md : Nat) : mkRat (tz s mn md) (dl md) = mkRat (zI s mn) md := by
  unfold tz dl
  split
  · rename_i h; subst h; rw [Rat.mkRat_zero]; rfl
  · rfl
theorem tz_len {s : Bool} {mn md L : Nat} (h : nlen mn ≤ L) : nlen (tz s mn md).natAbs ≤ L := by
  unfold tz
  split
  · show nlen 0 ≤ L; rw [nlen_zero]; omega
  · rw [zI_abs]; exact h
theorem dl_len {md L : Nat} (h : nlen md ≤ L) (h1 : 1 ≤ L) : nlen (dl md) ≤ L := by
  unfold dl
  split
  · exact Nat.le_trans (nlen_small (by decide)) h1
  · exact h
theorem bl0 {m : Nat} (h : m = 0) : ((bl m : Int) == 0) = true := by rw [bl_eq_zero.2 h]; rfl
theorem bl1 {m : Nat} (h : 0 < m) : ((bl m : Int) == 0) = false := by
  have : bl m ≠ 0 := fun e => by rw [bl_eq_zero] at e; omega
  simp; omega

set_option maxHeartbeats 1000000 in
theorem xrzero_any {N : Nat} (w : World) (hN : N ≤ w.heap.size) : Calls Try.prog 93 #[] w (RatPost N w 0) := by
  have HZ := Lib.hid nlen_zero
  go_enter Try.func93, Try.ntmps93
  go_wp2_with fail
  refine (xof_any (N := N) 1 _ (by omega)).mono ?_
  rintro e wb ⟨rb, cb', rfl, hn, hb⟩
  obtain ⟨hcwb, hfwb⟩ := bcell hb
  have hzwb0 : w.heap.size < wb.heap.size := by have := hb.size; (try simp at this); omega
  have HBwb := Lib.hid hb
  have HNwb := Lib.hid hn
  clear hb hn
  have HX := Lib.hid ((Bx.new w #[.bool false, .slice none 0 0, .slice none 0 0] 38).below HBwb.out)
  have HF := Lib.hid (fun v0 v1 v2 => fin3 hN (Nat.le_refl _) HX.out (Nt.zero N wb) HNwb.out ((bel1 w _).trans (HBwb.out.mono (by simp))) v0 v1 v2)
  go_wp2_with fail
  refine bodyPost_ret (v := .agg #[.bool false, .slice none 0 0, .slice rb (nlen 1) cb']) (by simp [results, Try.results93, go_sem, hcwb]) rfl ?_
  refine ⟨none, 0, rb, cb', ?_, ?_, (HF.out _ _ _).2.1, (HF.out _ _ _).2.2⟩
  · show _ = Ending.returned (.agg #[.bool (decide ((0 : Rat).num < 0)), .slice none (nlen 0) 0, .slice rb (nlen 1) cb'])
    rw [HZ.out]; rfl
  · show Nt N _ none (nlen 0) 0 0
    rw [HZ.out]; exact (HF.out _ _ _).1

theorem xiof_zero {N : Nat} (z : Int) (w : World) (hN : N ≤ w.heap.size) (hz : (0 : Int) = z) :
    Calls Try.prog 96 #[.int .i64 0] w fun e w' => ∃ r cr, e = .returned (.agg #[.bool (decide (z < 0)), .slice r (nlen z.natAbs) cr]) ∧ Nt N w' r (nlen z.natAbs) cr z.natAbs ∧ Below w.heap.size w w' := by
  subst hz; exact xiof_any 0 w hN (by omega) (by omega)

set_option maxHeartbeats 2000000 in
theorem xtop_any {N : Nat} (s : Bool) (a d : Option Addr) (na ca mn nd cd md : Nat) (w : World) (hN : N ≤ w.heap.size) (ha : Nt N w a na ca mn) (hd : Nt N w d nd cd md) (la : na ≤ 137438953472) (ld : nd ≤ 137438953472) (z : Int) (hz : tz s mn md = z) :
    Calls Try.prog 74 #[.agg #[.bool s, .slice a na ca, .slice d nd cd]] w fun e w' => ∃ r cr, e = .returned (.agg #[.bool (decide (z < 0)), .slice r (nlen z.natAbs) cr]) ∧ Nt N w' r (nlen z.natAbs) cr z.natAbs ∧ Below w.heap.size w w' := by
  have HA := Lib.hid ((ha.alloc (.cells #[.bool s, .slice a na ca, .slice d nd cd] 38)).alloc (.cells #[.bool false, .slice none 0 0] 36))
  have HD := Lib.hid ((hd.alloc (.cells #[.bool s, .slice a na ca, .slice d nd cd] 38)).alloc (.cells #[.bool false, .slice none 0 0] 36))
  clear ha hd
  rcases Nat.eq_zero_or_pos md with h0 | h0
  · have hb0 := bl0 h0
    have HZ := Lib.hid (show (0 : Int) = z by rw [← hz]; unfold tz; rw [if_pos h0])
    clear hz h0
    go_enter Try.func74, Try.ntmps74
    go_wp2_with fail
    refine (bits_any (N := N) _ _ _ md _ HD.out (by omega)).mono ?_
    rintro e wa ⟨rfl, hb⟩
    obtain ⟨hcwa, hfwa⟩ := bcell hb
    have hzwa0 : w.heap.size < wa.heap.size := by have := hb.size; (try simp at this); omega
    have hzwa1 : w.heap.size + 1 < wa.heap.size := by have := hb.size; (try simp at this); omega
    have HBwa := Lib.hid hb
    clear hb 
    go_wp2_with fail
    refine (xiof_zero (N := N) z _ (by omega) HZ.out).mono ?_
    rintro e wb ⟨rb, cb', rfl, hn, hb⟩
    obtain ⟨hcwb, hfwb⟩ := bcell hb
    have hzwb0 : w.heap.size < wb.heap.size := by have := hb.size; (try simp at this); omega
    have hzwb1 : w.heap.size + 1 < wb.heap.size := by have := hb.size; (try simp at this); omega
    have HBwb := Lib.hid hb
    have HNwb := Lib.hid hn
    clear hb hn
    have HX := Lib.hid (((Bx.new' (w.alloc (.cells #[.bool s, .slice a na ca, .slice d nd cd] 38)) #[.bool false, .slice none 0 0] 36 (w.heap.size + 1) (by simp)).below HBwa.out).below HBwb.out)
    have HF := Lib.hid (fun v0 v1 => fin2 hN (by omega) HX.out HNwb.out (((bel2 w _ _).trans (HBwa.out.mono (by first | omega | (simp; done) | (simp; omega)))).trans (HBwb.out.mono (by first | omega | (simp; done) | (simp; omega)))) v0 v1)
    go_wp2_with fail
    exact bodyPost_ret (v := .agg #[.bool (decide (z < 0)), .slice rb (nlen z.natAbs) cb']) (by simp [results, Try.results74, go_sem, hcwa, hcwb, hzwa1]) rfl ⟨_, _, rfl, (HF.out _ _).1, (HF.out _ _).2⟩
  · have hb0 := bl1 h0
    have HZ := Lib.hid (show zI s mn = z by rw [← hz]; unfold tz; rw [if_neg (by omega)])
    clear hz
    go_enter Try.func74, Try.ntmps74
    go_wp2_with fail
    refine (bits_any (N := N) _ _ _ md _ HD.out (by omega)).mono ?_
    rintro e wa ⟨rfl, hb⟩
    obtain ⟨hcwa, hfwa⟩ := bcell hb
    have hzwa0 : w.heap.size < wa.heap.size := by have := hb.size; (try simp at this); omega
    have hzwa1 : w.heap.size + 1 < wa.heap.size := by have := hb.size; (try simp at this); omega
    have HBwa := Lib.hid hb
    clear hb 
    go_wp2_with fail
    refine (xinorm_any (N := N) _ _ _ _ mn _ (by omega) (HA.out.below HBwa.out) (by omega) z HZ.out).mono ?_
    rintro e wb ⟨rb, cb', rfl, hn, hb⟩
    obtain ⟨hcwb, hfwb⟩ := bcell hb
    have hzwb0 : w.heap.size < wb.heap.size := by have := hb.size; (try simp at this); omega
    have hzwb1 : w.heap.size + 1 < wb.heap.size := by have := hb.size; (try simp at this); omega
    have HBwb := Lib.hid hb
    have HNwb := Lib.hid hn
    clear hb hn
    have HX := Lib.hid (((Bx.new' (w.alloc (.cells #[.bool s, .slice a na ca, .slice d nd cd] 38)) #[.bool false, .slice none 0 0] 36 (w.heap.size + 1) (by simp)).below HBwa.out).below HBwb.out)
    have HF := Lib.hid (fun v0 v1 => fin2 hN (by omega) HX.out HNwb.out (((bel2 w _ _).trans (HBwa.out.mono (by first | omega | (simp; done) | (simp; omega)))).trans (HBwb.out.mono (by first | omega | (simp; done) | (simp; omega)))) v0 v1)
    go_wp2_with fail
    exact bodyPost_ret (v := .agg #[.bool (decide (z < 0)), .slice rb (nlen z.natAbs) cb']) (by simp [results, Try.results74, go_sem, hcwa, hcwb, hzwa1]) rfl ⟨_, _, rfl, (HF.out _ _).1, (HF.out _ _).2⟩

set_option maxHeartbeats 2000000 in
theorem xlow_any {N : Nat} (s : Bool) (a d : Option Addr) (na ca mn nd cd md : Nat) (w : World) (_hN : N ≤ w.heap.size) (ha : Nt N w a na ca mn) (hd : Nt N w d nd cd md) (_la : na ≤ 137438953472) (ld : nd ≤ 137438953472) :
    Calls Try.prog 76 #[.agg #[.bool s, .slice a na ca, .slice d nd cd]] w fun e w' => ∃ r cr, e = .returned (.slice r (nlen (dl md)) cr) ∧ Nt N w' r (nlen (dl md)) cr (dl md) ∧ Below w.heap.size w w' := by
  have HA := Lib.hid (ha.alloc (.cells #[.bool s, .slice a na ca, .slice d nd cd] 38))
  have HD := Lib.hid (hd.alloc (.cells #[.bool s, .slice a na ca, .slice d nd cd] 38))
  clear ha hd
  rcases Nat.eq_zero_or_pos md with h0 | h0
  · have hb0 := bl0 h0
    have HDL := Lib.hid (show dl md = 1 by unfold dl; rw [if_pos h0])
    clear h0
    go_enter Try.func76, Try.ntmps76
    go_wp2_with fail
    refine (bits_any (N := N) _ _ _ md _ HD.out (by omega)).mono ?_
    rintro e wa ⟨rfl, hb⟩
    obtain ⟨hcwa, hfwa⟩ := bcell hb
    have hzwa0 : w.heap.size < wa.heap.size := by have := hb.size; (try simp at this); omega
    have HBwa := Lib.hid hb
    clear hb 
    go_wp2_with fail
    refine (xof_any (N := N) 1 _ (by omega)).mono ?_
    rintro e wb ⟨rb, cb', rfl, hn, hb⟩
    obtain ⟨hcwb, hfwb⟩ := bcell hb
    have hzwb0 : w.heap.size < wb.heap.size := by have := hb.size; (try simp at this); omega
    have HBwb := Lib.hid hb
    have HNwb := Lib.hid hn
    clear hb hn
    go_wp2_with fail
    go_ret
    rw [HDL.out]
    exact ⟨_, _, rfl, HNwb.out, (((bel1 w _).trans (HBwa.out.mono (by first | omega | (simp; done) | (simp; omega)))).trans (HBwb.out.mono (by first | omega | (simp; done) | (simp; omega))))⟩
  · have hb0 := bl1 h0
    have HDL := Lib.hid (show dl md = md by unfold dl; rw [if_neg (by omega)])
    go_enter Try.func76, Try.ntmps76
    go_wp2_with fail
    refine (bits_any (N := N) _ _ _ md _ HD.out (by omega)).mono ?_
    rintro e wa ⟨rfl, hb⟩
    obtain ⟨hcwa, hfwa⟩ := bcell hb
    have hzwa0 : w.heap.size < wa.heap.size := by have := hb.size; (try simp at this); omega
    have HBwa := Lib.hid hb
    clear hb 
    go_wp2_with fail
    refine (xnorm_any (N := N) _ _ _ md _ (HD.out.below HBwa.out) (by omega)).mono ?_
    rintro e wb ⟨rb, cb', rfl, hn, hb⟩
    obtain ⟨hcwb, hfwb⟩ := bcell hb
    have hzwb0 : w.heap.size < wb.heap.size := by have := hb.size; (try simp at this); omega
    have HBwb := Lib.hid hb
    have HNwb := Lib.hid hn
    clear hb hn
    go_wp2_with fail
    go_ret
    rw [HDL.out]
    exact ⟨_, _, rfl, HNwb.out, (((bel1 w _).trans (HBwa.out.mono (by first | omega | (simp; done) | (simp; omega)))).trans (HBwb.out.mono (by first | omega | (simp; done) | (simp; omega))))⟩

theorem mk_norm (z : Int) (md : Nat) (q : Rat) (h : mkRat z md = q) : mkRat (zI (decide (z < 0)) z.natAbs) md = q := by rw [zI_norm]; exact h
set_option maxHeartbeats 4000000 in
theorem xreduce_any {N : Nat} (s : Bool) (a d : Option Addr) (na ca mn nd cd md : Nat) (w : World) (hN : N ≤ w.heap.size) (ha : Nt N w a na ca mn) (hd : Nt N w d nd cd md) (la : na ≤ 274877906944) (ld : nd ≤ 274877906944) (hmd : 0 < md) (q : Rat) (hq : mkRat (zI s mn) md = q) :
    Calls Try.prog 72 #[.agg #[.bool s, .slice a na ca], .slice d nd cd] w (RatPost N w q) := by
  obtain ⟨z, hz⟩ : ∃ z, zI s mn = z := ⟨_, rfl⟩
  obtain ⟨sz, hsz⟩ : ∃ b, decide (z < 0) = b := ⟨_, rfl⟩
  obtain ⟨mz, hmz⟩ : ∃ b, z.natAbs = b := ⟨_, rfl⟩
  have hq2 : mkRat (zI sz mz) md = q := by rw [← hsz, ← hmz]; exact mk_norm z md q (by rw [← hz]; exact hq)
  have lz : nlen mz ≤ 274877906944 := by rw [← hmz, ← hz, zI_abs]; exact nlen_bound ha _ la
  have HZ := Lib.hid hz
  have HSZ := Lib.hid hsz
  have HMZ := Lib.hid hmz
  have q1 := red_num sz mz md hmd
  have q2 := red_den sz mz md hmd
  rw [hq2] at q1 q2
  have hg : 0 < Nat.gcd mz md := Nat.gcd_pos_of_pos_right _ hmd
  have lm := nlen_mono (Nat.div_le_self mz (Nat.gcd mz md))
  have lg := nlen_mono (Nat.le_of_dvd hmd (Nat.gcd_dvd_right mz md))
  have ld2 := nlen_bound hd _ ld
  have HA := Lib.hid ((ha.alloc (.cells #[.bool s, .slice a na ca] 36)).alloc (.cells #[.bool false, .slice none 0 0, .slice none 0 0] 38))
  have HD := Lib.hid ((hd.alloc (.cells #[.bool s, .slice a na ca] 36)).alloc (.cells #[.bool false, .slice none 0 0, .slice none 0 0] 38))
  have HQ1 := Lib.hid q1
  have HQ2 := Lib.hid q2
  have HQ := Lib.hid hq2
  clear ha hd hq hq2 q1 q2 hz hsz hmz
  go_enter Try.func72, Try.ntmps72
  go_wp2_with fail
  refine (xinorm_any (N := N) _ _ _ _ mn _ (by simp; omega) HA.out (by omega) z HZ.out).mono ?_
  rw [HSZ.out, HMZ.out]
  rintro e wa ⟨ra, ca', rfl, hn, hb⟩
  obtain ⟨hcwa, hfwa⟩ := bcell hb
  have hzwa0 : w.heap.size < wa.heap.size := by have := hb.size; (try simp at this); omega
  have hzwa1 : w.heap.size + 1 < wa.heap.size := by have := hb.size; (try simp at this); omega
  have HBwa := Lib.hid hb
  have HNwa := Lib.hid hn
  clear hb hn
  have HNA := Lib.hid (HNwa.out.alloc (.cells #[.bool sz, .slice ra (nlen mz) ca'] 36))
  have HDA := Lib.hid ((HD.out.below HBwa.out).alloc (.cells #[.bool sz, .slice ra (nlen mz) ca'] 36))
  go_wp2_with fail
  refine (bits_any (N := N) _ _ _ mz _ HNA.out (by omega)).mono ?_
  rintro e wb ⟨rfl, hb⟩
  obtain ⟨hcwb, hfwb⟩ := bcell hb
  have hzwb0 : w.heap.size < wb.heap.size := by have := hb.size; (try simp at this); omega
  have hzwb1 : w.heap.size + 1 < wb.heap.size := by have := hb.size; (try simp at this); omega
  have hzwb2 : wa.heap.size < wb.heap.size := by have := hb.size; (try simp at this); omega
  have HBwb := Lib.hid hb
  clear hb 
  rcases Nat.eq_zero_or_pos mz with h0 | h0
  · have hb0 := bl0 h0
    have HQ0 := Lib.hid (show (0 : Rat) = q by rw [← HQ.out, h0]; unfold zI; cases sz <;> simp)
    clear h0
    go_wp2_with fail
    refine (xrzero_any (N := N) _ (by omega)).mono ?_
    rw [HQ0.out]
    rintro e wc ⟨rx, cx, rx2, cx2, rfl, hn, hn', hb⟩
    obtain ⟨hcwc, hfwc⟩ := bcell hb
    have hzwc0 : w.heap.size < wc.heap.size := by have := hb.size; (try simp at this); omega
    have hzwc1 : w.heap.size + 1 < wc.heap.size := by have := hb.size; (try simp at this); omega
    have hzwc2 : wa.heap.size < wc.heap.size := by have := hb.size; (try simp at this); omega
    have HBwc := Lib.hid hb
    have HNwc := Lib.hid hn
    have HN'wc := Lib.hid hn'
    clear hb hn hn'
    have HX := Lib.hid ((((Bx.new' (w.alloc (.cells #[.bool s, .slice a na ca] 36)) #[.bool false, .slice none 0 0, .slice none 0 0] 38 (w.heap.size + 1) (by simp)).below HBwa.out).below (bel_of_alloc HBwb.out)).below HBwc.out)
    have HF := Lib.hid (fun v0 v1 v2 => fin3 hN (by omega) HX.out HNwc.out HN'wc.out ((((bel2 w _ _).trans (HBwa.out.mono (by first | omega | (simp; done) | (simp; omega)))).trans ((bel_of_alloc HBwb.out).mono (by first | omega | (simp; done) | (simp; omega)))).trans (HBwc.out.mono (by first | omega | (simp; done) | (simp; omega)))) v0 v1 v2)
    go_wp2_with fail
    exact bodyPost_ret (v := .agg #[.bool (decide ((q).num < 0)), .slice rx (nlen (q).num.natAbs) cx, .slice rx2 (nlen (q).den) cx2]) (by simp [results, Try.results72, go_sem, hcwa, hcwb, hcwc, hzwa0, hzwa1, hzwb1]) rfl ⟨_, _, _, _, rfl, (HF.out _ _ _).1, (HF.out _ _ _).2.1, (HF.out _ _ _).2.2⟩
  · have hb0 := bl1 h0
    go_wp2_with fail
    refine (xgcd_any (N := N) _ _ _ _ mz _ _ md _ (by omega) (HNA.out.below HBwb.out) (HDA.out.below HBwb.out) (by omega) ld).mono ?_
    rintro e wc ⟨rc, cc', rfl, hn, hb⟩
    obtain ⟨hcwc, hfwc⟩ := bcell hb
    have hzwc0 : w.heap.size < wc.heap.size := by have := hb.size; (try simp at this); omega
    have hzwc1 : w.heap.size + 1 < wc.heap.size := by have := hb.size; (try simp at this); omega
    have hzwc2 : wa.heap.size < wc.heap.size := by have := hb.size; (try simp at this); omega
    have HBwc := Lib.hid hb
    have HNwc := Lib.hid hn
    clear hb hn
    go_wp2_with fail
    refine (xdivMod_any (N := N) _ _ _ _ mz _ _ (Nat.gcd mz md) _ (by omega) ((HNA.out.below HBwb.out).below HBwc.out) HNwc.out (by omega) (by omega) hg).mono ?_
    rintro e wd ⟨rd, cd', rd2, cd2, rfl, hn, _, hb⟩
    obtain ⟨hcwd, hfwd⟩ := bcell hb
    have hzwd0 : w.heap.size < wd.heap.size := by have := hb.size; (try simp at this); omega
    have hzwd1 : w.heap.size + 1 < wd.heap.size := by have := hb.size; (try simp at this); omega
    have hzwd2 : wa.heap.size < wd.heap.size := by have := hb.size; (try simp at this); omega
    have HBwd := Lib.hid hb
    have HNwd := Lib.hid hn
    clear hb hn
    go_wp2_with fail
    refine (xdivMod_any (N := N) _ _ _ _ md _ _ (Nat.gcd mz md) _ (by omega) (((HDA.out.below HBwb.out).below HBwc.out).below HBwd.out) (HNwc.out.below HBwd.out) ld (by omega) hg).mono ?_
    rw [← HQ2.out]
    rintro e we ⟨re, ce', re2, ce2, rfl, hn, _, hb⟩
    obtain ⟨hcwe, hfwe⟩ := bcell hb
    have hzwe0 : w.heap.size < we.heap.size := by have := hb.size; (try simp at this); omega
    have hzwe1 : w.heap.size + 1 < we.heap.size := by have := hb.size; (try simp at this); omega
    have hzwe2 : wa.heap.size < we.heap.size := by have := hb.size; (try simp at this); omega
    have HBwe := Lib.hid hb
    have HNwe := Lib.hid hn
    clear hb hn
    go_wp2_with fail
    refine (xmake_z (N := N) sz _ _ _ (mz / Nat.gcd mz md) _ (by omega) (HNwd.out.below HBwe.out) (by omega) q.num HQ1.out.symm).mono ?_
    rintro e wf ⟨rf, cf', rfl, hn, hb⟩
    obtain ⟨hcwf, hfwf⟩ := bcell hb
    have hzwf0 : w.heap.size < wf.heap.size := by have := hb.size; (try simp at this); omega
    have hzwf1 : w.heap.size + 1 < wf.heap.size := by have := hb.size; (try simp at this); omega
    have hzwf2 : wa.heap.size < wf.heap.size := by have := hb.size; (try simp at this); omega
    have HBwf := Lib.hid hb
    have HNwf := Lib.hid hn
    clear hb hn
    have HX := Lib.hid (((((((Bx.new' (w.alloc (.cells #[.bool s, .slice a na ca] 36)) #[.bool false, .slice none 0 0, .slice none 0 0] 38 (w.heap.size + 1) (by simp)).below HBwa.out).below (bel_of_alloc HBwb.out)).below HBwc.out).below HBwd.out).below HBwe.out).below HBwf.out)
    have HF := Lib.hid (fun v0 v1 v2 => fin3 hN (by omega) HX.out HNwf.out (HNwe.out.below HBwf.out) (((((((bel2 w _ _).trans (HBwa.out.mono (by first | omega | (simp; done) | (simp; omega)))).trans ((bel_of_alloc HBwb.out).mono (by first | omega | (simp; done) | (simp; omega)))).trans (HBwc.out.mono (by first | omega | (simp; done) | (simp; omega)))).trans (HBwd.out.mono (by first | omega | (simp; done) | (simp; omega)))).trans (HBwe.out.mono (by first | omega | (simp; done) | (simp; omega)))).trans (HBwf.out.mono (by first | omega | (simp; done) | (simp; omega)))) v0 v1 v2)
    go_wp2_with fail
    exact bodyPost_ret (v := .agg #[.bool (decide (q.num < 0)), .slice rf (nlen q.num.natAbs) cf', .slice re (nlen q.den) ce']) (by simp [results, Try.results72, go_sem, hcwa, hcwb, hcwc, hcwd, hcwe, hcwf, hzwa0, hzwa1, hzwb1, hzwc1, hzwd1, hzwe1]) rfl ⟨_, _, _, _, rfl, (HF.out _ _ _).1, (HF.out _ _ _).2.1, (HF.out _ _ _).2.2⟩

end Go.Proofs.Ytmljfaplohbjcaa

namespace Go.Proofs.Ytmljfaplohbjcaa
open Go.RowKit

theorem xmul_mk (z z1 z2 : Int) (d1 d2 : Nat) (q q' p : Rat) (h1 : mkRat z1 d1 = q) (h2 : mkRat z2 d2 = q') (hp : q * q' = p) (hz : z1 * z2 = z) : mkRat (zI (decide (z < 0)) z.natAbs) (d1 * d2) = p := by
  rw [zI_norm, ← hz, ← hp, ← h1, ← h2, Rat.mkRat_mul_mkRat]
theorem nlen_mulz {z z1 z2 : Int} (hz : z1 * z2 = z) : nlen z.natAbs ≤ nlen z1.natAbs + nlen z2.natAbs := by
  rw [← hz, Int.natAbs_mul]; exact nlen_mul _ _

set_option maxHeartbeats 8000000 in
theorem xrmul_any {N : Nat} (s s' : Bool) (a d a' d' : Option Addr) (na ca nd cd na' ca' nd' cd' L L' : Nat) (q q' : Rat) (w : World) (hN : N ≤ w.heap.size) (h : Rt N w s a na ca d nd cd q L) (h' : Rt N w s' a' na' ca' d' nd' cd' q' L') (hL : L ≤ 68719476736) (hL' : L' ≤ 68719476736) (p : Rat) (hp : q * q' = p) :
    Calls Try.prog 41 #[.agg #[.bool s, .slice a na ca, .slice d nd cd], .agg #[.bool s', .slice a' na' ca', .slice d' nd' cd']] w (RatPost N w p) := by
  obtain ⟨l0, l1, l2, mn, md, ha, hd, hq⟩ := h
  obtain ⟨l0', l1', l2', mn', md', ha', hd', hq'⟩ := h'
  obtain ⟨z1, hz1⟩ : ∃ z, tz s mn md = z := ⟨_, rfl⟩
  obtain ⟨z2, hz2⟩ : ∃ z, tz s' mn' md' = z := ⟨_, rfl⟩
  have e1 : mkRat z1 (dl md) = q := by rw [← hz1, tz_dl, hq]
  have e2 : mkRat z2 (dl md') = q' := by rw [← hz2, tz_dl, hq']
  have lz1 : nlen z1.natAbs ≤ L := by rw [← hz1]; exact tz_len (nlen_bound ha _ l1)
  have lz2 : nlen z2.natAbs ≤ L' := by rw [← hz2]; exact tz_len (nlen_bound ha' _ l1')
  have ld1 : nlen (dl md) ≤ L := dl_len (nlen_bound hd _ l2) l0
  have ld2 : nlen (dl md') ≤ L' := dl_len (nlen_bound hd' _ l2') l0'
  have p1 := dl_pos md
  have p2 := dl_pos md'
  have HZ1 := Lib.hid hz1
  have HZ2 := Lib.hid hz2
  have HE1 := Lib.hid e1
  have HE2 := Lib.hid e2
  have HA := Lib.hid (((ha.alloc (.cells #[.bool s, .slice a na ca, .slice d nd cd] 38)).alloc (.cells #[.bool s', .slice a' na' ca', .slice d' nd' cd'] 38)).alloc (.cells #[.bool false, .slice none 0 0, .slice none 0 0] 38))
  have HD := Lib.hid (((hd.alloc (.cells #[.bool s, .slice a na ca, .slice d nd cd] 38)).alloc (.cells #[.bool s', .slice a' na' ca', .slice d' nd' cd'] 38)).alloc (.cells #[.bool false, .slice none 0 0, .slice none 0 0] 38))
  have HA' := Lib.hid (((ha'.alloc (.cells #[.bool s, .slice a na ca, .slice d nd cd] 38)).alloc (.cells #[.bool s', .slice a' na' ca', .slice d' nd' cd'] 38)).alloc (.cells #[.bool false, .slice none 0 0, .slice none 0 0] 38))
  have HD' := Lib.hid (((hd'.alloc (.cells #[.bool s, .slice a na ca, .slice d nd cd] 38)).alloc (.cells #[.bool s', .slice a' na' ca', .slice d' nd' cd'] 38)).alloc (.cells #[.bool false, .slice none 0 0, .slice none 0 0] 38))
  obtain ⟨z, hz⟩ : ∃ z, z1 * z2 = z := ⟨_, rfl⟩
  have HZ := Lib.hid (show zI (decide (z1 < 0)) z1.natAbs * zI (decide (z2 < 0)) z2.natAbs = z by rw [zI_norm, zI_norm]; exact hz)
  have lz := nlen_mulz hz
  have HQ := Lib.hid (xmul_mk z z1 z2 (dl md) (dl md') q q' p e1 e2 hp hz)
  have ldd := nlen_mul (dl md) (dl md')
  have pp := Nat.mul_pos p1 p2
  obtain ⟨D1, hD1⟩ : ∃ D, dl md = D := ⟨_, rfl⟩
  obtain ⟨D2, hD2⟩ : ∃ D, dl md' = D := ⟨_, rfl⟩
  rw [hD1, hD2] at HQ ldd pp
  rw [hD1] at ld1
  rw [hD2] at ld2
  have HD1 := Lib.hid hD1
  have HD2 := Lib.hid hD2
  clear ha hd ha' hd' hq hq' hz1 hz2 e1 e2 hp hz hD1 hD2 p1 p2
  have tok1 : True := trivial
  have tok2 : True := trivial
  go_enter Try.func41, Try.ntmps41
  go_wp2_with fail
  go_region_held3 (fun w' => w'.cell? ⟨w.heap.size, 0, none⟩ = some (.bool s) ∧ w'.cell? ⟨w.heap.size, 1, none⟩ = some (.slice a na ca) ∧ w'.cell? ⟨w.heap.size, 2, none⟩ = some (.slice d nd cd) ∧ w'.cell? ⟨w.heap.size + 1, 0, none⟩ = some (.bool s') ∧ w'.cell? ⟨w.heap.size + 1, 1, none⟩ = some (.slice a' na' ca') ∧ w'.cell? ⟨w.heap.size + 1, 2, none⟩ = some (.slice d' nd' cd'))
    (first | (go_keep; done) | ((try dsimp only); (repeat' apply And.intro) <;> (first | (go_keep; done) | (exact cell_keep_alloc_drew (by first | omega | (simp; omega)) (by first | assumption | go_simp)) | (exact cell_keep_alloc (by first | omega | (simp; omega)) (by first | assumption | go_simp)) | (rw [cell_set2 _ _ _ _ _ _ _ _ (by omega)]; assumption) | (rw [cell_set3 _ _ _ _ _ _ _ _ _ _ (by omega)]; assumption))))
    (first
      | (go_at_call 74; have _t := tok1; refine (xtop_any (N := N) _ _ _ _ _ mn _ _ md _ (by simp; omega) (by exact HA.out) (by exact HD.out) (by omega) (by omega) z1 HZ1.out).mono ?_; rintro e wa ⟨ra1, ca1, rfl, hn, hb⟩; have kwa0 : wa.cell? ⟨w.heap.size, 0, none⟩ = some (.bool s) := (hb.cell (p := ⟨w.heap.size, 0, none⟩) (by first | (simp; done) | (simp; omega))).trans (by first | exact k0 | go_simp); have kwa1 : wa.cell? ⟨w.heap.size, 1, none⟩ = some (.slice a na ca) := (hb.cell (p := ⟨w.heap.size, 1, none⟩) (by first | (simp; done) | (simp; omega))).trans (by first | exact k1 | go_simp); have kwa2 : wa.cell? ⟨w.heap.size, 2, none⟩ = some (.slice d nd cd) := (hb.cell (p := ⟨w.heap.size, 2, none⟩) (by first | (simp; done) | (simp; omega))).trans (by first | exact k2 | go_simp); have kwa3 : wa.cell? ⟨w.heap.size + 1, 0, none⟩ = some (.bool s') := (hb.cell (p := ⟨w.heap.size + 1, 0, none⟩) (by first | (simp; done) | (simp; omega))).trans (by first | exact k3 | go_simp); have kwa4 : wa.cell? ⟨w.heap.size + 1, 1, none⟩ = some (.slice a' na' ca') := (hb.cell (p := ⟨w.heap.size + 1, 1, none⟩) (by first | (simp; done) | (simp; omega))).trans (by first | exact k4 | go_simp); have kwa5 : wa.cell? ⟨w.heap.size + 1, 2, none⟩ = some (.slice d' nd' cd') := (hb.cell (p := ⟨w.heap.size + 1, 2, none⟩) (by first | (simp; done) | (simp; omega))).trans (by first | exact k5 | go_simp); have hzwa0 : w.heap.size < wa.heap.size := (by have := hb.size; (try simp at this); omega); have hzwa1 : w.heap.size + 1 < wa.heap.size := (by have := hb.size; (try simp at this); omega); have hzwa2 : w.heap.size + 2 < wa.heap.size := (by have := hb.size; (try simp at this); omega); obtain ⟨hcwa, hfwa⟩ := bcell hb; have HBwa := Lib.hid hb; have HNwa := Lib.hid hn; clear hb hn _t tok1)
      | (go_at_call 74; refine (xtop_any (N := N) _ _ _ _ _ mn' _ _ md' _ (by omega) (by exact (HA'.out.below (bel_of_drew HBwa.out))) (by exact (HD'.out.below (bel_of_drew HBwa.out))) (by omega) (by omega) z2 HZ2.out).mono ?_; rintro e wb ⟨rb1, cb1, rfl, hn, hb⟩; have kwb0 : wb.cell? ⟨w.heap.size, 0, none⟩ = some (.bool s) := (hb.cell (p := ⟨w.heap.size, 0, none⟩) (by omega)).trans kwa0; have kwb1 : wb.cell? ⟨w.heap.size, 1, none⟩ = some (.slice a na ca) := (hb.cell (p := ⟨w.heap.size, 1, none⟩) (by omega)).trans kwa1; have kwb2 : wb.cell? ⟨w.heap.size, 2, none⟩ = some (.slice d nd cd) := (hb.cell (p := ⟨w.heap.size, 2, none⟩) (by omega)).trans kwa2; have kwb3 : wb.cell? ⟨w.heap.size + 1, 0, none⟩ = some (.bool s') := (hb.cell (p := ⟨w.heap.size + 1, 0, none⟩) (by omega)).trans kwa3; have kwb4 : wb.cell? ⟨w.heap.size + 1, 1, none⟩ = some (.slice a' na' ca') := (hb.cell (p := ⟨w.heap.size + 1, 1, none⟩) (by omega)).trans kwa4; have kwb5 : wb.cell? ⟨w.heap.size + 1, 2, none⟩ = some (.slice d' nd' cd') := (hb.cell (p := ⟨w.heap.size + 1, 2, none⟩) (by omega)).trans kwa5; have hzwb0 : w.heap.size < wb.heap.size := (by have := hb.size; (try simp at this); omega); have hzwb1 : w.heap.size + 1 < wb.heap.size := (by have := hb.size; (try simp at this); omega); have hzwb2 : w.heap.size + 2 < wb.heap.size := (by have := hb.size; (try simp at this); omega); obtain ⟨hcwb, hfwb⟩ := bcell hb; have HBwb := Lib.hid hb; have HNwb := Lib.hid hn; clear hb hn)
      | (go_at_call 73; refine (ximul_any (N := N) _ _ _ _ _ _ z1.natAbs _ _ z2.natAbs _ (by omega) (by exact HNwa.out.below HBwb.out) (by exact HNwb.out) (by omega) (by omega) z HZ.out).mono ?_; rintro e wc ⟨rc1, cc1, rfl, hn, hb⟩; have kwc0 : wc.cell? ⟨w.heap.size, 0, none⟩ = some (.bool s) := (hb.cell (p := ⟨w.heap.size, 0, none⟩) (by omega)).trans kwb0; have kwc1 : wc.cell? ⟨w.heap.size, 1, none⟩ = some (.slice a na ca) := (hb.cell (p := ⟨w.heap.size, 1, none⟩) (by omega)).trans kwb1; have kwc2 : wc.cell? ⟨w.heap.size, 2, none⟩ = some (.slice d nd cd) := (hb.cell (p := ⟨w.heap.size, 2, none⟩) (by omega)).trans kwb2; have kwc3 : wc.cell? ⟨w.heap.size + 1, 0, none⟩ = some (.bool s') := (hb.cell (p := ⟨w.heap.size + 1, 0, none⟩) (by omega)).trans kwb3; have kwc4 : wc.cell? ⟨w.heap.size + 1, 1, none⟩ = some (.slice a' na' ca') := (hb.cell (p := ⟨w.heap.size + 1, 1, none⟩) (by omega)).trans kwb4; have kwc5 : wc.cell? ⟨w.heap.size + 1, 2, none⟩ = some (.slice d' nd' cd') := (hb.cell (p := ⟨w.heap.size + 1, 2, none⟩) (by omega)).trans kwb5; have hzwc0 : w.heap.size < wc.heap.size := (by have := hb.size; (try simp at this); omega); have hzwc1 : w.heap.size + 1 < wc.heap.size := (by have := hb.size; (try simp at this); omega); have hzwc2 : w.heap.size + 2 < wc.heap.size := (by have := hb.size; (try simp at this); omega); obtain ⟨hcwc, hfwc⟩ := bcell hb; have HBwc := Lib.hid hb; have HNwc := Lib.hid hn; clear hb hn)
      | (go_at_call 76; have _t := tok2; refine (xlow_any (N := N) _ _ _ _ _ mn _ _ md _ (by omega) (by exact (((HA.out.below (bel_of_drew HBwa.out)).below HBwb.out).below HBwc.out)) (by exact (((HD.out.below (bel_of_drew HBwa.out)).below HBwb.out).below HBwc.out)) (by omega) (by omega)).mono ?_; (rw [HD1.out]); rintro e wd ⟨rd1, cd1, rfl, hn, hb⟩; have kwd0 : wd.cell? ⟨w.heap.size, 0, none⟩ = some (.bool s) := (hb.cell (p := ⟨w.heap.size, 0, none⟩) (by omega)).trans kwc0; have kwd1 : wd.cell? ⟨w.heap.size, 1, none⟩ = some (.slice a na ca) := (hb.cell (p := ⟨w.heap.size, 1, none⟩) (by omega)).trans kwc1; have kwd2 : wd.cell? ⟨w.heap.size, 2, none⟩ = some (.slice d nd cd) := (hb.cell (p := ⟨w.heap.size, 2, none⟩) (by omega)).trans kwc2; have kwd3 : wd.cell? ⟨w.heap.size + 1, 0, none⟩ = some (.bool s') := (hb.cell (p := ⟨w.heap.size + 1, 0, none⟩) (by omega)).trans kwc3; have kwd4 : wd.cell? ⟨w.heap.size + 1, 1, none⟩ = some (.slice a' na' ca') := (hb.cell (p := ⟨w.heap.size + 1, 1, none⟩) (by omega)).trans kwc4; have kwd5 : wd.cell? ⟨w.heap.size + 1, 2, none⟩ = some (.slice d' nd' cd') := (hb.cell (p := ⟨w.heap.size + 1, 2, none⟩) (by omega)).trans kwc5; have hzwd0 : w.heap.size < wd.heap.size := (by have := hb.size; (try simp at this); omega); have hzwd1 : w.heap.size + 1 < wd.heap.size := (by have := hb.size; (try simp at this); omega); have hzwd2 : w.heap.size + 2 < wd.heap.size := (by have := hb.size; (try simp at this); omega); obtain ⟨hcwd, hfwd⟩ := bcell hb; have HBwd := Lib.hid hb; have HNwd := Lib.hid hn; clear hb hn _t tok2)
      | (go_at_call 76; refine (xlow_any (N := N) _ _ _ _ _ mn' _ _ md' _ (by omega) (by exact ((((HA'.out.below (bel_of_drew HBwa.out)).below HBwb.out).below HBwc.out).below HBwd.out)) (by exact ((((HD'.out.below (bel_of_drew HBwa.out)).below HBwb.out).below HBwc.out).below HBwd.out)) (by omega) (by omega)).mono ?_; (rw [HD2.out]); rintro e we ⟨re1, ce1, rfl, hn, hb⟩; have kwe0 : we.cell? ⟨w.heap.size, 0, none⟩ = some (.bool s) := (hb.cell (p := ⟨w.heap.size, 0, none⟩) (by omega)).trans kwd0; have kwe1 : we.cell? ⟨w.heap.size, 1, none⟩ = some (.slice a na ca) := (hb.cell (p := ⟨w.heap.size, 1, none⟩) (by omega)).trans kwd1; have kwe2 : we.cell? ⟨w.heap.size, 2, none⟩ = some (.slice d nd cd) := (hb.cell (p := ⟨w.heap.size, 2, none⟩) (by omega)).trans kwd2; have kwe3 : we.cell? ⟨w.heap.size + 1, 0, none⟩ = some (.bool s') := (hb.cell (p := ⟨w.heap.size + 1, 0, none⟩) (by omega)).trans kwd3; have kwe4 : we.cell? ⟨w.heap.size + 1, 1, none⟩ = some (.slice a' na' ca') := (hb.cell (p := ⟨w.heap.size + 1, 1, none⟩) (by omega)).trans kwd4; have kwe5 : we.cell? ⟨w.heap.size + 1, 2, none⟩ = some (.slice d' nd' cd') := (hb.cell (p := ⟨w.heap.size + 1, 2, none⟩) (by omega)).trans kwd5; have hzwe0 : w.heap.size < we.heap.size := (by have := hb.size; (try simp at this); omega); have hzwe1 : w.heap.size + 1 < we.heap.size := (by have := hb.size; (try simp at this); omega); have hzwe2 : w.heap.size + 2 < we.heap.size := (by have := hb.size; (try simp at this); omega); obtain ⟨hcwe, hfwe⟩ := bcell hb; have HBwe := Lib.hid hb; have HNwe := Lib.hid hn; clear hb hn)
      | (go_at_call 75; refine (xmul_any (N := N) _ _ _ _ D1 _ _ D2 _ (by omega) (by exact HNwd.out.below HBwe.out) (by exact HNwe.out) (by omega) (by omega)).mono ?_; rintro e wf ⟨rf1, cf1, rfl, hn, hb⟩; have kwf0 : wf.cell? ⟨w.heap.size, 0, none⟩ = some (.bool s) := (hb.cell (p := ⟨w.heap.size, 0, none⟩) (by omega)).trans kwe0; have kwf1 : wf.cell? ⟨w.heap.size, 1, none⟩ = some (.slice a na ca) := (hb.cell (p := ⟨w.heap.size, 1, none⟩) (by omega)).trans kwe1; have kwf2 : wf.cell? ⟨w.heap.size, 2, none⟩ = some (.slice d nd cd) := (hb.cell (p := ⟨w.heap.size, 2, none⟩) (by omega)).trans kwe2; have kwf3 : wf.cell? ⟨w.heap.size + 1, 0, none⟩ = some (.bool s') := (hb.cell (p := ⟨w.heap.size + 1, 0, none⟩) (by omega)).trans kwe3; have kwf4 : wf.cell? ⟨w.heap.size + 1, 1, none⟩ = some (.slice a' na' ca') := (hb.cell (p := ⟨w.heap.size + 1, 1, none⟩) (by omega)).trans kwe4; have kwf5 : wf.cell? ⟨w.heap.size + 1, 2, none⟩ = some (.slice d' nd' cd') := (hb.cell (p := ⟨w.heap.size + 1, 2, none⟩) (by omega)).trans kwe5; have hzwf0 : w.heap.size < wf.heap.size := (by have := hb.size; (try simp at this); omega); have hzwf1 : w.heap.size + 1 < wf.heap.size := (by have := hb.size; (try simp at this); omega); have hzwf2 : w.heap.size + 2 < wf.heap.size := (by have := hb.size; (try simp at this); omega); obtain ⟨hcwf, hfwf⟩ := bcell hb; have HBwf := Lib.hid hb; have HNwf := Lib.hid hn; clear hb hn)
      | (go_at_call 72; refine (xreduce_any (N := N) _ _ _ _ _ z.natAbs _ _ (D1 * D2) _ (by omega) (by exact ((HNwc.out.below HBwd.out).below HBwe.out).below HBwf.out) (by exact HNwf.out) (by omega) (by omega) pp p HQ.out).mono ?_; rintro e wg ⟨rx, cx, rx2, cx2, rfl, hn, hn', hb⟩; have kwg0 : wg.cell? ⟨w.heap.size, 0, none⟩ = some (.bool s) := (hb.cell (p := ⟨w.heap.size, 0, none⟩) (by omega)).trans kwf0; have kwg1 : wg.cell? ⟨w.heap.size, 1, none⟩ = some (.slice a na ca) := (hb.cell (p := ⟨w.heap.size, 1, none⟩) (by omega)).trans kwf1; have kwg2 : wg.cell? ⟨w.heap.size, 2, none⟩ = some (.slice d nd cd) := (hb.cell (p := ⟨w.heap.size, 2, none⟩) (by omega)).trans kwf2; have kwg3 : wg.cell? ⟨w.heap.size + 1, 0, none⟩ = some (.bool s') := (hb.cell (p := ⟨w.heap.size + 1, 0, none⟩) (by omega)).trans kwf3; have kwg4 : wg.cell? ⟨w.heap.size + 1, 1, none⟩ = some (.slice a' na' ca') := (hb.cell (p := ⟨w.heap.size + 1, 1, none⟩) (by omega)).trans kwf4; have kwg5 : wg.cell? ⟨w.heap.size + 1, 2, none⟩ = some (.slice d' nd' cd') := (hb.cell (p := ⟨w.heap.size + 1, 2, none⟩) (by omega)).trans kwf5; have hzwg0 : w.heap.size < wg.heap.size := (by have := hb.size; (try simp at this); omega); have hzwg1 : w.heap.size + 1 < wg.heap.size := (by have := hb.size; (try simp at this); omega); have hzwg2 : w.heap.size + 2 < wg.heap.size := (by have := hb.size; (try simp at this); omega); obtain ⟨hcwg, hfwg⟩ := bcell hb; have HBwg := Lib.hid hb; have HNwg := Lib.hid hn; have HN'wg := Lib.hid hn'; clear hb hn hn'))
  have HX := Lib.hid ((((((((Bx.new' ((w.alloc (.cells #[.bool s, .slice a na ca, .slice d nd cd] 38)).alloc (.cells #[.bool s', .slice a' na' ca', .slice d' nd' cd'] 38)) #[.bool false, .slice none 0 0, .slice none 0 0] 38 (w.heap.size + 1 + 1) (by simp)).drewB HBwa.out).below HBwb.out).below HBwc.out).below HBwd.out).below HBwe.out).below HBwf.out).below HBwg.out)
  have HF := Lib.hid (fun v0 v1 v2 => fin3 hN (by omega) HX.out HNwg.out HN'wg.out ((((((((bel3 w _ _ _).trans ((bel_of_drew HBwa.out).mono (by first | omega | (simp; done) | (simp; omega)))).trans (HBwb.out.mono (by first | omega | (simp; done) | (simp; omega)))).trans (HBwc.out.mono (by first | omega | (simp; done) | (simp; omega)))).trans (HBwd.out.mono (by first | omega | (simp; done) | (simp; omega)))).trans (HBwe.out.mono (by first | omega | (simp; done) | (simp; omega)))).trans (HBwf.out.mono (by first | omega | (simp; done) | (simp; omega)))).trans (HBwg.out.mono (by first | omega | (simp; done) | (simp; omega)))) v0 v1 v2)
  go_wp2_with fail
  exact bodyPost_ret (v := .agg #[.bool (decide ((p).num < 0)), .slice rx (nlen (p).num.natAbs) cx, .slice rx2 (nlen (p).den) cx2]) (by simp [results, Try.results41, go_sem, hcwa, hcwb, hcwc, hcwd, hcwe, hcwf, hcwg, hzwa2, hzwb2, hzwc2, hzwd2, hzwe2, hzwf2]) rfl ⟨_, _, _, _, rfl, (HF.out _ _ _).1, (HF.out _ _ _).2.1, (HF.out _ _ _).2.2⟩

end Go.Proofs.Ytmljfaplohbjcaa

namespace Go.Proofs.Ytmljfaplohbjcaa
open Go.RowKit

set_option maxHeartbeats 8000000 in
theorem xrmake_any {N : Nat} (s s' : Bool) (a a' : Option Addr) (na ca m na' ca' m' : Nat) (w : World) (hN : N ≤ w.heap.size) (h : Nt N w a na ca m) (h' : Nt N w a' na' ca' m') (hl : na ≤ 137438953472) (hl' : na' ≤ 137438953472) (p : Rat) (hp : mkRat (zI (s != s') m) m' = p) :
    Calls Try.prog 99 #[.agg #[.bool s, .slice a na ca], .agg #[.bool s', .slice a' na' ca']] w (RatPost2 N w p (decide (0 < m'))) := by
  have H := Lib.hid (((h.alloc (.cells #[.bool s, .slice a na ca] 36)).alloc (.cells #[.bool s', .slice a' na' ca'] 36)).alloc (.cells #[.bool false, .slice none 0 0, .slice none 0 0] 38))
  have H' := Lib.hid (((h'.alloc (.cells #[.bool s, .slice a na ca] 36)).alloc (.cells #[.bool s', .slice a' na' ca'] 36)).alloc (.cells #[.bool false, .slice none 0 0, .slice none 0 0] 38))
  have lm := nlen_bound h _ hl
  have lm' := nlen_bound h' _ hl'
  clear h h'
  rcases Nat.eq_zero_or_pos m' with h0 | h0
  · have hb0 := bl0 h0
    have HQ0 := Lib.hid (show (0 : Rat) = p by rw [← hp, h0, Rat.mkRat_zero])
    have HSD := Lib.hid (show (s' && decide (0 < m')) = false by rw [h0]; cases s' <;> rfl)
    have HDC := Lib.hid (show decide (0 < m') = false by rw [h0]; rfl)
    rw [HDC.out]
    clear hp h0
    go_enter Try.func99, Try.ntmps99
    go_wp2_with fail
    refine (xinorm_core (N := N) _ _ _ _ m' _ (by simp; omega) H'.out (by omega)).mono ?_
    rw [HSD.out]
    rintro e wa ⟨ra, ca1, rfl, hn, hb⟩
    obtain ⟨hcwa, hfwa⟩ := bcell hb
    have hzwa0 : w.heap.size < wa.heap.size := by have := hb.size; (try simp at this); omega
    have hzwa1 : w.heap.size + 1 < wa.heap.size := by have := hb.size; (try simp at this); omega
    have hzwa2 : w.heap.size + 1 + 1 < wa.heap.size := by have := hb.size; (try simp at this); omega
    have HBwa := Lib.hid hb
    have HNwa := Lib.hid hn
    clear hb hn
    have HNA := Lib.hid (HNwa.out.alloc (.cells #[.bool false, .slice ra (nlen m') ca1] 36))
    have HA := Lib.hid ((H.out.below HBwa.out).alloc (.cells #[.bool false, .slice ra (nlen m') ca1] 36))
    go_wp2_with fail
    refine (bits_any (N := N) _ _ _ m' _ HNA.out (by omega)).mono ?_
    rintro e wb ⟨rfl, hb⟩
    obtain ⟨hcwb, hfwb⟩ := bcell hb
    have hzwb0 : w.heap.size < wb.heap.size := by have := hb.size; (try simp at this); omega
    have hzwb1 : w.heap.size + 1 < wb.heap.size := by have := hb.size; (try simp at this); omega
    have hzwb2 : w.heap.size + 1 + 1 < wb.heap.size := by have := hb.size; (try simp at this); omega
    have hzwb3 : wa.heap.size < wb.heap.size := by have := hb.size; (try simp at this); omega
    have HBwb := Lib.hid hb
    clear hb 
    go_wp2_with fail
    refine (xrzero_any (N := N) _ (by omega)).mono ?_
    rw [HQ0.out]
    rintro e wc ⟨rx, cx, rx2, cx2, rfl, hn, hn', hb⟩
    obtain ⟨hcwc, hfwc⟩ := bcell hb
    have hzwc0 : w.heap.size < wc.heap.size := by have := hb.size; (try simp at this); omega
    have hzwc1 : w.heap.size + 1 < wc.heap.size := by have := hb.size; (try simp at this); omega
    have hzwc2 : w.heap.size + 1 + 1 < wc.heap.size := by have := hb.size; (try simp at this); omega
    have hzwc3 : wa.heap.size < wc.heap.size := by have := hb.size; (try simp at this); omega
    have HBwc := Lib.hid hb
    have HNwc := Lib.hid hn
    have HN'wc := Lib.hid hn'
    clear hb hn hn'
    have HX := Lib.hid ((((Bx.new' ((w.alloc (.cells #[.bool s, .slice a na ca] 36)).alloc (.cells #[.bool s', .slice a' na' ca'] 36)) #[.bool false, .slice none 0 0, .slice none 0 0] 38 (w.heap.size + 1 + 1) (by simp)).below HBwa.out).below (bel_of_alloc HBwb.out)).below HBwc.out)
    have HF := Lib.hid (fun v0 v1 v2 => fin3 hN (by omega) HX.out HNwc.out HN'wc.out ((((bel3 w _ _ _).trans (HBwa.out.mono (by first | omega | (simp; done) | (simp; omega)))).trans ((bel_of_alloc HBwb.out).mono (by first | omega | (simp; done) | (simp; omega)))).trans (HBwc.out.mono (by first | omega | (simp; done) | (simp; omega)))) v0 v1 v2)
    go_wp2_with fail
    exact bodyPost_ret (v := .tuple #[.agg #[.bool (decide ((p).num < 0)), .slice rx (nlen (p).num.natAbs) cx, .slice rx2 (nlen (p).den) cx2], .bool false]) (by simp [results, Try.results99, go_sem, hcwa, hcwb, hcwc, hzwa1, hzwa2, hzwb2]) rfl ⟨_, _, _, _, rfl, (HF.out _ _ _).1, (HF.out _ _ _).2.1, (HF.out _ _ _).2.2⟩
  · have hb0 := bl1 h0
    have HDC := Lib.hid (show decide (0 < m') = true by simpa using h0)
    rw [HDC.out]
    obtain ⟨z, hz⟩ : ∃ z, zI s m = z := ⟨_, rfl⟩
    have lz : nlen z.natAbs ≤ 137438953472 := by rw [← hz, zI_abs]; exact lm
    have HZ := Lib.hid hz
    cases s'
    · have HSD := Lib.hid (show (false && decide (0 < m')) = false from rfl)
      have HQ := Lib.hid (show mkRat (zI (decide (z < 0)) z.natAbs) m' = p by rw [zI_norm, ← hz, ← hp, Bool.bne_false])
      clear hp hz
      go_enter Try.func99, Try.ntmps99
      go_wp2_with fail
      refine (xinorm_core (N := N) _ _ _ _ m' _ (by simp; omega) H'.out (by omega)).mono ?_
      rw [HSD.out]
      rintro e wa ⟨ra, ca1, rfl, hn, hb⟩
      obtain ⟨hcwa, hfwa⟩ := bcell hb
      have hzwa0 : w.heap.size < wa.heap.size := by have := hb.size; (try simp at this); omega
      have hzwa1 : w.heap.size + 1 < wa.heap.size := by have := hb.size; (try simp at this); omega
      have hzwa2 : w.heap.size + 1 + 1 < wa.heap.size := by have := hb.size; (try simp at this); omega
      have HBwa := Lib.hid hb
      have HNwa := Lib.hid hn
      clear hb hn
      have HNA := Lib.hid (HNwa.out.alloc (.cells #[.bool false, .slice ra (nlen m') ca1] 36))
      have HA := Lib.hid ((H.out.below HBwa.out).alloc (.cells #[.bool false, .slice ra (nlen m') ca1] 36))
      go_wp2_with fail
      refine (bits_any (N := N) _ _ _ m' _ HNA.out (by omega)).mono ?_
      rintro e wb ⟨rfl, hb⟩
      obtain ⟨hcwb, hfwb⟩ := bcell hb
      have hzwb0 : w.heap.size < wb.heap.size := by have := hb.size; (try simp at this); omega
      have hzwb1 : w.heap.size + 1 < wb.heap.size := by have := hb.size; (try simp at this); omega
      have hzwb2 : w.heap.size + 1 + 1 < wb.heap.size := by have := hb.size; (try simp at this); omega
      have hzwb3 : wa.heap.size < wb.heap.size := by have := hb.size; (try simp at this); omega
      have HBwb := Lib.hid hb
      clear hb 
      go_wp2_with fail
      refine (xinorm_any (N := N) _ _ _ _ m _ (by omega) (HA.out.below HBwb.out) (by omega) z HZ.out).mono ?_
      rintro e wc ⟨rc, cc', rfl, hn, hb⟩
      obtain ⟨hcwc, hfwc⟩ := bcell hb
      have hzwc0 : w.heap.size < wc.heap.size := by have := hb.size; (try simp at this); omega
      have hzwc1 : w.heap.size + 1 < wc.heap.size := by have := hb.size; (try simp at this); omega
      have hzwc2 : w.heap.size + 1 + 1 < wc.heap.size := by have := hb.size; (try simp at this); omega
      have hzwc3 : wa.heap.size < wc.heap.size := by have := hb.size; (try simp at this); omega
      have HBwc := Lib.hid hb
      have HNwc := Lib.hid hn
      clear hb hn
      go_wp2_with fail
      refine (xreduce_any (N := N) _ _ _ _ _ z.natAbs _ _ m' _ (by simp; omega) (HNwc.out.alloc _) (((HNA.out.below HBwb.out).below HBwc.out).alloc _) (by omega) (by omega) h0 p HQ.out).mono ?_
      rintro e wd ⟨rx, cx, rx2, cx2, rfl, hn, hn', hb⟩
      obtain ⟨hcwd, hfwd⟩ := bcell hb
      have hzwd0 : w.heap.size < wd.heap.size := by have := hb.size; (try simp at this); omega
      have hzwd1 : w.heap.size + 1 < wd.heap.size := by have := hb.size; (try simp at this); omega
      have hzwd2 : w.heap.size + 1 + 1 < wd.heap.size := by have := hb.size; (try simp at this); omega
      have hzwd3 : wa.heap.size < wd.heap.size := by have := hb.size; (try simp at this); omega
      have hzwd4 : wc.heap.size < wd.heap.size := by have := hb.size; (try simp at this); omega
      have HBwd := Lib.hid hb
      have HNwd := Lib.hid hn
      have HN'wd := Lib.hid hn'
      clear hb hn hn'
      have HX := Lib.hid (((((Bx.new' ((w.alloc (.cells #[.bool s, .slice a na ca] 36)).alloc (.cells #[.bool false, .slice a' na' ca'] 36)) #[.bool false, .slice none 0 0, .slice none 0 0] 38 (w.heap.size + 1 + 1) (by simp)).below HBwa.out).below (bel_of_alloc HBwb.out)).below HBwc.out).below (bel_of_alloc HBwd.out))
      have HF := Lib.hid (fun v0 v1 v2 => fin3 hN (by omega) HX.out HNwd.out HN'wd.out (((((bel3 w _ _ _).trans (HBwa.out.mono (by first | omega | (simp; done) | (simp; omega)))).trans ((bel_of_alloc HBwb.out).mono (by first | omega | (simp; done) | (simp; omega)))).trans (HBwc.out.mono (by first | omega | (simp; done) | (simp; omega)))).trans ((bel_of_alloc HBwd.out).mono (by first | omega | (simp; done) | (simp; omega)))) v0 v1 v2)
      go_wp2_with fail
      exact bodyPost_ret (v := .tuple #[.agg #[.bool (decide ((p).num < 0)), .slice rx (nlen (p).num.natAbs) cx, .slice rx2 (nlen (p).den) cx2], .bool true]) (by simp [results, Try.results99, go_sem, hcwa, hcwb, hcwc, hcwd, hzwa1, hzwa2, hzwb2, hzwc1, hzwc2]) rfl ⟨_, _, _, _, rfl, (HF.out _ _ _).1, (HF.out _ _ _).2.1, (HF.out _ _ _).2.2⟩
    · have HSD := Lib.hid (show (true && decide (0 < m')) = true by simpa using h0)
      obtain ⟨y, hy⟩ : ∃ y, -zI (decide (z < 0)) z.natAbs = y := ⟨_, rfl⟩
      have ly : nlen y.natAbs ≤ 137438953472 := by rw [← hy, Int.natAbs_neg, zI_abs]; exact lz
      have HQ := Lib.hid (show mkRat (zI (decide (y < 0)) y.natAbs) m' = p by rw [zI_norm, ← hy, zI_norm, ← hz, ← hp, Bool.bne_true, zI_not])
      have HY := Lib.hid hy
      clear hp hz hy
      go_enter Try.func99, Try.ntmps99
      go_wp2_with fail
      refine (xinorm_core (N := N) _ _ _ _ m' _ (by simp; omega) H'.out (by omega)).mono ?_
      rw [HSD.out]
      rintro e wa ⟨ra, ca1, rfl, hn, hb⟩
      obtain ⟨hcwa, hfwa⟩ := bcell hb
      have hzwa0 : w.heap.size < wa.heap.size := by have := hb.size; (try simp at this); omega
      have hzwa1 : w.heap.size + 1 < wa.heap.size := by have := hb.size; (try simp at this); omega
      have hzwa2 : w.heap.size + 1 + 1 < wa.heap.size := by have := hb.size; (try simp at this); omega
      have HBwa := Lib.hid hb
      have HNwa := Lib.hid hn
      clear hb hn
      have HNA := Lib.hid (HNwa.out.alloc (.cells #[.bool true, .slice ra (nlen m') ca1] 36))
      have HA := Lib.hid ((H.out.below HBwa.out).alloc (.cells #[.bool true, .slice ra (nlen m') ca1] 36))
      go_wp2_with fail
      refine (bits_any (N := N) _ _ _ m' _ HNA.out (by omega)).mono ?_
      rintro e wb ⟨rfl, hb⟩
      obtain ⟨hcwb, hfwb⟩ := bcell hb
      have hzwb0 : w.heap.size < wb.heap.size := by have := hb.size; (try simp at this); omega
      have hzwb1 : w.heap.size + 1 < wb.heap.size := by have := hb.size; (try simp at this); omega
      have hzwb2 : w.heap.size + 1 + 1 < wb.heap.size := by have := hb.size; (try simp at this); omega
      have hzwb3 : wa.heap.size < wb.heap.size := by have := hb.size; (try simp at this); omega
      have HBwb := Lib.hid hb
      clear hb 
      go_wp2_with fail
      refine (xinorm_any (N := N) _ _ _ _ m _ (by omega) (HA.out.below HBwb.out) (by omega) z HZ.out).mono ?_
      rintro e wc ⟨rc, cc', rfl, hn, hb⟩
      obtain ⟨hcwc, hfwc⟩ := bcell hb
      have hzwc0 : w.heap.size < wc.heap.size := by have := hb.size; (try simp at this); omega
      have hzwc1 : w.heap.size + 1 < wc.heap.size := by have := hb.size; (try simp at this); omega
      have hzwc2 : w.heap.size + 1 + 1 < wc.heap.size := by have := hb.size; (try simp at this); omega
      have hzwc3 : wa.heap.size < wc.heap.size := by have := hb.size; (try simp at this); omega
      have HBwc := Lib.hid hb
      have HNwc := Lib.hid hn
      clear hb hn
      go_wp2_with fail
      refine (xineg_any (N := N) _ _ _ _ z.natAbs _ (by simp; omega) (HNwc.out.alloc _) (by omega) y HY.out).mono ?_
      rintro e wd ⟨rd, cd', rfl, hn, hb⟩
      obtain ⟨hcwd, hfwd⟩ := bcell hb
      have hzwd0 : w.heap.size < wd.heap.size := by have := hb.size; (try simp at this); omega
      have hzwd1 : w.heap.size + 1 < wd.heap.size := by have := hb.size; (try simp at this); omega
      have hzwd2 : w.heap.size + 1 + 1 < wd.heap.size := by have := hb.size; (try simp at this); omega
      have hzwd3 : wa.heap.size < wd.heap.size := by have := hb.size; (try simp at this); omega
      have hzwd4 : wc.heap.size < wd.heap.size := by have := hb.size; (try simp at this); omega
      have HBwd := Lib.hid hb
      have HNwd := Lib.hid hn
      clear hb hn
      have HXC := Lib.hid ((Bx.new wc #[.bool (decide (z < 0)), .slice rc (nlen z.natAbs) cc'] 36).below HBwd.out)
      have hzcd : w.heap.size ≤ wc.heap.size := by omega
      have HBD := Lib.hid (show Below w.heap.size w wd from (((((bel3 w _ _ _).trans (HBwa.out.mono (by first | omega | (simp; done) | (simp; omega)))).trans ((bel_of_alloc HBwb.out).mono (by first | omega | (simp; done) | (simp; omega)))).trans (HBwc.out.mono (by first | omega | (simp; done) | (simp; omega)))).trans ((bel_of_alloc HBwd.out).mono (by first | omega | (simp; done) | (simp; omega)))))
      have HF1 := Lib.hid (fun v0 v1 => fin2 hN hzcd HXC.out HNwd.out HBD.out v0 v1)
      have HF2 := Lib.hid (fun v0 v1 => fin2 hN hzcd HXC.out (((HNA.out.below HBwb.out).below HBwc.out).below (bel_of_alloc HBwd.out)) HBD.out v0 v1)
      have HXd := Lib.hid (((((Bx.new' ((w.alloc (.cells #[.bool s, .slice a na ca] 36)).alloc (.cells #[.bool true, .slice a' na' ca'] 36)) #[.bool false, .slice none 0 0, .slice none 0 0] 38 (w.heap.size + 1 + 1) (by simp)).below HBwa.out).below (bel_of_alloc HBwb.out)).below HBwc.out).below (bel_of_alloc HBwd.out))
      go_wp2_with fail
      refine (xreduce_any (N := N) _ _ _ _ _ y.natAbs _ _ m' _ (by simp [World.setCell]; omega) (HF1.out _ _).1 (HF2.out _ _).1 (by omega) (by omega) h0 p HQ.out).mono ?_
      rintro e we ⟨rx, cx, rx2, cx2, rfl, hn, hn', hb⟩
      obtain ⟨hcwe, hfwe⟩ := bcell hb
      have hzwe0 : w.heap.size < we.heap.size := by have := hb.size; (try simp at this); omega
      have hzwe1 : w.heap.size + 1 < we.heap.size := by have := hb.size; (try simp at this); omega
      have hzwe2 : w.heap.size + 1 + 1 < we.heap.size := by have := hb.size; (try simp at this); omega
      have hzwe3 : wa.heap.size < we.heap.size := by have := hb.size; (try simp at this); omega
      have hzwe4 : wc.heap.size < we.heap.size := by have := hb.size; (try simp at this); omega
      have HBwe := Lib.hid hb
      have HNwe := Lib.hid hn
      have HN'we := Lib.hid hn'
      clear hb hn hn'
      have HX := Lib.hid (((HXd.out.set _ _).set _ _).below HBwe.out)
      have HBE := Lib.hid (show Below w.heap.size w we from (HF1.out _ _).2.trans (HBwe.out.mono (by simp [World.setCell]; omega)))
      have HF := Lib.hid (fun v0 v1 v2 => fin3 hN (by omega) HX.out HNwe.out HN'we.out HBE.out v0 v1 v2)
      go_wp2_with fail
      exact bodyPost_ret (v := .tuple #[.agg #[.bool (decide ((p).num < 0)), .slice rx (nlen (p).num.natAbs) cx, .slice rx2 (nlen (p).den) cx2], .bool true]) (by simp [results, Try.results99, go_sem, hcwa, hcwb, hcwc, hcwd, hcwe, hzwa1, hzwa2, hzwb2, hzwc1, hzwc2, hzwd2]) rfl ⟨_, _, _, _, rfl, (HF.out _ _ _).1, (HF.out _ _ _).2.1, (HF.out _ _ _).2.2⟩

set_option maxHeartbeats 4000000 in
theorem xrof_any {N : Nat} (n d : Int) (w : World) (hN : N ≤ w.heap.size) (n1 : -9223372036854775808 ≤ n) (n2 : n ≤ 9223372036854775807) (d1 : -9223372036854775808 ≤ d) (d2 : d ≤ 9223372036854775807) (p : Rat) (hp : mkRat (zI (decide (n < 0) != decide (d < 0)) n.natAbs) d.natAbs = p) :
    Calls Try.prog 77 #[.int .i64 n, .int .i64 d] w (RatPost2 N w p (decide (0 < d.natAbs))) := by
  have HP := Lib.hid hp
  have l1 := nlen_two (m := n.natAbs) (by omega)
  have l2 := nlen_two (m := d.natAbs) (by omega)
  clear hp
  go_enter Try.func77, Try.ntmps77
  go_wp2_with fail
  refine (xiof_any (N := N) n _ (by simp; omega) n1 n2).mono ?_
  rintro e wa ⟨ra, ca, rfl, hn, hb⟩
  obtain ⟨hcwa, hfwa⟩ := bcell hb
  have hzwa0 : w.heap.size < wa.heap.size := by have := hb.size; (try simp at this); omega
  have HBwa := Lib.hid hb
  have HNwa := Lib.hid hn
  clear hb hn
  go_wp2_with fail
  refine (xiof_any (N := N) d _ (by omega) d1 d2).mono ?_
  rintro e wb ⟨rb, cb', rfl, hn, hb⟩
  obtain ⟨hcwb, hfwb⟩ := bcell hb
  have hzwb0 : w.heap.size < wb.heap.size := by have := hb.size; (try simp at this); omega
  have HBwb := Lib.hid hb
  have HNwb := Lib.hid hn
  clear hb hn
  go_wp2_with fail
  refine (xrmake_any (N := N) _ _ _ _ _ _ n.natAbs _ _ d.natAbs _ (by omega) (HNwa.out.below HBwb.out) HNwb.out (by omega) (by omega) p HP.out).mono ?_
  rintro e wc ⟨rx, cx, rx2, cx2, rfl, hn, hn', hb⟩
  obtain ⟨hcwc, hfwc⟩ := bcell hb
  have hzwc0 : w.heap.size < wc.heap.size := by have := hb.size; (try simp at this); omega
  have HBwc := Lib.hid hb
  have HNwc := Lib.hid hn
  have HN'wc := Lib.hid hn'
  clear hb hn hn'
  have HX := Lib.hid ((((Bx.new' w #[.bool false, .slice none 0 0, .slice none 0 0] 38 (w.heap.size) (by simp)).below HBwa.out).below HBwb.out).below HBwc.out)
  have HF := Lib.hid (fun v0 v1 v2 => fin3 hN (by omega) HX.out HNwc.out HN'wc.out ((((bel1 w _).trans (HBwa.out.mono (by first | omega | (simp; done) | (simp; omega)))).trans (HBwb.out.mono (by first | omega | (simp; done) | (simp; omega)))).trans (HBwc.out.mono (by first | omega | (simp; done) | (simp; omega)))) v0 v1 v2)
  go_wp2_with fail
  exact bodyPost_ret (v := .tuple #[.agg #[.bool (decide ((p).num < 0)), .slice rx (nlen (p).num.natAbs) cx, .slice rx2 (nlen (p).den) cx2], .bool (decide (0 < d.natAbs))]) (by simp [results, Try.results77, go_sem, hcwa, hcwb, hcwc, hzwa0, hzwb0]) rfl ⟨_, _, _, _, rfl, (HF.out _ _ _).1, (HF.out _ _ _).2.1, (HF.out _ _ _).2.2⟩
  

end Go.Proofs.Ytmljfaplohbjcaa

namespace Go.Proofs.Ytmljfaplohbjcaa
open Go.RowKit

/-- u is the natural number m in normal form -/
def IsNat (N : Nat) (m : Nat) (u : Value) (w : World) : Prop := ∃ r c, u = .slice r (nlen m) c ∧ Nt N w r (nlen m) c m
theorem IsNat.below {N m : Nat} {u : Value} {w w' : World} (h : IsNat N m u w) (hb : Below w.heap.size w w') : IsNat N m u w' := by obtain ⟨r, c, e, h⟩ := h; exact ⟨r, c, e, h.below hb⟩
/-- s points to a box of its own that holds the integer z in normal form -/
def CutInt (N : Nat) (W : World) (z : Int) (s : Value) (w : World) : Prop :=
  ∃ g r c, s = .pointer (some ⟨g, 0, none⟩) ∧ W.heap.size ≤ g ∧ Bk w g 36 2 ∧ w.cell? ⟨g, 0, none⟩ = some (.bool (decide (z < 0))) ∧ w.cell? ⟨g, 1, none⟩ = some (.slice r (nlen z.natAbs) c) ∧ Nt N w r (nlen z.natAbs) c z.natAbs ∧ Since W w
theorem cutInt_of {N g : Nat} {W w : World} {z : Int} {r : Option Addr} {c : Nat} (hN : N ≤ W.heap.size) (hg : W.heap.size ≤ g) (hk : Bk w g 36 2) (h1 : Nt N w r (nlen z.natAbs) c z.natAbs) (hb : Since W w) :
    CutInt N W z (.pointer (some ⟨g, 0, none⟩)) ((w.setCell ⟨g, 0, none⟩ (.bool (decide (z < 0)))).setCell ⟨g, 1, none⟩ (.slice r (nlen z.natAbs) c)) := by
  obtain ⟨v0, k0⟩ := hk.cell (o := 0) (by omega)
  obtain ⟨v1, k1⟩ := hk.cell (o := 1) (by omega)
  have hs := set2_cells (v0 := .bool (decide (z < 0))) (v1 := .slice r (nlen z.natAbs) c) k0 k1
  have hf := fin2 hN hg hk.bx h1 hb.1 (.bool (decide (z < 0))) (.slice r (nlen z.natAbs) c)
  exact ⟨g, r, c, rfl, hg, (hk.set _ _).set _ _, hs.1, hs.2, hf.1, hf.2, by simpa [World.setCell] using hb.2⟩
theorem zI_false (m : Nat) : zI false m = (m : Int) := rfl
theorem xcmp_mk (z1 z2 x1 x2 : Int) (d1 d2 : Nat) (h1 : 0 < d1) (h2 : 0 < d2) (p q : Rat) (e1 : mkRat z1 d1 = p) (e2 : mkRat z2 d2 = q) (a1 : z1 * (d2 : Int) = x1) (a2 : z2 * (d1 : Int) = x2) : cmpZ x1 x2 = cmpQ p q := by
  have h := cmp_mk z1 z2 x1 x2 d1 d2 h1 h2 p q e1 e2 a1 a2
  rw [zI_norm, zI_norm] at h
  exact h

def CmpJ1 (N : Nat) (s s' : Bool) (a d a' d' : Option Addr) (na ca nd cd na' ca' nd' cd' : Nat) (zz1 x1 E2 : Int) (D2 : Nat) (W : World) (z0 : Act) (L : Nat → Bool) (z1 : Act) (w : World) : Prop :=
  ∃ u7 u8 u9 u10 u11 u12 u5, z1 = (((((((z0.put (some 7) u7).put (some 8) u8).put (some 9) u9).put (some 10) u10).put (some 11) u11).put (some 12) u12).put (some 5) u5) ∧
    ((L 7 = false ∧ Since W w ∧ (L 0 = true → u7 = .agg #[.bool s, .slice a na ca, .slice d nd cd]) ∧ (L 1 = true → IsInt N zz1 u8 w) ∧ (L 2 = true → u9 = .agg #[.bool s', .slice a' na' ca', .slice d' nd' cd']) ∧ (L 3 = true → IsNat N D2 u10 w) ∧ (L 4 = true → IsInt N E2 u11 w) ∧ (L 5 = true → IsInt N x1 u12 w) ∧ (L 6 = true → IsBox W.heap.size 36 2 u5 w)) ∨
     (L 7 = true ∧ (∀ j, j < 7 → L j = true) ∧ CutInt N W x1 u5 w))

def CmpJ2 (N : Nat) (s s' : Bool) (a d a' d' : Option Addr) (na ca nd cd na' ca' nd' cd' : Nat) (zz2 x2 E1 : Int) (D1 : Nat) (W : World) (z0 : Act) (L : Nat → Bool) (z1 : Act) (w : World) : Prop :=
  ∃ u13 u14 u15 u16 u17 u18 u6, z1 = (((((((z0.put (some 13) u13).put (some 14) u14).put (some 15) u15).put (some 16) u16).put (some 17) u17).put (some 18) u18).put (some 6) u6) ∧
    ((L 7 = false ∧ Since W w ∧ (L 0 = true → u13 = .agg #[.bool s', .slice a' na' ca', .slice d' nd' cd']) ∧ (L 1 = true → IsInt N zz2 u14 w) ∧ (L 2 = true → u15 = .agg #[.bool s, .slice a na ca, .slice d nd cd]) ∧ (L 3 = true → IsNat N D1 u16 w) ∧ (L 4 = true → IsInt N E1 u17 w) ∧ (L 5 = true → IsInt N x2 u18 w) ∧ (L 6 = true → IsBox W.heap.size 36 2 u6 w)) ∨
     (L 7 = true ∧ (∀ j, j < 7 → L j = true) ∧ CutInt N W x2 u6 w))

set_option maxHeartbeats 8000000 in
theorem xrcmp_any {N : Nat} (s s' : Bool) (a d a' d' : Option Addr) (na ca nd cd na' ca' nd' cd' L L' : Nat) (q q' : Rat) (w : World) (hN : N ≤ w.heap.size) (h : Rt N w s a na ca d nd cd q L) (h' : Rt N w s' a' na' ca' d' nd' cd' q' L') (hL : L ≤ 68719476736) (hL' : L' ≤ 68719476736) :
    Calls Try.prog 44 #[.agg #[.bool s, .slice a na ca, .slice d nd cd], .agg #[.bool s', .slice a' na' ca', .slice d' nd' cd']] w fun e w' => e = .returned (.int .i64 (cmpQ q q')) ∧ Below w.heap.size w w' := by
  obtain ⟨l0, l1, l2, mn, md, ha, hd, hq⟩ := h
  obtain ⟨l0', l1', l2', mn', md', ha', hd', hq'⟩ := h'
  obtain ⟨zz1, hz1⟩ : ∃ z, tz s mn md = z := ⟨_, rfl⟩
  obtain ⟨zz2, hz2⟩ : ∃ z, tz s' mn' md' = z := ⟨_, rfl⟩
  have e1 : mkRat zz1 (dl md) = q := by rw [← hz1, tz_dl, hq]
  have e2 : mkRat zz2 (dl md') = q' := by rw [← hz2, tz_dl, hq']
  have lz1 : nlen zz1.natAbs ≤ L := by rw [← hz1]; exact tz_len (nlen_bound ha _ l1)
  have lz2 : nlen zz2.natAbs ≤ L' := by rw [← hz2]; exact tz_len (nlen_bound ha' _ l1')
  have ld1 : nlen (dl md) ≤ L := dl_len (nlen_bound hd _ l2) l0
  have ld2 : nlen (dl md') ≤ L' := dl_len (nlen_bound hd' _ l2') l0'
  have p1 := dl_pos md
  have p2 := dl_pos md'
  obtain ⟨D1, hD1⟩ : ∃ D, dl md = D := ⟨_, rfl⟩
  obtain ⟨D2, hD2⟩ : ∃ D, dl md' = D := ⟨_, rfl⟩
  rw [hD1] at ld1 p1 e1
  rw [hD2] at ld2 p2 e2
  obtain ⟨x1, hx1⟩ : ∃ x, zz1 * (D2 : Int) = x := ⟨_, rfl⟩
  obtain ⟨x2, hx2⟩ : ∃ x, zz2 * (D1 : Int) = x := ⟨_, rfl⟩
  have HE := Lib.hid (xcmp_mk zz1 zz2 x1 x2 D1 D2 p1 p2 q q' e1 e2 hx1 hx2)
  have lx1 : nlen x1.natAbs ≤ 137438953472 := by rw [← hx1, Int.natAbs_mul, Int.natAbs_natCast]; have := nlen_mul zz1.natAbs D2; omega
  have lx2 : nlen x2.natAbs ≤ 137438953472 := by rw [← hx2, Int.natAbs_mul, Int.natAbs_natCast]; have := nlen_mul zz2.natAbs D1; omega
  obtain ⟨E1, hE1⟩ : ∃ E : Int, (D1 : Int) = E := ⟨_, rfl⟩
  obtain ⟨E2, hE2⟩ : ∃ E : Int, (D2 : Int) = E := ⟨_, rfl⟩
  have Hx1 := Lib.hid (show zI (decide (zz1 < 0)) zz1.natAbs * zI (decide (E2 < 0)) E2.natAbs = x1 by rw [zI_norm, zI_norm, ← hE2]; exact hx1)
  have Hx2 := Lib.hid (show zI (decide (zz2 < 0)) zz2.natAbs * zI (decide (E1 < 0)) E1.natAbs = x2 by rw [zI_norm, zI_norm, ← hE1]; exact hx2)
  have ln1 : nlen E1.natAbs ≤ L := by rw [← hE1, Int.natAbs_natCast]; exact ld1
  have ln2 : nlen E2.natAbs ≤ L' := by rw [← hE2, Int.natAbs_natCast]; exact ld2
  have HE1 := Lib.hid ((zI_false D1).trans hE1)
  have HE2 := Lib.hid ((zI_false D2).trans hE2)
  have HZ1 := Lib.hid hz1
  have HZ2 := Lib.hid hz2
  have HD1 := Lib.hid hD1
  have HD2 := Lib.hid hD2
  obtain ⟨W, hW, hWs, k0, k1, k2, k'0, k'1, k'2⟩ : ∃ W, ((w.alloc (.cells #[.bool s, .slice a na ca, .slice d nd cd] 38)).alloc (.cells #[.bool s', .slice a' na' ca', .slice d' nd' cd'] 38)) = W ∧ W.heap.size = w.heap.size + 2 ∧ W.cell? ⟨w.heap.size, 0, none⟩ = some (.bool s) ∧ W.cell? ⟨w.heap.size, 1, none⟩ = some (.slice a na ca) ∧ W.cell? ⟨w.heap.size, 2, none⟩ = some (.slice d nd cd) ∧ W.cell? ⟨w.heap.size + 1, 0, none⟩ = some (.bool s') ∧ W.cell? ⟨w.heap.size + 1, 1, none⟩ = some (.slice a' na' ca') ∧ W.cell? ⟨w.heap.size + 1, 2, none⟩ = some (.slice d' nd' cd') := ⟨_, rfl, by simp, by go_simp, by go_simp, by go_simp, by go_simp, by go_simp, by go_simp⟩
  have HA := Lib.hid (show Nt N W a na ca mn by rw [← hW]; exact ((ha.alloc (.cells #[.bool s, .slice a na ca, .slice d nd cd] 38)).alloc (.cells #[.bool s', .slice a' na' ca', .slice d' nd' cd'] 38)))
  have HD := Lib.hid (show Nt N W d nd cd md by rw [← hW]; exact ((hd.alloc (.cells #[.bool s, .slice a na ca, .slice d nd cd] 38)).alloc (.cells #[.bool s', .slice a' na' ca', .slice d' nd' cd'] 38)))
  have HA' := Lib.hid (show Nt N W a' na' ca' mn' by rw [← hW]; exact ((ha'.alloc (.cells #[.bool s, .slice a na ca, .slice d nd cd] 38)).alloc (.cells #[.bool s', .slice a' na' ca', .slice d' nd' cd'] 38)))
  have HD' := Lib.hid (show Nt N W d' nd' cd' md' by rw [← hW]; exact ((hd'.alloc (.cells #[.bool s, .slice a na ca, .slice d nd cd] 38)).alloc (.cells #[.bool s', .slice a' na' ca', .slice d' nd' cd'] 38)))
  have HNW := Lib.hid (show N ≤ W.heap.size by rw [← hW]; simp; omega)
  have HBW := Lib.hid (show Below w.heap.size w W by rw [← hW]; exact bel2 _ _ _)
  clear ha hd ha' hd' hq hq' hz1 hz2 e1 e2 hD1 hD2 hE1 hE2 hx1 hx2 p1 p2
  go_enter Try.func44, Try.ntmps44
  go_upto_region 1 with fail
  try rw [hW]
  clear hW
  go_cut [5] (fun s5 wx => CutInt N W x1 s5 wx)
  case first =>
    refine region_inv2 (by kernel_rfl) (CmpJ1 N s s' a d a' d' na ca nd cd na' ca' nd' cd' zz1 x1 E2 D2 (W)) ?_ ?_ ?_ ?_
    · exact ⟨undef, undef, undef, undef, undef, undef, undef, by simp only [Act.put, aT, aZ, aS], .inl ⟨rfl, Since.drawn _, NoR⟩⟩
    · exact acyc_spec (by kernel_rfl)
    · intro Ls a0 wq i o ho hLi hafter hJ
      obtain ⟨u7, u8, u9, u10, u11, u12, u5, rfl, hJ | ⟨h10, hall, _⟩⟩ := hJ
      · obtain ⟨hLl, hS, p0, p1, p2, p3, p4, p5, p6⟩ := hJ
        have P0 := Lib.hid p0; have P1 := Lib.hid p1; have P2 := Lib.hid p2; have P3 := Lib.hid p3; have P4 := Lib.hid p4; have P5 := Lib.hid p5; have P6 := Lib.hid p6; have HS := Lib.hid hS; clear hS p0 p1 p2 p3 p4 p5 p6
        have hi : i < 8 := (Array.getElem?_eq_some_iff.1 ho).1
        obtain rfl | rfl | rfl | rfl | rfl | rfl | rfl | rfl : i = 0 ∨ i = 1 ∨ i = 2 ∨ i = 3 ∨ i = 4 ∨ i = 5 ∨ i = 6 ∨ i = 7 := by omega
        · simp only [gT, gZ, Option.some.injEq] at ho
          subst ho
          have c0 := (HS.out.1.cell (p := ⟨w.heap.size, 0, none⟩) (by show w.heap.size < W.heap.size; omega)).trans k0
          have c1 := (HS.out.1.cell (p := ⟨w.heap.size, 1, none⟩) (by show w.heap.size < W.heap.size; omega)).trans k1
          have c2 := (HS.out.1.cell (p := ⟨w.heap.size, 2, none⟩) (by show w.heap.size < W.heap.size; omega)).trans k2
          clear hLi hafter
          simp only [Act.put, aT, aZ, aS]
          go_wp2_with fail
          exact ⟨.agg #[.bool s, .slice a na ca, .slice d nd cd], u8, u9, u10, u11, u12, u5, by simp only [Act.put, aT, aZ, aS], .inl ⟨by simpa using hLl, HS.out, (fun _ => rfl), PvR⟩⟩
        · simp only [gT, gZ, gS, Option.some.injEq] at ho
          subst ho
          obtain rfl := P0.out (hafter ⟨0, .data⟩ (by simp) rfl)
          clear hLi hafter
          simp only [Act.put, aT, aZ, aS]
          go_wp2_with fail
          refine (xtop_any (N := N) _ _ _ _ _ mn _ _ md _ (Nat.le_trans HNW.out HS.out.2) (HA.out.below HS.out.1) (HD.out.below HS.out.1) (by omega) (by omega) zz1 HZ1.out).mono ?_
          rintro e wn ⟨r, c, rfl, hn, hb⟩
          have HN := Lib.hid hn
          have Hb := Lib.hid hb
          clear hn hb
          go_wp2_with fail
          exact ⟨.agg #[.bool s, .slice a na ca, .slice d nd cd], _, u9, u10, u11, u12, u5, by simp only [Act.put, aT, aZ, aS], .inl ⟨by simpa using hLl, HS.out.below Hb.out, PvA, (fun _ => ⟨r, c, rfl, HN.out⟩), PvA, (fun h => (P3.out (by simpa using h)).below Hb.out), (fun h => (P4.out (by simpa using h)).below Hb.out), (fun h => (P5.out (by simpa using h)).below Hb.out), (fun h => (P6.out (by simpa using h)).below Hb.out)⟩⟩
        · simp only [gT, gZ, gS, Option.some.injEq] at ho
          subst ho
          have c0 := (HS.out.1.cell (p := ⟨w.heap.size + 1, 0, none⟩) (by show w.heap.size + 1 < W.heap.size; omega)).trans k'0
          have c1 := (HS.out.1.cell (p := ⟨w.heap.size + 1, 1, none⟩) (by show w.heap.size + 1 < W.heap.size; omega)).trans k'1
          have c2 := (HS.out.1.cell (p := ⟨w.heap.size + 1, 2, none⟩) (by show w.heap.size + 1 < W.heap.size; omega)).trans k'2
          clear hLi hafter
          simp only [Act.put, aT, aZ, aS]
          go_wp2_with fail
          exact ⟨u7, u8, .agg #[.bool s', .slice a' na' ca', .slice d' nd' cd'], u10, u11, u12, u5, by simp only [Act.put, aT, aZ, aS], .inl ⟨by simpa using hLl, HS.out, PvA, PvA, (fun _ => rfl), PvR⟩⟩
        · simp only [gT, gZ, gS, Option.some.injEq] at ho
          subst ho
          obtain rfl := P2.out (hafter ⟨2, .data⟩ (by simp) rfl)
          clear hLi hafter
          simp only [Act.put, aT, aZ, aS]
          go_wp2_with fail
          refine (xlow_any (N := N) _ _ _ _ _ mn' _ _ md' _ (Nat.le_trans HNW.out HS.out.2) (HA'.out.below HS.out.1) (HD'.out.below HS.out.1) (by omega) (by omega)).mono ?_
          rw [HD2.out]
          rintro e wn ⟨r, c, rfl, hn, hb⟩
          have HN := Lib.hid hn
          have Hb := Lib.hid hb
          clear hn hb
          go_wp2_with fail
          exact ⟨u7, u8, .agg #[.bool s', .slice a' na' ca', .slice d' nd' cd'], _, u11, u12, u5, by simp only [Act.put, aT, aZ, aS], .inl ⟨by simpa using hLl, HS.out.below Hb.out, PvA, (fun h => (P1.out (by simpa using h)).below Hb.out), PvA, (fun _ => ⟨r, c, rfl, HN.out⟩), (fun h => (P4.out (by simpa using h)).below Hb.out), (fun h => (P5.out (by simpa using h)).below Hb.out), (fun h => (P6.out (by simpa using h)).below Hb.out)⟩⟩
        · simp only [gT, gZ, gS, Option.some.injEq] at ho
          subst ho
          obtain ⟨r3, c3, rfl, hn3⟩ := P3.out (hafter ⟨3, .data⟩ (by simp) rfl)
          have HN3 := Lib.hid hn3
          clear hn3
          clear hLi hafter
          simp only [Act.put, aT, aZ, aS]
          go_wp2_with fail
          refine (xmake_z (N := N) false _ _ _ D2 _ (Nat.le_trans HNW.out HS.out.2) HN3.out (by omega) E2 HE2.out).mono ?_
          rintro e wn ⟨r, c, rfl, hn, hb⟩
          have HN := Lib.hid hn
          have Hb := Lib.hid hb
          clear hn hb
          go_wp2_with fail
          exact ⟨u7, u8, u9, _, _, u12, u5, by simp only [Act.put, aT, aZ, aS], .inl ⟨by simpa using hLl, HS.out.below Hb.out, PvA, (fun h => (P1.out (by simpa using h)).below Hb.out), PvA, (fun h => (P3.out (by simpa using h)).below Hb.out), (fun _ => ⟨r, c, rfl, HN.out⟩), (fun h => (P5.out (by simpa using h)).below Hb.out), (fun h => (P6.out (by simpa using h)).below Hb.out)⟩⟩
        · simp only [gT, gZ, gS, Option.some.injEq] at ho
          subst ho
          obtain ⟨r1, c1, rfl, hn1⟩ := P1.out (hafter ⟨1, .data⟩ (by simp) rfl)
          have HN1 := Lib.hid hn1
          clear hn1
          obtain ⟨r4, c4, rfl, hn4⟩ := P4.out (hafter ⟨4, .data⟩ (by simp) rfl)
          have HN4 := Lib.hid hn4
          clear hn4
          clear hLi hafter
          simp only [Act.put, aT, aZ, aS]
          go_wp2_with fail
          refine (ximul_any (N := N) _ _ _ _ _ _ zz1.natAbs _ _ E2.natAbs _ (Nat.le_trans HNW.out HS.out.2) HN1.out HN4.out (by omega) (by omega) x1 Hx1.out).mono ?_
          rintro e wn ⟨r, c, rfl, hn, hb⟩
          have HN := Lib.hid hn
          have Hb := Lib.hid hb
          clear hn hb
          go_wp2_with fail
          exact ⟨u7, _, u9, u10, _, _, u5, by simp only [Act.put, aT, aZ, aS], .inl ⟨by simpa using hLl, HS.out.below Hb.out, PvA, (fun h => (P1.out (by simpa using h)).below Hb.out), PvA, (fun h => (P3.out (by simpa using h)).below Hb.out), (fun h => (P4.out (by simpa using h)).below Hb.out), (fun _ => ⟨r, c, rfl, HN.out⟩), (fun h => (P6.out (by simpa using h)).below Hb.out)⟩⟩
        · simp only [gT, gZ, gS, Option.some.injEq] at ho
          subst ho
          clear hLi hafter
          simp only [Act.put, aT, aZ, aS]
          go_wp2_with fail
          exact ⟨u7, u8, u9, u10, u11, u12, _, by simp only [Act.put, aT, aZ, aS], .inl ⟨by simpa using hLl, HS.out.below (bel1 wq (.cells #[.bool false, .slice none 0 0] 36)), PvA, (fun h => (P1.out (by simpa using h)).below (bel1 wq (.cells #[.bool false, .slice none 0 0] 36))), PvA, (fun h => (P3.out (by simpa using h)).below (bel1 wq (.cells #[.bool false, .slice none 0 0] 36))), (fun h => (P4.out (by simpa using h)).below (bel1 wq (.cells #[.bool false, .slice none 0 0] 36))), (fun h => (P5.out (by simpa using h)).below (bel1 wq (.cells #[.bool false, .slice none 0 0] 36))), (fun _ => ⟨wq.heap.size, rfl, HS.out.2, Bk.new _ _ _⟩)⟩⟩
        · simp only [gT, gZ, gS, Option.some.injEq] at ho
          subst ho
          have hall : ∀ j, j < 7 → Ls j = true := by
            intro j hj
            obtain rfl | rfl | rfl | rfl | rfl | rfl | rfl : j = 0 ∨ j = 1 ∨ j = 2 ∨ j = 3 ∨ j = 4 ∨ j = 5 ∨ j = 6 := by omega
            all_goals exact hafter ⟨_, .phase⟩ (by simp) rfl
          have HALL := Lib.hid hall
          clear hall
          obtain ⟨r5, c5, rfl, hn5⟩ := P5.out (hafter ⟨5, .data⟩ (by simp) rfl)
          have HN5 := Lib.hid hn5
          clear hn5
          obtain ⟨g, rfl, hg, hbk⟩ := P6.out (hafter ⟨6, .data⟩ (by simp) rfl)
          have f0 := hbk.frozen
          have HK := Lib.hid hbk
          obtain ⟨v0, hv0⟩ := hbk.cell (o := 0) (by omega)
          obtain ⟨v1, hv1⟩ := hbk.cell (o := 1) (by omega)
          clear hbk
          clear hLi hafter
          simp only [Act.put, aT, aZ, aS]
          go_wp2_with fail
          exact ⟨u7, u8, u9, u10, u11, .agg #[.bool (decide (x1 < 0)), .slice r5 (nlen x1.natAbs) c5], .pointer (some ⟨g, 0, none⟩), by simp only [Act.put, aT, aZ, aS], .inr ⟨by simp, fun j hj => by simp [HALL.out j hj], cutInt_of HNW.out hg HK.out HN5.out HS.out⟩⟩
      · exfalso
        have hi : i < 8 := (Array.getElem?_eq_some_iff.1 ho).1
        rcases Nat.lt_or_ge i 7 with h | h
        · rw [hall i h] at hLi; cases hLi
        · obtain rfl : i = 7 := by omega
          rw [h10] at hLi; cases hLi
    · intro Ls a0 wq hall hJ
      obtain ⟨u7, u8, u9, u10, u11, u12, u5, rfl, ⟨h10, _⟩ | ⟨_, _, hcut⟩⟩ := hJ
      · rw [hall 7 (by decide)] at h10; cases h10
      · have HC := Lib.hid hcut
        clear hcut
        simp only [Act.put, aT, aZ, aS]
        go_wp2_with fail
        go_meet
        exact HC.out
  case rest =>
    obtain ⟨W2, rfl⟩ : ∃ W2 : World, W2 = wc := ⟨_, rfl⟩
    obtain ⟨g1, ra, ca1, rfl, hg1, hk1, kg0, kg1, hn1, hs1⟩ := hcut
    have hgl := hk1.lt
    have HN1 := Lib.hid hn1
    have hsz1 := hs1.2
    replace k0 := (hs1.1.cell (p := ⟨w.heap.size, 0, none⟩) (by show w.heap.size < W.heap.size; omega)).trans k0
    replace k1 := (hs1.1.cell (p := ⟨w.heap.size, 1, none⟩) (by show w.heap.size < W.heap.size; omega)).trans k1
    replace k2 := (hs1.1.cell (p := ⟨w.heap.size, 2, none⟩) (by show w.heap.size < W.heap.size; omega)).trans k2
    replace k'0 := (hs1.1.cell (p := ⟨w.heap.size + 1, 0, none⟩) (by show w.heap.size + 1 < W.heap.size; omega)).trans k'0
    replace k'1 := (hs1.1.cell (p := ⟨w.heap.size + 1, 1, none⟩) (by show w.heap.size + 1 < W.heap.size; omega)).trans k'1
    replace k'2 := (hs1.1.cell (p := ⟨w.heap.size + 1, 2, none⟩) (by show w.heap.size + 1 < W.heap.size; omega)).trans k'2
    replace HA := Lib.hid (HA.out.below hs1.1)
    replace HD := Lib.hid (HD.out.below hs1.1)
    replace HA' := Lib.hid (HA'.out.below hs1.1)
    replace HD' := Lib.hid (HD'.out.below hs1.1)
    replace HNW := Lib.hid (Nat.le_trans HNW.out hs1.2)
    replace HBW := Lib.hid (HBW.out.trans (hs1.1.mono (by omega)))
    clear hn1 hs1 hk1 Hx1 HZ1 HD2 HE2
    go_upto_region 2 with fail
    go_cut [6] (fun s6 wx => CutInt N W2 x2 s6 wx)
    case first =>
      refine region_inv2 (by kernel_rfl) (CmpJ2 N s s' a d a' d' na ca nd cd na' ca' nd' cd' zz2 x2 E1 D1 (W2)) ?_ ?_ ?_ ?_
      · exact ⟨u13, u14, u15, u16, u17, u18, undef, by simp only [Act.put, aT, aZ, aS], .inl ⟨rfl, Since.drawn _, NoR⟩⟩
      · exact acyc_spec (by kernel_rfl)
      · intro Ls a0 wq i o ho hLi hafter hJ
        obtain ⟨u13, u14, u15, u16, u17, u18, u6, rfl, hJ | ⟨h10, hall, _⟩⟩ := hJ
        · obtain ⟨hLl, hS, p0, p1, p2, p3, p4, p5, p6⟩ := hJ
          have P0 := Lib.hid p0; have P1 := Lib.hid p1; have P2 := Lib.hid p2; have P3 := Lib.hid p3; have P4 := Lib.hid p4; have P5 := Lib.hid p5; have P6 := Lib.hid p6; have HS := Lib.hid hS; clear hS p0 p1 p2 p3 p4 p5 p6
          have hi : i < 8 := (Array.getElem?_eq_some_iff.1 ho).1
          obtain rfl | rfl | rfl | rfl | rfl | rfl | rfl | rfl : i = 0 ∨ i = 1 ∨ i = 2 ∨ i = 3 ∨ i = 4 ∨ i = 5 ∨ i = 6 ∨ i = 7 := by omega
          · simp only [gT, gZ, Option.some.injEq] at ho
            subst ho
            have c0 := (HS.out.1.cell (p := ⟨w.heap.size + 1, 0, none⟩) (by show w.heap.size + 1 < W2.heap.size; omega)).trans k'0
            have c1 := (HS.out.1.cell (p := ⟨w.heap.size + 1, 1, none⟩) (by show w.heap.size + 1 < W2.heap.size; omega)).trans k'1
            have c2 := (HS.out.1.cell (p := ⟨w.heap.size + 1, 2, none⟩) (by show w.heap.size + 1 < W2.heap.size; omega)).trans k'2
            clear hLi hafter
            simp only [Act.put, aT, aZ, aS]
            go_wp2_with fail
            exact ⟨.agg #[.bool s', .slice a' na' ca', .slice d' nd' cd'], u14, u15, u16, u17, u18, u6, by simp only [Act.put, aT, aZ, aS], .inl ⟨by simpa using hLl, HS.out, (fun _ => rfl), PvR⟩⟩
          · simp only [gT, gZ, gS, Option.some.injEq] at ho
            subst ho
            obtain rfl := P0.out (hafter ⟨0, .data⟩ (by simp) rfl)
            clear hLi hafter
            simp only [Act.put, aT, aZ, aS]
            go_wp2_with fail
            refine (xtop_any (N := N) _ _ _ _ _ mn' _ _ md' _ (Nat.le_trans HNW.out HS.out.2) (HA'.out.below HS.out.1) (HD'.out.below HS.out.1) (by omega) (by omega) zz2 HZ2.out).mono ?_
            rintro e wn ⟨r, c, rfl, hn, hb⟩
            have HN := Lib.hid hn
            have Hb := Lib.hid hb
            clear hn hb
            go_wp2_with fail
            exact ⟨.agg #[.bool s', .slice a' na' ca', .slice d' nd' cd'], _, u15, u16, u17, u18, u6, by simp only [Act.put, aT, aZ, aS], .inl ⟨by simpa using hLl, HS.out.below Hb.out, PvA, (fun _ => ⟨r, c, rfl, HN.out⟩), PvA, (fun h => (P3.out (by simpa using h)).below Hb.out), (fun h => (P4.out (by simpa using h)).below Hb.out), (fun h => (P5.out (by simpa using h)).below Hb.out), (fun h => (P6.out (by simpa using h)).below Hb.out)⟩⟩
          · simp only [gT, gZ, gS, Option.some.injEq] at ho
            subst ho
            have c0 := (HS.out.1.cell (p := ⟨w.heap.size, 0, none⟩) (by show w.heap.size < W2.heap.size; omega)).trans k0
            have c1 := (HS.out.1.cell (p := ⟨w.heap.size, 1, none⟩) (by show w.heap.size < W2.heap.size; omega)).trans k1
            have c2 := (HS.out.1.cell (p := ⟨w.heap.size, 2, none⟩) (by show w.heap.size < W2.heap.size; omega)).trans k2
            clear hLi hafter
            simp only [Act.put, aT, aZ, aS]
            go_wp2_with fail
            exact ⟨u13, u14, .agg #[.bool s, .slice a na ca, .slice d nd cd], u16, u17, u18, u6, by simp only [Act.put, aT, aZ, aS], .inl ⟨by simpa using hLl, HS.out, PvA, PvA, (fun _ => rfl), PvR⟩⟩
          · simp only [gT, gZ, gS, Option.some.injEq] at ho
            subst ho
            obtain rfl := P2.out (hafter ⟨2, .data⟩ (by simp) rfl)
            clear hLi hafter
            simp only [Act.put, aT, aZ, aS]
            go_wp2_with fail
            refine (xlow_any (N := N) _ _ _ _ _ mn _ _ md _ (Nat.le_trans HNW.out HS.out.2) (HA.out.below HS.out.1) (HD.out.below HS.out.1) (by omega) (by omega)).mono ?_
            rw [HD1.out]
            rintro e wn ⟨r, c, rfl, hn, hb⟩
            have HN := Lib.hid hn
            have Hb := Lib.hid hb
            clear hn hb
            go_wp2_with fail
            exact ⟨u13, u14, .agg #[.bool s, .slice a na ca, .slice d nd cd], _, u17, u18, u6, by simp only [Act.put, aT, aZ, aS], .inl ⟨by simpa using hLl, HS.out.below Hb.out, PvA, (fun h => (P1.out (by simpa using h)).below Hb.out), PvA, (fun _ => ⟨r, c, rfl, HN.out⟩), (fun h => (P4.out (by simpa using h)).below Hb.out), (fun h => (P5.out (by simpa using h)).below Hb.out), (fun h => (P6.out (by simpa using h)).below Hb.out)⟩⟩
          · simp only [gT, gZ, gS, Option.some.injEq] at ho
            subst ho
            obtain ⟨r3, c3, rfl, hn3⟩ := P3.out (hafter ⟨3, .data⟩ (by simp) rfl)
            have HN3 := Lib.hid hn3
            clear hn3
            clear hLi hafter
            simp only [Act.put, aT, aZ, aS]
            go_wp2_with fail
            refine (xmake_z (N := N) false _ _ _ D1 _ (Nat.le_trans HNW.out HS.out.2) HN3.out (by omega) E1 HE1.out).mono ?_
            rintro e wn ⟨r, c, rfl, hn, hb⟩
            have HN := Lib.hid hn
            have Hb := Lib.hid hb
            clear hn hb
            go_wp2_with fail
            exact ⟨u13, u14, u15, _, _, u18, u6, by simp only [Act.put, aT, aZ, aS], .inl ⟨by simpa using hLl, HS.out.below Hb.out, PvA, (fun h => (P1.out (by simpa using h)).below Hb.out), PvA, (fun h => (P3.out (by simpa using h)).below Hb.out), (fun _ => ⟨r, c, rfl, HN.out⟩), (fun h => (P5.out (by simpa using h)).below Hb.out), (fun h => (P6.out (by simpa using h)).below Hb.out)⟩⟩
          · simp only [gT, gZ, gS, Option.some.injEq] at ho
            subst ho
            obtain ⟨r1, c1, rfl, hn1⟩ := P1.out (hafter ⟨1, .data⟩ (by simp) rfl)
            have HN1 := Lib.hid hn1
            clear hn1
            obtain ⟨r4, c4, rfl, hn4⟩ := P4.out (hafter ⟨4, .data⟩ (by simp) rfl)
            have HN4 := Lib.hid hn4
            clear hn4
            clear hLi hafter
            simp only [Act.put, aT, aZ, aS]
            go_wp2_with fail
            refine (ximul_any (N := N) _ _ _ _ _ _ zz2.natAbs _ _ E1.natAbs _ (Nat.le_trans HNW.out HS.out.2) HN1.out HN4.out (by omega) (by omega) x2 Hx2.out).mono ?_
            rintro e wn ⟨r, c, rfl, hn, hb⟩
            have HN := Lib.hid hn
            have Hb := Lib.hid hb
            clear hn hb
            go_wp2_with fail
            exact ⟨u13, _, u15, u16, _, _, u6, by simp only [Act.put, aT, aZ, aS], .inl ⟨by simpa using hLl, HS.out.below Hb.out, PvA, (fun h => (P1.out (by simpa using h)).below Hb.out), PvA, (fun h => (P3.out (by simpa using h)).below Hb.out), (fun h => (P4.out (by simpa using h)).below Hb.out), (fun _ => ⟨r, c, rfl, HN.out⟩), (fun h => (P6.out (by simpa using h)).below Hb.out)⟩⟩
          · simp only [gT, gZ, gS, Option.some.injEq] at ho
            subst ho
            clear hLi hafter
            simp only [Act.put, aT, aZ, aS]
            go_wp2_with fail
            exact ⟨u13, u14, u15, u16, u17, u18, _, by simp only [Act.put, aT, aZ, aS], .inl ⟨by simpa using hLl, HS.out.below (bel1 wq (.cells #[.bool false, .slice none 0 0] 36)), PvA, (fun h => (P1.out (by simpa using h)).below (bel1 wq (.cells #[.bool false, .slice none 0 0] 36))), PvA, (fun h => (P3.out (by simpa using h)).below (bel1 wq (.cells #[.bool false, .slice none 0 0] 36))), (fun h => (P4.out (by simpa using h)).below (bel1 wq (.cells #[.bool false, .slice none 0 0] 36))), (fun h => (P5.out (by simpa using h)).below (bel1 wq (.cells #[.bool false, .slice none 0 0] 36))), (fun _ => ⟨wq.heap.size, rfl, HS.out.2, Bk.new _ _ _⟩)⟩⟩
          · simp only [gT, gZ, gS, Option.some.injEq] at ho
            subst ho
            have hall : ∀ j, j < 7 → Ls j = true := by
              intro j hj
              obtain rfl | rfl | rfl | rfl | rfl | rfl | rfl : j = 0 ∨ j = 1 ∨ j = 2 ∨ j = 3 ∨ j = 4 ∨ j = 5 ∨ j = 6 := by omega
              all_goals exact hafter ⟨_, .phase⟩ (by simp) rfl
            have HALL := Lib.hid hall
            clear hall
            obtain ⟨r5, c5, rfl, hn5⟩ := P5.out (hafter ⟨5, .data⟩ (by simp) rfl)
            have HN5 := Lib.hid hn5
            clear hn5
            obtain ⟨g, rfl, hg, hbk⟩ := P6.out (hafter ⟨6, .data⟩ (by simp) rfl)
            have f0 := hbk.frozen
            have HK := Lib.hid hbk
            obtain ⟨v0, hv0⟩ := hbk.cell (o := 0) (by omega)
            obtain ⟨v1, hv1⟩ := hbk.cell (o := 1) (by omega)
            clear hbk
            clear hLi hafter
            simp only [Act.put, aT, aZ, aS]
            go_wp2_with fail
            exact ⟨u13, u14, u15, u16, u17, .agg #[.bool (decide (x2 < 0)), .slice r5 (nlen x2.natAbs) c5], .pointer (some ⟨g, 0, none⟩), by simp only [Act.put, aT, aZ, aS], .inr ⟨by simp, fun j hj => by simp [HALL.out j hj], cutInt_of HNW.out hg HK.out HN5.out HS.out⟩⟩
        · exfalso
          have hi : i < 8 := (Array.getElem?_eq_some_iff.1 ho).1
          rcases Nat.lt_or_ge i 7 with h | h
          · rw [hall i h] at hLi; cases hLi
          · obtain rfl : i = 7 := by omega
            rw [h10] at hLi; cases hLi
      · intro Ls a0 wq hall hJ
        obtain ⟨u13, u14, u15, u16, u17, u18, u6, rfl, ⟨h10, _⟩ | ⟨_, _, hcut⟩⟩ := hJ
        · rw [hall 7 (by decide)] at h10; cases h10
        · have HC := Lib.hid hcut
          clear hcut
          simp only [Act.put, aT, aZ, aS]
          go_wp2_with fail
          go_meet
          exact HC.out
    case rest =>
      clear HA HD HA' HD'
      obtain ⟨g2, rb, cb1, rfl, hg2, hk2, kh0, kh1, hn2, hs2⟩ := hcut
      have hgl2 := hk2.lt
      have HN2 := Lib.hid hn2
      have hsz2 := hs2.2
      replace kg0 := (hs2.1.cell (p := ⟨g1, 0, none⟩) hgl).trans kg0
      replace kg1 := (hs2.1.cell (p := ⟨g1, 1, none⟩) hgl).trans kg1
      replace HN1 := Lib.hid (HN1.out.below hs2.1)
      replace HBW := Lib.hid (HBW.out.trans (hs2.1.mono (by omega)))
      have hNc : N ≤ wc.heap.size := Nat.le_trans HNW.out hs2.2
      clear hn2 hs2 hk2 k0 k1 k2 k'0 k'1 k'2
      go_wp2_with fail
      refine (xicmp_any (N := N) _ _ _ _ _ _ x1.natAbs _ _ x2.natAbs _ hNc HN1.out HN2.out (by omega) (by omega) x1 x2 (zI_norm x1) (zI_norm x2)).mono ?_
      rw [HE.out]
      rintro e we ⟨rfl, hb⟩
      have HBe := Lib.hid hb
      clear hb
      go_wp2_with fail
      go_ret
      exact ⟨rfl, HBW.out.trans (HBe.out.mono (by omega))⟩

end Go.Proofs.Ytmljfaplohbjcaa
