/- Contracts of the reference's integers: Norm, Make, Of, Sign, Cmp, Neg, Mul, Add: for integers of at most 2^38 limbs. -/
import Derived.Test.YtnidfpilmmhniaaRefE
import Derived.Test.YtnidfpilmmhniaaIntD
namespace Go.Proofs.Ytnidfpilmmhniaa
open Go.RowKit

set_option maxHeartbeats 1000000 in
theorem xinorm_core {N : Nat} (s : Bool) (a : Option Addr) (n cap m : Nat) (w : World) (hN : N ≤ w.heap.size) (h : Nt N w a n cap m) (hl : n ≤ 1099511627776) :
    Calls Try.prog 140 #[.agg #[.bool s, .slice a n cap]] w fun e w' => ∃ r cr, e = .returned (.agg #[.bool (s && decide (0 < m)), .slice r (nlen m) cr]) ∧ Nt N w' r (nlen m) cr m ∧ Below w.heap.size w w' := by
  have H := Lib.hid ((h.alloc (.cells #[.bool s, .slice a n cap] 27)).alloc (.cells #[.bool false, .slice none 0 0] 27))
  clear h
  go_enter Try.func140, Try.ntmps140
  go_wp2_with fail
  refine (xnorm_any (N := N) _ _ _ m _ H.out (by omega)).mono ?_
  rintro e wa ⟨r, cr, rfl, hn, hb⟩
  obtain ⟨hcwa, hfwa⟩ := bcell hb
  have hzwa0 : w.heap.size < wa.heap.size := by have := hb.size; (try simp at this); omega
  have hzwa1 : w.heap.size + 1 < wa.heap.size := by have := hb.size; (try simp at this); omega
  have HBwa := Lib.hid hb
  have HNwa := Lib.hid hn
  clear hb hn
  have HX := Lib.hid ((Bx.new' (w.alloc (.cells #[.bool s, .slice a n cap] 27)) #[.bool false, .slice none 0 0] 27 (w.heap.size + 1) (by simp)).below HBwa.out)
  have HF := Lib.hid (fun v0 v1 => fin2 hN (by omega) HX.out HNwa.out ((bel2 w _ _).trans (HBwa.out.mono (by first | omega | (simp; done) | (simp; omega)))) v0 v1)
  cases s
  · go_wp2_with fail
    exact bodyPost_ret (v := .agg #[.bool false, .slice r (nlen m) cr]) (by simp [results, Try.results140, go_sem, hcwa]) rfl ⟨_, _, rfl, (HF.out _ _).1, (HF.out _ _).2⟩
  · have hd : decide (0 < nlen m) = decide (0 < m) := by
      rcases Nat.eq_zero_or_pos m with h | h
      · subst h; simp [nlen_zero]
      · have : nlen m ≠ 0 := fun e => by rw [nlen_eq_zero] at e; omega
        simp [h]; omega
    have HD := Lib.hid hd
    clear hd
    go_wp2_with fail
    exact bodyPost_ret (v := .agg #[.bool (decide (0 < nlen m)), .slice r (nlen m) cr]) (by simp [results, Try.results140, go_sem, hcwa]) rfl ⟨_, _, by rw [HD.out]; rfl, (HF.out _ _).1, (HF.out _ _).2⟩
theorem xinorm_any {N : Nat} (s : Bool) (a : Option Addr) (n cap m : Nat) (w : World) (hN : N ≤ w.heap.size) (h : Nt N w a n cap m) (hl : n ≤ 1099511627776) (z : Int) (hz : zI s m = z) :
    Calls Try.prog 140 #[.agg #[.bool s, .slice a n cap]] w fun e w' => ∃ r cr, e = .returned (.agg #[.bool (decide (z < 0)), .slice r (nlen z.natAbs) cr]) ∧ Nt N w' r (nlen z.natAbs) cr z.natAbs ∧ Below w.heap.size w w' := by
  have h1 := xinorm_core s a n cap m w hN h hl
  rw [zI_neg, hz] at h1
  have h2 := zI_abs s m
  rw [hz] at h2
  rw [h2]
  exact h1

set_option maxHeartbeats 1000000 in
theorem xmake_z {N : Nat} (neg : Bool) (a : Option Addr) (n cap m : Nat) (w : World) (hN : N ≤ w.heap.size) (h : Nt N w a n cap m) (hl : n ≤ 1099511627776) (z : Int) (hz : zI neg m = z) :
    Calls Try.prog 112 #[.bool neg, .slice a n cap] w fun e w' => ∃ r cr, e = .returned (.agg #[.bool (decide (z < 0)), .slice r (nlen z.natAbs) cr]) ∧ Nt N w' r (nlen z.natAbs) cr z.natAbs ∧ Below w.heap.size w w' := by
  have H := Lib.hid (h.alloc (.cells #[.bool false, .slice none 0 0] 27))
  have HZ := Lib.hid hz
  clear h hz
  go_enter Try.func112, Try.ntmps112
  go_wp2_with fail
  refine (xinorm_any (N := N) neg _ _ _ m _ (by simp; omega) H.out hl z HZ.out).mono ?_
  rintro e wa ⟨r, cr, rfl, hn, hb⟩
  obtain ⟨hcwa, hfwa⟩ := bcell hb
  have hzwa0 : w.heap.size < wa.heap.size := by have := hb.size; (try simp at this); omega
  have HBwa := Lib.hid hb
  have HNwa := Lib.hid hn
  clear hb hn
  have HX := Lib.hid ((Bx.new w #[.bool false, .slice none 0 0] 27).below HBwa.out)
  have HF := Lib.hid (fun v0 v1 => fin2 hN (Nat.le_refl _) HX.out HNwa.out ((bel1 w _).trans (HBwa.out.mono (by first | omega | (simp; done) | (simp; omega)))) v0 v1)
  go_wp2_with fail
  exact bodyPost_ret (v := .agg #[.bool (decide (z < 0)), .slice r (nlen z.natAbs) cr]) (by simp [results, Try.results112, go_sem, hcwa]) rfl ⟨_, _, rfl, (HF.out _ _).1, (HF.out _ _).2⟩

theorem conv_negx (z : Int) (h : -9223372036854775808 ≤ z) (h0 : z < 0) : IntKind.u64.wrap (IntKind.u64.wrap (-(z + 1)) + 1) = (z.natAbs : Int) := by
  rw [wrap_u64, wrap_u64]; omega
theorem conv_negy (z : Int) (h : -9223372036854775808 ≤ z) (h0 : z < 0) : -(z + 1) + 1 = (z.natAbs : Int) := by omega

set_option maxHeartbeats 1000000 in
theorem xiof_any {N : Nat} (z : Int) (w : World) (hN : N ≤ w.heap.size) (h1 : -9223372036854775808 ≤ z) (h2 : z ≤ 9223372036854775807) :
    Calls Try.prog 118 #[.int .i64 z] w fun e w' => ∃ r cr, e = .returned (.agg #[.bool (decide (z < 0)), .slice r (nlen z.natAbs) cr]) ∧ Nt N w' r (nlen z.natAbs) cr z.natAbs ∧ Below w.heap.size w w' := by
  have l2 := nlen_two (m := z.natAbs) (by omega)
  by_cases h0 : z < 0
  · have HZ := Lib.hid (show zI true z.natAbs = z by unfold zI; simp; omega)
    have HC := Lib.hid (conv_negy z h1 h0)
    have HC2 := Lib.hid (conv_negx z h1 h0)
    have hb1 : z.natAbs < 18446744073709551616 := by omega
    go_enter Try.func118, Try.ntmps118
    go_wp2_with fail
    first | rw [HC.out] | rw [HC2.out]
    refine (xof_any (N := N) z.natAbs _ hb1).mono ?_
    rintro e wa ⟨rwa, cwa, rfl, hn, hb⟩
    obtain ⟨hcwa, hfwa⟩ := bcell hb
    have hzwa0 : w.heap.size < wa.heap.size := by have := hb.size; (try simp at this); omega
    have HBwa := Lib.hid hb
    have HNwa := Lib.hid hn
    clear hb hn
    go_wp2_with fail
    refine (xmake_z (N := N) true _ _ _ z.natAbs _ (by omega) HNwa.out (by omega) z HZ.out).mono ?_
    rintro e wb ⟨rwb, cwb, rfl, hn, hb⟩
    obtain ⟨hcwb, hfwb⟩ := bcell hb
    have hzwb0 : w.heap.size < wb.heap.size := by have := hb.size; (try simp at this); omega
    have HBwb := Lib.hid hb
    have HNwb := Lib.hid hn
    clear hb hn
    have HX := Lib.hid (((Bx.new w #[.bool false, .slice none 0 0] 27).below HBwa.out).below HBwb.out)
    have HF := Lib.hid (fun v0 v1 => fin2 hN (Nat.le_refl _) HX.out HNwb.out ((((Below.refl w.heap.size w).alloc (Nat.le_refl _) _).trans (HBwa.out.mono (by simp))).trans (HBwb.out.mono (by omega))) v0 v1)
    go_wp2_with fail
    exact bodyPost_ret (v := .agg #[.bool true, .slice rwb (nlen z.natAbs) cwb]) (by simp [results, Try.results118, go_sem, hcwa, hcwb, hzwa0]) rfl ⟨_, _, by simp [h0], (HF.out _ _).1, (HF.out _ _).2⟩
  · obtain ⟨k, rfl⟩ := Int.eq_ofNat_of_zero_le (show 0 ≤ z by omega)
    rw [Int.natAbs_natCast] at l2 ⊢
    have HZ := Lib.hid (show zI false k = (k : Int) by rfl)
    have hb1 : k < 18446744073709551616 := by omega
    have HE := Lib.hid (Int.natAbs_natCast k)
    go_enter Try.func118, Try.ntmps118
    go_wp2_with fail
    refine (xof_any (N := N) k _ hb1).mono ?_
    rintro e wa ⟨rwa, cwa, rfl, hn, hb⟩
    obtain ⟨hcwa, hfwa⟩ := bcell hb
    have hzwa0 : w.heap.size < wa.heap.size := by have := hb.size; (try simp at this); omega
    have HBwa := Lib.hid hb
    have HNwa := Lib.hid hn
    clear hb hn
    go_wp2_with fail
    refine (xmake_z (N := N) false _ _ _ k _ (by omega) HNwa.out (by omega) (k : Int) HZ.out).mono ?_
    rw [HE.out]
    rintro e wb ⟨rwb, cwb, rfl, hn, hb⟩
    obtain ⟨hcwb, hfwb⟩ := bcell hb
    have hzwb0 : w.heap.size < wb.heap.size := by have := hb.size; (try simp at this); omega
    have HBwb := Lib.hid hb
    have HNwb := Lib.hid hn
    clear hb hn
    have HX := Lib.hid (((Bx.new w #[.bool false, .slice none 0 0] 27).below HBwa.out).below HBwb.out)
    have HF := Lib.hid (fun v0 v1 => fin2 hN (Nat.le_refl _) HX.out HNwb.out ((((Below.refl w.heap.size w).alloc (Nat.le_refl _) _).trans (HBwa.out.mono (by simp))).trans (HBwb.out.mono (by omega))) v0 v1)
    go_wp2_with fail
    exact bodyPost_ret (v := .agg #[.bool (decide ((k : Int) < 0)), .slice rwb (nlen k) cwb]) (by simp [results, Try.results118, go_sem, hcwa, hcwb, hzwa0]) rfl ⟨_, _, rfl, (HF.out _ _).1, (HF.out _ _).2⟩

set_option maxHeartbeats 4000000 in
theorem ximul_any {N : Nat} (sa sb : Bool) (a b : Option Addr) (na ca ma nb cb mb : Nat) (w : World) (hN : N ≤ w.heap.size) (ha : Nt N w a na ca ma) (hb : Nt N w b nb cb mb) (la : na ≤ 274877906944) (lb : nb ≤ 274877906944) (z : Int) (hz : zI sa ma * zI sb mb = z) :
    Calls Try.prog 108 #[.agg #[.bool sa, .slice a na ca], .agg #[.bool sb, .slice b nb cb]] w fun e w' => ∃ r cr, e = .returned (.agg #[.bool (decide (z < 0)), .slice r (nlen z.natAbs) cr]) ∧ Nt N w' r (nlen z.natAbs) cr z.natAbs ∧ Below w.heap.size w w' := by
  have HZ := Lib.hid ((zI_mul sa sb ma mb).trans hz)
  have lm := Nat.le_trans (nlen_mul ma mb) (Nat.add_le_add (nlen_bound ha _ la) (nlen_bound hb _ lb))
  have HA := Lib.hid (((ha.alloc (.cells #[.bool sa, .slice a na ca] 27)).alloc (.cells #[.bool sb, .slice b nb cb] 27)).alloc (.cells #[.bool false, .slice none 0 0] 27))
  have HB := Lib.hid (((hb.alloc (.cells #[.bool sa, .slice a na ca] 27)).alloc (.cells #[.bool sb, .slice b nb cb] 27)).alloc (.cells #[.bool false, .slice none 0 0] 27))
  clear ha hb hz
  go_enter Try.func108, Try.ntmps108
  go_wp2_with fail
  go_region_held3 (fun w' => w'.cell? ⟨w.heap.size, 0, none⟩ = some (.bool sa) ∧ w'.cell? ⟨w.heap.size, 1, none⟩ = some (.slice a na ca) ∧ w'.cell? ⟨w.heap.size + 1, 0, none⟩ = some (.bool sb) ∧ w'.cell? ⟨w.heap.size + 1, 1, none⟩ = some (.slice b nb cb))
    (first | (go_keep; done) | ((try dsimp only); (repeat' apply And.intro) <;> (first | (go_keep; done) | (rw [cell_set2 _ _ _ _ _ _ _ _ (by omega)]; assumption) | (rw [cell_set3 _ _ _ _ _ _ _ _ _ _ (by omega)]; assumption))))
    (first
      | (go_at_call 110; refine (xmul_any (N := N) _ _ _ _ ma _ _ mb _ (by simp; omega) (by exact HA.out) (by exact HB.out) (by omega) (by omega)).mono ?_; rintro e wa ⟨ra, ca', rfl, hn, hb⟩; have kwa0 : wa.cell? ⟨w.heap.size, 0, none⟩ = some (.bool sa) := (hb.cell (p := ⟨w.heap.size, 0, none⟩) (by first | (simp; done) | (simp; omega))).trans (by go_simp); have kwa1 : wa.cell? ⟨w.heap.size, 1, none⟩ = some (.slice a na ca) := (hb.cell (p := ⟨w.heap.size, 1, none⟩) (by first | (simp; done) | (simp; omega))).trans (by go_simp); have kwa2 : wa.cell? ⟨w.heap.size + 1, 0, none⟩ = some (.bool sb) := (hb.cell (p := ⟨w.heap.size + 1, 0, none⟩) (by first | (simp; done) | (simp; omega))).trans (by go_simp); have kwa3 : wa.cell? ⟨w.heap.size + 1, 1, none⟩ = some (.slice b nb cb) := (hb.cell (p := ⟨w.heap.size + 1, 1, none⟩) (by first | (simp; done) | (simp; omega))).trans (by go_simp); have hzwa0 : w.heap.size < wa.heap.size := (by have := hb.size; (try simp at this); omega); have hzwa1 : w.heap.size + 1 < wa.heap.size := (by have := hb.size; (try simp at this); omega); have hzwa2 : w.heap.size + 2 < wa.heap.size := (by have := hb.size; (try simp at this); omega); obtain ⟨hcwa, hfwa⟩ := bcell hb; have HBwa := Lib.hid hb; have HNwa := Lib.hid hn; clear hb hn)
      | (go_at_call 112; refine (xmake_z (N := N) (sa != sb) _ _ _ (ma * mb) _ (by omega) (by exact HNwa.out) (by omega) z HZ.out).mono ?_; rintro e wb ⟨rb, cb', rfl, hn, hb⟩; have kwb0 : wb.cell? ⟨w.heap.size, 0, none⟩ = some (.bool sa) := (hb.cell (p := ⟨w.heap.size, 0, none⟩) (by omega)).trans kwa0; have kwb1 : wb.cell? ⟨w.heap.size, 1, none⟩ = some (.slice a na ca) := (hb.cell (p := ⟨w.heap.size, 1, none⟩) (by omega)).trans kwa1; have kwb2 : wb.cell? ⟨w.heap.size + 1, 0, none⟩ = some (.bool sb) := (hb.cell (p := ⟨w.heap.size + 1, 0, none⟩) (by omega)).trans kwa2; have kwb3 : wb.cell? ⟨w.heap.size + 1, 1, none⟩ = some (.slice b nb cb) := (hb.cell (p := ⟨w.heap.size + 1, 1, none⟩) (by omega)).trans kwa3; have hzwb0 : w.heap.size < wb.heap.size := (by have := hb.size; (try simp at this); omega); have hzwb1 : w.heap.size + 1 < wb.heap.size := (by have := hb.size; (try simp at this); omega); have hzwb2 : w.heap.size + 2 < wb.heap.size := (by have := hb.size; (try simp at this); omega); obtain ⟨hcwb, hfwb⟩ := bcell hb; have HBwb := Lib.hid hb; have HNwb := Lib.hid hn; clear hb hn))
  have HX := Lib.hid (((Bx.new' ((w.alloc (.cells #[.bool sa, .slice a na ca] 27)).alloc (.cells #[.bool sb, .slice b nb cb] 27)) #[.bool false, .slice none 0 0] 27 (w.heap.size + 1 + 1) (by simp)).drewB HBwa.out).below HBwb.out)
  have HF := Lib.hid (fun v0 v1 => fin2 hN (by omega) HX.out HNwb.out (((bel3 w _ _ _).trans ((bel_of_drew HBwa.out).mono (by first | (simp; done) | (simp; omega)))).trans (HBwb.out.mono (by omega))) v0 v1)
  go_wp2_with fail
  exact bodyPost_ret (v := .agg #[.bool (decide (z < 0)), .slice rb (nlen z.natAbs) cb']) (by simp [results, Try.results108, go_sem, hcwa, hcwb, hzwa2]) rfl ⟨_, _, rfl, (HF.out _ _).1, (HF.out _ _).2⟩

set_option maxHeartbeats 1000000 in
theorem xineg_any {N : Nat} (sa : Bool) (a : Option Addr) (na ca ma : Nat) (w : World) (hN : N ≤ w.heap.size) (ha : Nt N w a na ca ma) (la : na ≤ 274877906944) (z : Int) (hz : -zI sa ma = z) :
    Calls Try.prog 149 #[.agg #[.bool sa, .slice a na ca]] w fun e w' => ∃ r cr, e = .returned (.agg #[.bool (decide (z < 0)), .slice r (nlen z.natAbs) cr]) ∧ Nt N w' r (nlen z.natAbs) cr z.natAbs ∧ Below w.heap.size w w' := by
  have HZ := Lib.hid ((zI_not sa ma).trans hz)
  have HA := Lib.hid ((ha.alloc (.cells #[.bool sa, .slice a na ca] 27)).alloc (.cells #[.bool false, .slice none 0 0] 27))
  clear ha hz
  go_enter Try.func149, Try.ntmps149
  go_wp2_with fail
  refine (xmake_z (N := N) (!sa) _ _ _ ma _ (by simp; omega) HA.out (by omega) z HZ.out).mono ?_
  rintro e wb ⟨rb, cb', rfl, hn, hb⟩
  obtain ⟨hcwb, hfwb⟩ := bcell hb
  have hzwb0 : w.heap.size < wb.heap.size := by have := hb.size; simp at this; omega
  have hzwb1 : w.heap.size + 1 < wb.heap.size := by have := hb.size; simp at this; omega
  have HX := Lib.hid ((Bx.new' (w.alloc (.cells #[.bool sa, .slice a na ca] 27)) #[.bool false, .slice none 0 0] 27 (w.heap.size + 1) (by simp)).below hb)
  have HF := Lib.hid (fun v0 v1 => fin2 hN (by omega) HX.out hn ((bel2 w _ _).trans (hb.mono (by simp; omega))) v0 v1)
  clear hn hb
  go_wp2_with fail
  exact bodyPost_ret (v := .agg #[.bool (decide (z < 0)), .slice rb (nlen z.natAbs) cb']) (by simp [results, Try.results149, go_sem, hcwb]) rfl ⟨_, _, rfl, (HF.out _ _).1, (HF.out _ _).2⟩

theorem xsub_nob {N : Nat} (a b : Option Addr) (na ca ma nb cb mb : Nat) (w : World) (ha : Nt N w a na ca ma) (hb : Nt N w b nb cb mb) (hlt : ma < mb) :
    Calls Try.prog 163 #[.slice a na ca, .slice b nb cb] w fun e w' => e = .returned (.tuple #[.slice none 0 0, .bool false]) ∧ Below w.heap.size w w' :=
  (xsub_no a b na ca ma nb cb mb w ha hb hlt).mono fun _ _ ⟨h1, h2⟩ => ⟨h1, h2 ▸ Below.refl _ _⟩

set_option maxHeartbeats 4000000 in
theorem xiadd_true_true {N : Nat} (a b : Option Addr) (na ca ma nb cb mb : Nat) (w : World) (hN : N ≤ w.heap.size) (ha : Nt N w a na ca ma) (hb : Nt N w b nb cb mb) (la : na ≤ 274877906944) (lb : nb ≤ 274877906944) (z : Int) (hz : zI true ma + zI true mb = z) :
    Calls Try.prog 134 #[.agg #[.bool true, .slice a na ca], .agg #[.bool true, .slice b nb cb]] w fun e w' => ∃ r cr, e = .returned (.agg #[.bool (decide (z < 0)), .slice r (nlen z.natAbs) cr]) ∧ Nt N w' r (nlen z.natAbs) cr z.natAbs ∧ Below w.heap.size w w' := by
  have HZ := Lib.hid ((zI_add true ma mb).trans hz)
  have lm := nlen_add ma mb
  have la' := nlen_bound ha _ la
  have lb' := nlen_bound hb _ lb
  have HA := Lib.hid (((ha.alloc (.cells #[.bool true, .slice a na ca] 27)).alloc (.cells #[.bool true, .slice b nb cb] 27)).alloc (.cells #[.bool false, .slice none 0 0] 27))
  have HB := Lib.hid (((hb.alloc (.cells #[.bool true, .slice a na ca] 27)).alloc (.cells #[.bool true, .slice b nb cb] 27)).alloc (.cells #[.bool false, .slice none 0 0] 27))
  clear ha hb hz
  go_enter Try.func134, Try.ntmps134
  go_wp2_with fail
  go_region_held3 (fun w' => w'.cell? ⟨w.heap.size, 0, none⟩ = some (.bool true) ∧ w'.cell? ⟨w.heap.size, 1, none⟩ = some (.slice a na ca) ∧ w'.cell? ⟨w.heap.size + 1, 0, none⟩ = some (.bool true) ∧ w'.cell? ⟨w.heap.size + 1, 1, none⟩ = some (.slice b nb cb))
    (first | (go_keep; done) | ((try dsimp only); (repeat' apply And.intro) <;> (first | (go_keep; done) | (rw [cell_set2 _ _ _ _ _ _ _ _ (by omega)]; assumption) | (rw [cell_set3 _ _ _ _ _ _ _ _ _ _ (by omega)]; assumption))))
    (first
      | (go_at_call 162; refine (xadd_any (N := N) _ _ _ _ ma _ _ mb _ (by simp; omega) (by exact HA.out) (by exact HB.out) (by omega) (by omega)).mono ?_; rintro e wa ⟨ra, ca', rfl, hn, hb⟩; have kwa0 : wa.cell? ⟨w.heap.size, 0, none⟩ = some (.bool true) := (hb.cell (p := ⟨w.heap.size, 0, none⟩) (by first | (simp; done) | (simp; omega))).trans (by go_simp); have kwa1 : wa.cell? ⟨w.heap.size, 1, none⟩ = some (.slice a na ca) := (hb.cell (p := ⟨w.heap.size, 1, none⟩) (by first | (simp; done) | (simp; omega))).trans (by go_simp); have kwa2 : wa.cell? ⟨w.heap.size + 1, 0, none⟩ = some (.bool true) := (hb.cell (p := ⟨w.heap.size + 1, 0, none⟩) (by first | (simp; done) | (simp; omega))).trans (by go_simp); have kwa3 : wa.cell? ⟨w.heap.size + 1, 1, none⟩ = some (.slice b nb cb) := (hb.cell (p := ⟨w.heap.size + 1, 1, none⟩) (by first | (simp; done) | (simp; omega))).trans (by go_simp); have hzwa0 : w.heap.size < wa.heap.size := (by have := hb.size; (try simp at this); omega); have hzwa1 : w.heap.size + 1 < wa.heap.size := (by have := hb.size; (try simp at this); omega); have hzwa2 : w.heap.size + 2 < wa.heap.size := (by have := hb.size; (try simp at this); omega); obtain ⟨hcwa, hfwa⟩ := bcell hb; have HBwa := Lib.hid hb; have HNwa := Lib.hid hn; clear hb hn)
      | (go_at_call 112; refine (xmake_z (N := N) true _ _ _ (ma + mb) _ (by omega) (by exact HNwa.out) (by omega) z HZ.out).mono ?_; rintro e wb ⟨rb, cb', rfl, hn, hb⟩; have kwb0 : wb.cell? ⟨w.heap.size, 0, none⟩ = some (.bool true) := (hb.cell (p := ⟨w.heap.size, 0, none⟩) (by omega)).trans kwa0; have kwb1 : wb.cell? ⟨w.heap.size, 1, none⟩ = some (.slice a na ca) := (hb.cell (p := ⟨w.heap.size, 1, none⟩) (by omega)).trans kwa1; have kwb2 : wb.cell? ⟨w.heap.size + 1, 0, none⟩ = some (.bool true) := (hb.cell (p := ⟨w.heap.size + 1, 0, none⟩) (by omega)).trans kwa2; have kwb3 : wb.cell? ⟨w.heap.size + 1, 1, none⟩ = some (.slice b nb cb) := (hb.cell (p := ⟨w.heap.size + 1, 1, none⟩) (by omega)).trans kwa3; have hzwb0 : w.heap.size < wb.heap.size := (by have := hb.size; (try simp at this); omega); have hzwb1 : w.heap.size + 1 < wb.heap.size := (by have := hb.size; (try simp at this); omega); have hzwb2 : w.heap.size + 2 < wb.heap.size := (by have := hb.size; (try simp at this); omega); obtain ⟨hcwb, hfwb⟩ := bcell hb; have HBwb := Lib.hid hb; have HNwb := Lib.hid hn; clear hb hn))
  have HX := Lib.hid (((Bx.new' ((w.alloc (.cells #[.bool true, .slice a na ca] 27)).alloc (.cells #[.bool true, .slice b nb cb] 27)) #[.bool false, .slice none 0 0] 27 (w.heap.size + 1 + 1) (by simp)).drewB HBwa.out).below HBwb.out)
  have HF := Lib.hid (fun v0 v1 => fin2 hN (by omega) HX.out HNwb.out (((bel3 w _ _ _).trans ((bel_of_drew HBwa.out).mono (by first | (simp; done) | (simp; omega)))).trans (HBwb.out.mono (by omega))) v0 v1)
  go_wp2_with fail
  exact bodyPost_ret (v := .agg #[.bool (decide (z < 0)), .slice rb (nlen z.natAbs) cb']) (by simp [results, Try.results134, go_sem, hcwa, hcwb, hzwa2]) rfl ⟨_, _, rfl, (HF.out _ _).1, (HF.out _ _).2⟩

set_option maxHeartbeats 4000000 in
theorem xiadd_true_false_ge {N : Nat} (a b : Option Addr) (na ca ma nb cb mb : Nat) (w : World) (hN : N ≤ w.heap.size) (ha : Nt N w a na ca ma) (hb : Nt N w b nb cb mb) (la : na ≤ 274877906944) (lb : nb ≤ 274877906944) (hle : mb ≤ ma) (z : Int) (hz : zI true ma + zI false mb = z) :
    Calls Try.prog 134 #[.agg #[.bool true, .slice a na ca], .agg #[.bool false, .slice b nb cb]] w fun e w' => ∃ r cr, e = .returned (.agg #[.bool (decide (z < 0)), .slice r (nlen z.natAbs) cr]) ∧ Nt N w' r (nlen z.natAbs) cr z.natAbs ∧ Below w.heap.size w w' := by
  have HZ := Lib.hid ((zI_sub1 true ma mb hle).trans hz)
  have la' := nlen_bound ha _ la
  have lb' := nlen_bound hb _ lb
  have HA := Lib.hid (((ha.alloc (.cells #[.bool true, .slice a na ca] 27)).alloc (.cells #[.bool false, .slice b nb cb] 27)).alloc (.cells #[.bool false, .slice none 0 0] 27))
  have HB := Lib.hid (((hb.alloc (.cells #[.bool true, .slice a na ca] 27)).alloc (.cells #[.bool false, .slice b nb cb] 27)).alloc (.cells #[.bool false, .slice none 0 0] 27))
  clear ha hb hz
  go_enter Try.func134, Try.ntmps134
  go_wp2_with fail
  refine (xsub_any (N := N) _ _ _ _ ma _ _ mb _ (by simp; omega) HA.out HB.out (by omega) hle).mono ?_
  rintro e wa ⟨ra, ca', rfl, hn, hb⟩
  obtain ⟨hcwa, hfwa⟩ := bcell hb
  have hzwa0 : w.heap.size < wa.heap.size := by have := hb.size; (try simp at this); omega
  have hzwa1 : w.heap.size + 1 < wa.heap.size := by have := hb.size; (try simp at this); omega
  have hzwa2 : w.heap.size + 2 < wa.heap.size := by have := hb.size; (try simp at this); omega
  have HBwa := Lib.hid hb
  have HNwa := Lib.hid hn
  clear hn hb
  have ld := nlen_mono (Nat.sub_le ma mb)
  go_wp2_with fail
  refine (xmake_z (N := N) true _ _ _ (ma - mb) _ (by omega) HNwa.out (by omega) z HZ.out).mono ?_
  rintro e wb ⟨rb, cb', rfl, hn, hb⟩
  obtain ⟨hcwb, hfwb⟩ := bcell hb
  have hzwb0 : w.heap.size < wb.heap.size := by have := hb.size; (try simp at this); omega
  have hzwb1 : w.heap.size + 1 < wb.heap.size := by have := hb.size; (try simp at this); omega
  have hzwb2 : w.heap.size + 2 < wb.heap.size := by have := hb.size; (try simp at this); omega
  have HBwb := Lib.hid hb
  have HNwb := Lib.hid hn
  clear hn hb
  have HX := Lib.hid (((Bx.new' ((w.alloc (.cells #[.bool true, .slice a na ca] 27)).alloc (.cells #[.bool false, .slice b nb cb] 27)) #[.bool false, .slice none 0 0] 27 (w.heap.size + 1 + 1) (by simp)).below HBwa.out).below HBwb.out)
  have HF := Lib.hid (fun v0 v1 => fin2 hN (by omega) HX.out HNwb.out (((bel3 w _ _ _).trans (HBwa.out.mono (by first | (simp; done) | (simp; omega)))).trans (HBwb.out.mono (by omega))) v0 v1)
  go_wp2_with fail
  exact bodyPost_ret (v := .agg #[.bool (decide (z < 0)), .slice rb (nlen z.natAbs) cb']) (by simp [results, Try.results134, go_sem, hcwa, hcwb, hzwa2]) rfl ⟨_, _, rfl, (HF.out _ _).1, (HF.out _ _).2⟩
  
set_option maxHeartbeats 4000000 in
theorem xiadd_true_false_lt {N : Nat} (a b : Option Addr) (na ca ma nb cb mb : Nat) (w : World) (hN : N ≤ w.heap.size) (ha : Nt N w a na ca ma) (hb : Nt N w b nb cb mb) (la : na ≤ 274877906944) (lb : nb ≤ 274877906944) (hlt : ma < mb) (z : Int) (hz : zI true ma + zI false mb = z) :
    Calls Try.prog 134 #[.agg #[.bool true, .slice a na ca], .agg #[.bool false, .slice b nb cb]] w fun e w' => ∃ r cr, e = .returned (.agg #[.bool (decide (z < 0)), .slice r (nlen z.natAbs) cr]) ∧ Nt N w' r (nlen z.natAbs) cr z.natAbs ∧ Below w.heap.size w w' := by
  have HZ := Lib.hid ((zI_sub2 true ma mb (Nat.le_of_lt hlt)).trans hz)
  have la' := nlen_bound ha _ la
  have lb' := nlen_bound hb _ lb
  have HA := Lib.hid (((ha.alloc (.cells #[.bool true, .slice a na ca] 27)).alloc (.cells #[.bool false, .slice b nb cb] 27)).alloc (.cells #[.bool false, .slice none 0 0] 27))
  have HB := Lib.hid (((hb.alloc (.cells #[.bool true, .slice a na ca] 27)).alloc (.cells #[.bool false, .slice b nb cb] 27)).alloc (.cells #[.bool false, .slice none 0 0] 27))
  clear ha hb hz
  go_enter Try.func134, Try.ntmps134
  go_wp2_with fail
  refine (xsub_nob (N := N) _ _ _ _ ma _ _ mb _ HA.out HB.out hlt).mono ?_
  rintro e wc ⟨rfl, hb⟩
  have hn := trivial
  obtain ⟨hcwc, hfwc⟩ := bcell hb
  have hzwc0 : w.heap.size < wc.heap.size := by have := hb.size; (try simp at this); omega
  have hzwc1 : w.heap.size + 1 < wc.heap.size := by have := hb.size; (try simp at this); omega
  have hzwc2 : w.heap.size + 2 < wc.heap.size := by have := hb.size; (try simp at this); omega
  have HBwc := Lib.hid hb
  have HNwc := Lib.hid hn
  clear hn hb
  go_wp2_with fail
  refine (xsub_any (N := N) _ _ _ _ mb _ _ ma _ (by omega) (HB.out.below HBwc.out) (HA.out.below HBwc.out) (by omega) (Nat.le_of_lt hlt)).mono ?_
  rintro e wa ⟨ra, ca', rfl, hn, hb⟩
  obtain ⟨hcwa, hfwa⟩ := bcell hb
  have hzwa0 : w.heap.size < wa.heap.size := by have := hb.size; (try simp at this); omega
  have hzwa1 : w.heap.size + 1 < wa.heap.size := by have := hb.size; (try simp at this); omega
  have hzwa2 : w.heap.size + 2 < wa.heap.size := by have := hb.size; (try simp at this); omega
  have HBwa := Lib.hid hb
  have HNwa := Lib.hid hn
  clear hn hb
  have ld := nlen_mono (Nat.sub_le mb ma)
  go_wp2_with fail
  refine (xmake_z (N := N) false _ _ _ (mb - ma) _ (by omega) HNwa.out (by omega) z HZ.out).mono ?_
  rintro e wb ⟨rb, cb', rfl, hn, hb⟩
  obtain ⟨hcwb, hfwb⟩ := bcell hb
  have hzwb0 : w.heap.size < wb.heap.size := by have := hb.size; (try simp at this); omega
  have hzwb1 : w.heap.size + 1 < wb.heap.size := by have := hb.size; (try simp at this); omega
  have hzwb2 : w.heap.size + 2 < wb.heap.size := by have := hb.size; (try simp at this); omega
  have HBwb := Lib.hid hb
  have HNwb := Lib.hid hn
  clear hn hb
  have HX := Lib.hid ((((Bx.new' ((w.alloc (.cells #[.bool true, .slice a na ca] 27)).alloc (.cells #[.bool false, .slice b nb cb] 27)) #[.bool false, .slice none 0 0] 27 (w.heap.size + 1 + 1) (by simp)).below HBwc.out).below HBwa.out).below HBwb.out)
  have HF := Lib.hid (fun v0 v1 => fin2 hN (by omega) HX.out HNwb.out ((((bel3 w _ _ _).trans (HBwc.out.mono (by first | (simp; done) | (simp; omega)))).trans (HBwa.out.mono (by omega))).trans (HBwb.out.mono (by omega))) v0 v1)
  go_wp2_with fail
  exact bodyPost_ret (v := .agg #[.bool (decide (z < 0)), .slice rb (nlen z.natAbs) cb']) (by simp [results, Try.results134, go_sem, hcwc, hcwa, hcwb, hzwc2, hzwa2]) rfl ⟨_, _, rfl, (HF.out _ _).1, (HF.out _ _).2⟩
  
set_option maxHeartbeats 4000000 in
theorem xiadd_false_false {N : Nat} (a b : Option Addr) (na ca ma nb cb mb : Nat) (w : World) (hN : N ≤ w.heap.size) (ha : Nt N w a na ca ma) (hb : Nt N w b nb cb mb) (la : na ≤ 274877906944) (lb : nb ≤ 274877906944) (z : Int) (hz : zI false ma + zI false mb = z) :
    Calls Try.prog 134 #[.agg #[.bool false, .slice a na ca], .agg #[.bool false, .slice b nb cb]] w fun e w' => ∃ r cr, e = .returned (.agg #[.bool (decide (z < 0)), .slice r (nlen z.natAbs) cr]) ∧ Nt N w' r (nlen z.natAbs) cr z.natAbs ∧ Below w.heap.size w w' := by
  have HZ := Lib.hid ((zI_add false ma mb).trans hz)
  have lm := nlen_add ma mb
  have la' := nlen_bound ha _ la
  have lb' := nlen_bound hb _ lb
  have HA := Lib.hid (((ha.alloc (.cells #[.bool false, .slice a na ca] 27)).alloc (.cells #[.bool false, .slice b nb cb] 27)).alloc (.cells #[.bool false, .slice none 0 0] 27))
  have HB := Lib.hid (((hb.alloc (.cells #[.bool false, .slice a na ca] 27)).alloc (.cells #[.bool false, .slice b nb cb] 27)).alloc (.cells #[.bool false, .slice none 0 0] 27))
  clear ha hb hz
  go_enter Try.func134, Try.ntmps134
  go_wp2_with fail
  go_region_held3 (fun w' => w'.cell? ⟨w.heap.size, 0, none⟩ = some (.bool false) ∧ w'.cell? ⟨w.heap.size, 1, none⟩ = some (.slice a na ca) ∧ w'.cell? ⟨w.heap.size + 1, 0, none⟩ = some (.bool false) ∧ w'.cell? ⟨w.heap.size + 1, 1, none⟩ = some (.slice b nb cb))
    (first | (go_keep; done) | ((try dsimp only); (repeat' apply And.intro) <;> (first | (go_keep; done) | (rw [cell_set2 _ _ _ _ _ _ _ _ (by omega)]; assumption) | (rw [cell_set3 _ _ _ _ _ _ _ _ _ _ (by omega)]; assumption))))
    (first
      | (go_at_call 162; refine (xadd_any (N := N) _ _ _ _ ma _ _ mb _ (by simp; omega) (by exact HA.out) (by exact HB.out) (by omega) (by omega)).mono ?_; rintro e wa ⟨ra, ca', rfl, hn, hb⟩; have kwa0 : wa.cell? ⟨w.heap.size, 0, none⟩ = some (.bool false) := (hb.cell (p := ⟨w.heap.size, 0, none⟩) (by first | (simp; done) | (simp; omega))).trans (by go_simp); have kwa1 : wa.cell? ⟨w.heap.size, 1, none⟩ = some (.slice a na ca) := (hb.cell (p := ⟨w.heap.size, 1, none⟩) (by first | (simp; done) | (simp; omega))).trans (by go_simp); have kwa2 : wa.cell? ⟨w.heap.size + 1, 0, none⟩ = some (.bool false) := (hb.cell (p := ⟨w.heap.size + 1, 0, none⟩) (by first | (simp; done) | (simp; omega))).trans (by go_simp); have kwa3 : wa.cell? ⟨w.heap.size + 1, 1, none⟩ = some (.slice b nb cb) := (hb.cell (p := ⟨w.heap.size + 1, 1, none⟩) (by first | (simp; done) | (simp; omega))).trans (by go_simp); have hzwa0 : w.heap.size < wa.heap.size := (by have := hb.size; (try simp at this); omega); have hzwa1 : w.heap.size + 1 < wa.heap.size := (by have := hb.size; (try simp at this); omega); have hzwa2 : w.heap.size + 2 < wa.heap.size := (by have := hb.size; (try simp at this); omega); obtain ⟨hcwa, hfwa⟩ := bcell hb; have HBwa := Lib.hid hb; have HNwa := Lib.hid hn; clear hb hn)
      | (go_at_call 112; refine (xmake_z (N := N) false _ _ _ (ma + mb) _ (by omega) (by exact HNwa.out) (by omega) z HZ.out).mono ?_; rintro e wb ⟨rb, cb', rfl, hn, hb⟩; have kwb0 : wb.cell? ⟨w.heap.size, 0, none⟩ = some (.bool false) := (hb.cell (p := ⟨w.heap.size, 0, none⟩) (by omega)).trans kwa0; have kwb1 : wb.cell? ⟨w.heap.size, 1, none⟩ = some (.slice a na ca) := (hb.cell (p := ⟨w.heap.size, 1, none⟩) (by omega)).trans kwa1; have kwb2 : wb.cell? ⟨w.heap.size + 1, 0, none⟩ = some (.bool false) := (hb.cell (p := ⟨w.heap.size + 1, 0, none⟩) (by omega)).trans kwa2; have kwb3 : wb.cell? ⟨w.heap.size + 1, 1, none⟩ = some (.slice b nb cb) := (hb.cell (p := ⟨w.heap.size + 1, 1, none⟩) (by omega)).trans kwa3; have hzwb0 : w.heap.size < wb.heap.size := (by have := hb.size; (try simp at this); omega); have hzwb1 : w.heap.size + 1 < wb.heap.size := (by have := hb.size; (try simp at this); omega); have hzwb2 : w.heap.size + 2 < wb.heap.size := (by have := hb.size; (try simp at this); omega); obtain ⟨hcwb, hfwb⟩ := bcell hb; have HBwb := Lib.hid hb; have HNwb := Lib.hid hn; clear hb hn))
  have HX := Lib.hid (((Bx.new' ((w.alloc (.cells #[.bool false, .slice a na ca] 27)).alloc (.cells #[.bool false, .slice b nb cb] 27)) #[.bool false, .slice none 0 0] 27 (w.heap.size + 1 + 1) (by simp)).drewB HBwa.out).below HBwb.out)
  have HF := Lib.hid (fun v0 v1 => fin2 hN (by omega) HX.out HNwb.out (((bel3 w _ _ _).trans ((bel_of_drew HBwa.out).mono (by first | (simp; done) | (simp; omega)))).trans (HBwb.out.mono (by omega))) v0 v1)
  go_wp2_with fail
  exact bodyPost_ret (v := .agg #[.bool (decide (z < 0)), .slice rb (nlen z.natAbs) cb']) (by simp [results, Try.results134, go_sem, hcwa, hcwb, hzwa2]) rfl ⟨_, _, rfl, (HF.out _ _).1, (HF.out _ _).2⟩

set_option maxHeartbeats 4000000 in
theorem xiadd_false_true_ge {N : Nat} (a b : Option Addr) (na ca ma nb cb mb : Nat) (w : World) (hN : N ≤ w.heap.size) (ha : Nt N w a na ca ma) (hb : Nt N w b nb cb mb) (la : na ≤ 274877906944) (lb : nb ≤ 274877906944) (hle : mb ≤ ma) (z : Int) (hz : zI false ma + zI true mb = z) :
    Calls Try.prog 134 #[.agg #[.bool false, .slice a na ca], .agg #[.bool true, .slice b nb cb]] w fun e w' => ∃ r cr, e = .returned (.agg #[.bool (decide (z < 0)), .slice r (nlen z.natAbs) cr]) ∧ Nt N w' r (nlen z.natAbs) cr z.natAbs ∧ Below w.heap.size w w' := by
  have HZ := Lib.hid ((zI_sub1 false ma mb hle).trans hz)
  have la' := nlen_bound ha _ la
  have lb' := nlen_bound hb _ lb
  have HA := Lib.hid (((ha.alloc (.cells #[.bool false, .slice a na ca] 27)).alloc (.cells #[.bool true, .slice b nb cb] 27)).alloc (.cells #[.bool false, .slice none 0 0] 27))
  have HB := Lib.hid (((hb.alloc (.cells #[.bool false, .slice a na ca] 27)).alloc (.cells #[.bool true, .slice b nb cb] 27)).alloc (.cells #[.bool false, .slice none 0 0] 27))
  clear ha hb hz
  go_enter Try.func134, Try.ntmps134
  go_wp2_with fail
  refine (xsub_any (N := N) _ _ _ _ ma _ _ mb _ (by simp; omega) HA.out HB.out (by omega) hle).mono ?_
  rintro e wa ⟨ra, ca', rfl, hn, hb⟩
  obtain ⟨hcwa, hfwa⟩ := bcell hb
  have hzwa0 : w.heap.size < wa.heap.size := by have := hb.size; (try simp at this); omega
  have hzwa1 : w.heap.size + 1 < wa.heap.size := by have := hb.size; (try simp at this); omega
  have hzwa2 : w.heap.size + 2 < wa.heap.size := by have := hb.size; (try simp at this); omega
  have HBwa := Lib.hid hb
  have HNwa := Lib.hid hn
  clear hn hb
  have ld := nlen_mono (Nat.sub_le ma mb)
  go_wp2_with fail
  refine (xmake_z (N := N) false _ _ _ (ma - mb) _ (by omega) HNwa.out (by omega) z HZ.out).mono ?_
  rintro e wb ⟨rb, cb', rfl, hn, hb⟩
  obtain ⟨hcwb, hfwb⟩ := bcell hb
  have hzwb0 : w.heap.size < wb.heap.size := by have := hb.size; (try simp at this); omega
  have hzwb1 : w.heap.size + 1 < wb.heap.size := by have := hb.size; (try simp at this); omega
  have hzwb2 : w.heap.size + 2 < wb.heap.size := by have := hb.size; (try simp at this); omega
  have HBwb := Lib.hid hb
  have HNwb := Lib.hid hn
  clear hn hb
  have HX := Lib.hid (((Bx.new' ((w.alloc (.cells #[.bool false, .slice a na ca] 27)).alloc (.cells #[.bool true, .slice b nb cb] 27)) #[.bool false, .slice none 0 0] 27 (w.heap.size + 1 + 1) (by simp)).below HBwa.out).below HBwb.out)
  have HF := Lib.hid (fun v0 v1 => fin2 hN (by omega) HX.out HNwb.out (((bel3 w _ _ _).trans (HBwa.out.mono (by first | (simp; done) | (simp; omega)))).trans (HBwb.out.mono (by omega))) v0 v1)
  go_wp2_with fail
  exact bodyPost_ret (v := .agg #[.bool (decide (z < 0)), .slice rb (nlen z.natAbs) cb']) (by simp [results, Try.results134, go_sem, hcwa, hcwb, hzwa2]) rfl ⟨_, _, rfl, (HF.out _ _).1, (HF.out _ _).2⟩
  
set_option maxHeartbeats 4000000 in
theorem xiadd_false_true_lt {N : Nat} (a b : Option Addr) (na ca ma nb cb mb : Nat) (w : World) (hN : N ≤ w.heap.size) (ha : Nt N w a na ca ma) (hb : Nt N w b nb cb mb) (la : na ≤ 274877906944) (lb : nb ≤ 274877906944) (hlt : ma < mb) (z : Int) (hz : zI false ma + zI true mb = z) :
    Calls Try.prog 134 #[.agg #[.bool false, .slice a na ca], .agg #[.bool true, .slice b nb cb]] w fun e w' => ∃ r cr, e = .returned (.agg #[.bool (decide (z < 0)), .slice r (nlen z.natAbs) cr]) ∧ Nt N w' r (nlen z.natAbs) cr z.natAbs ∧ Below w.heap.size w w' := by
  have HZ := Lib.hid ((zI_sub2 false ma mb (Nat.le_of_lt hlt)).trans hz)
  have la' := nlen_bound ha _ la
  have lb' := nlen_bound hb _ lb
  have HA := Lib.hid (((ha.alloc (.cells #[.bool false, .slice a na ca] 27)).alloc (.cells #[.bool true, .slice b nb cb] 27)).alloc (.cells #[.bool false, .slice none 0 0] 27))
  have HB := Lib.hid (((hb.alloc (.cells #[.bool false, .slice a na ca] 27)).alloc (.cells #[.bool true, .slice b nb cb] 27)).alloc (.cells #[.bool false, .slice none 0 0] 27))
  clear ha hb hz
  go_enter Try.func134, Try.ntmps134
  go_wp2_with fail
  refine (xsub_nob (N := N) _ _ _ _ ma _ _ mb _ HA.out HB.out hlt).mono ?_
  rintro e wc ⟨rfl, hb⟩
  have hn := trivial
  obtain ⟨hcwc, hfwc⟩ := bcell hb
  have hzwc0 : w.heap.size < wc.heap.size := by have := hb.size; (try simp at this); omega
  have hzwc1 : w.heap.size + 1 < wc.heap.size := by have := hb.size; (try simp at this); omega
  have hzwc2 : w.heap.size + 2 < wc.heap.size := by have := hb.size; (try simp at this); omega
  have HBwc := Lib.hid hb
  have HNwc := Lib.hid hn
  clear hn hb
  go_wp2_with fail
  refine (xsub_any (N := N) _ _ _ _ mb _ _ ma _ (by omega) (HB.out.below HBwc.out) (HA.out.below HBwc.out) (by omega) (Nat.le_of_lt hlt)).mono ?_
  rintro e wa ⟨ra, ca', rfl, hn, hb⟩
  obtain ⟨hcwa, hfwa⟩ := bcell hb
  have hzwa0 : w.heap.size < wa.heap.size := by have := hb.size; (try simp at this); omega
  have hzwa1 : w.heap.size + 1 < wa.heap.size := by have := hb.size; (try simp at this); omega
  have hzwa2 : w.heap.size + 2 < wa.heap.size := by have := hb.size; (try simp at this); omega
  have HBwa := Lib.hid hb
  have HNwa := Lib.hid hn
  clear hn hb
  have ld := nlen_mono (Nat.sub_le mb ma)
  go_wp2_with fail
  refine (xmake_z (N := N) true _ _ _ (mb - ma) _ (by omega) HNwa.out (by omega) z HZ.out).mono ?_
  rintro e wb ⟨rb, cb', rfl, hn, hb⟩
  obtain ⟨hcwb, hfwb⟩ := bcell hb
  have hzwb0 : w.heap.size < wb.heap.size := by have := hb.size; (try simp at this); omega
  have hzwb1 : w.heap.size + 1 < wb.heap.size := by have := hb.size; (try simp at this); omega
  have hzwb2 : w.heap.size + 2 < wb.heap.size := by have := hb.size; (try simp at this); omega
  have HBwb := Lib.hid hb
  have HNwb := Lib.hid hn
  clear hn hb
  have HX := Lib.hid ((((Bx.new' ((w.alloc (.cells #[.bool false, .slice a na ca] 27)).alloc (.cells #[.bool true, .slice b nb cb] 27)) #[.bool false, .slice none 0 0] 27 (w.heap.size + 1 + 1) (by simp)).below HBwc.out).below HBwa.out).below HBwb.out)
  have HF := Lib.hid (fun v0 v1 => fin2 hN (by omega) HX.out HNwb.out ((((bel3 w _ _ _).trans (HBwc.out.mono (by first | (simp; done) | (simp; omega)))).trans (HBwa.out.mono (by omega))).trans (HBwb.out.mono (by omega))) v0 v1)
  go_wp2_with fail
  exact bodyPost_ret (v := .agg #[.bool (decide (z < 0)), .slice rb (nlen z.natAbs) cb']) (by simp [results, Try.results134, go_sem, hcwc, hcwa, hcwb, hzwc2, hzwa2]) rfl ⟨_, _, rfl, (HF.out _ _).1, (HF.out _ _).2⟩
  
theorem xiadd_any {N : Nat} (sa sb : Bool) (a b : Option Addr) (na ca ma nb cb mb : Nat) (w : World) (hN : N ≤ w.heap.size) (ha : Nt N w a na ca ma) (hb : Nt N w b nb cb mb) (la : na ≤ 274877906944) (lb : nb ≤ 274877906944) (z : Int) (hz : zI sa ma + zI sb mb = z) :
    Calls Try.prog 134 #[.agg #[.bool sa, .slice a na ca], .agg #[.bool sb, .slice b nb cb]] w fun e w' => ∃ r cr, e = .returned (.agg #[.bool (decide (z < 0)), .slice r (nlen z.natAbs) cr]) ∧ Nt N w' r (nlen z.natAbs) cr z.natAbs ∧ Below w.heap.size w w' := by
  cases sa <;> cases sb
  · exact xiadd_false_false a b na ca ma nb cb mb w hN ha hb la lb z hz
  · rcases Nat.lt_or_ge ma mb with h | h
    · exact xiadd_false_true_lt a b na ca ma nb cb mb w hN ha hb la lb h z hz
    · exact xiadd_false_true_ge a b na ca ma nb cb mb w hN ha hb la lb h z hz
  · rcases Nat.lt_or_ge ma mb with h | h
    · exact xiadd_true_false_lt a b na ca ma nb cb mb w hN ha hb la lb h z hz
    · exact xiadd_true_false_ge a b na ca ma nb cb mb w hN ha hb la lb h z hz
  · exact xiadd_true_true a b na ca ma nb cb mb w hN ha hb la lb z hz

theorem cmpN_swap (a b : Nat) : cmpN b a = -cmpN a b := by
  rcases Nat.lt_trichotomy a b with h | h | h
  · rw [cmpN_gt h, cmpN_lt h]; rfl
  · rw [cmpN_eq h, cmpN_eq h.symm]; rfl
  · rw [cmpN_lt h, cmpN_gt h]
set_option maxHeartbeats 1000000 in
theorem xisign_any {N : Nat} (s : Bool) (a : Option Addr) (n cap m : Nat) (w : World) (hN : N ≤ w.heap.size) (h : Nt N w a n cap m) (hl : n ≤ 1099511627776) (z : Int) (hz : zI s m = z) :
    Calls Try.prog 133 #[.agg #[.bool s, .slice a n cap]] w fun e w' => e = .returned (.int .i64 z.sign) ∧ Below w.heap.size w w' := by
  have H := Lib.hid (h.alloc (.cells #[.bool s, .slice a n cap] 27))
  have HZ := Lib.hid hz
  clear h hz
  go_enter Try.func133, Try.ntmps133
  go_wp2_with fail
  refine (xinorm_any (N := N) s _ _ _ m _ (by simp; omega) H.out hl z HZ.out).mono ?_
  rintro e wa ⟨r, cr, rfl, hn, hb⟩
  obtain ⟨hcwa, hfwa⟩ := bcell hb
  have hzwa0 : w.heap.size < wa.heap.size := by have := hb.size; (try simp at this); omega
  have HBwa := Lib.hid hb
  have HNwa := Lib.hid hn
  clear hb hn
  have HBF := Lib.hid (fun o => (((bel1 w _).trans (HBwa.out.mono (by first | omega | (simp; done) | (simp; omega))))).alloc (o := o) (by omega))
  rcases Int.lt_trichotomy z 0 with h0 | h0 | h0
  · have HS := Lib.hid (Int.sign_eq_neg_one_of_neg h0)
    have HD := Lib.hid (show decide (z < 0) = true by simpa using h0)
    have hl0 : 0 < nlen z.natAbs := Nat.pos_of_ne_zero (fun e => by rw [nlen_eq_zero] at e; omega)
    have hl1 : ((nlen z.natAbs : Int) == 0) = false := by simp; omega
    rw [HD.out]
    clear h0
    go_wp2_with fail
    go_ret
    rw [HS.out]
    exact ⟨rfl, HBF.out _⟩
  · have HS := Lib.hid (show z.sign = 0 by rw [h0]; rfl)
    have HL := Lib.hid (show nlen z.natAbs = 0 by rw [h0]; exact nlen_zero)
    rw [HL.out]
    clear h0
    go_wp2_with fail
    go_ret
    rw [HS.out]
    exact ⟨rfl, HBF.out _⟩
  · have HS := Lib.hid (Int.sign_eq_one_of_pos h0)
    have HD := Lib.hid (show decide (z < 0) = false by simp; omega)
    have hl0 : 0 < nlen z.natAbs := Nat.pos_of_ne_zero (fun e => by rw [nlen_eq_zero] at e; omega)
    have hl1 : ((nlen z.natAbs : Int) == 0) = false := by simp; omega
    rw [HD.out]
    clear h0
    go_wp2_with fail
    go_ret
    rw [HS.out]
    exact ⟨rfl, HBF.out _⟩

set_option maxHeartbeats 4000000 in
theorem xicmp_any {N : Nat} (sa sb : Bool) (a b : Option Addr) (na ca ma nb cb mb : Nat) (w : World) (hN : N ≤ w.heap.size) (ha : Nt N w a na ca ma) (hb : Nt N w b nb cb mb) (la : na ≤ 274877906944) (lb : nb ≤ 274877906944) (x y : Int) (hx : zI sa ma = x) (hy : zI sb mb = y) :
    Calls Try.prog 113 #[.agg #[.bool sa, .slice a na ca], .agg #[.bool sb, .slice b nb cb]] w fun e w' => e = .returned (.int .i64 (cmpZ x y)) ∧ Below w.heap.size w w' := by
  have HA := Lib.hid ((ha.alloc (.cells #[.bool sa, .slice a na ca] 27)).alloc (.cells #[.bool sb, .slice b nb cb] 27))
  have HB := Lib.hid ((hb.alloc (.cells #[.bool sa, .slice a na ca] 27)).alloc (.cells #[.bool sb, .slice b nb cb] 27))
  have HX := Lib.hid hx
  have HY := Lib.hid hy
  obtain ⟨sx, hsx⟩ : ∃ s, x.sign = s := ⟨_, rfl⟩
  obtain ⟨sy, hsy⟩ : ∃ s, y.sign = s := ⟨_, rfl⟩
  have HSX := Lib.hid hsx
  have HSY := Lib.hid hsy
  have s3x := sgn3 x
  have s3y := sgn3 y
  rw [hsx] at s3x
  rw [hsy] at s3y
  have bx : -1 ≤ sx ∧ sx ≤ 1 := by omega
  have byy : -1 ≤ sy ∧ sy ≤ 1 := by omega
  clear ha hb hx hy hsx hsy
  have H3X := Lib.hid s3x
  have H3Y := Lib.hid s3y
  clear s3x s3y
  go_enter Try.func113, Try.ntmps113
  go_wp2_with fail
  refine (xisign_any (N := N) _ _ _ _ ma _ (by simp; omega) HA.out (by omega) x HX.out).mono ?_
  rw [HSX.out]
  rintro e wa ⟨rfl, hb⟩
  obtain ⟨hcwa, hfwa⟩ := bcell hb
  have hzwa0 : w.heap.size < wa.heap.size := by have := hb.size; (try simp at this); omega
  have hzwa1 : w.heap.size + 1 < wa.heap.size := by have := hb.size; (try simp at this); omega
  have HBwa := Lib.hid hb
  clear hb 
  go_wp2_with fail
  refine (xisign_any (N := N) _ _ _ _ mb _ (by omega) (HB.out.below HBwa.out) (by omega) y HY.out).mono ?_
  rw [HSY.out]
  rintro e wb ⟨rfl, hb⟩
  obtain ⟨hcwb, hfwb⟩ := bcell hb
  have hzwb0 : w.heap.size < wb.heap.size := by have := hb.size; (try simp at this); omega
  have hzwb1 : w.heap.size + 1 < wb.heap.size := by have := hb.size; (try simp at this); omega
  have HBwb := Lib.hid hb
  clear hb 
  have HBF := Lib.hid (((bel2 w _ _).trans (HBwa.out.mono (by first | omega | (simp; done) | (simp; omega)))).trans (HBwb.out.mono (by first | omega | (simp; done) | (simp; omega))))
  rcases Int.lt_trichotomy sx sy with h0 | h0 | h0
  · have HE := Lib.hid (cmpZ_sl (x := x) (y := y) (by rw [HSX.out, HSY.out]; exact h0))
    go_wp2_with fail
    go_ret
    rw [HE.out]
    exact ⟨rfl, HBF.out⟩
  · have n1 : ¬ sx < sy := by omega
    have n2 : ¬ sy < sx := by omega
    have HEQ := Lib.hid h0
    clear h0
    by_cases hneg : sx < 0
    · have HE := Lib.hid (show cmpN mb ma = cmpZ x y by
        have e1 : x.sign = -1 := by rw [HSX.out]; have := H3X.out; omega
        have e2 : y.sign = -1 := by rw [HSY.out]; have := H3X.out; have := HEQ.out; omega
        rw [← HX.out] at e1 ⊢
        rw [← HY.out] at e2 ⊢
        exact (cmpN_swap ma mb).trans (cmpZ_neg e1 e2).symm)
      go_wp2_with fail
      refine (xcmp_any (N := N) _ _ _ _ mb _ _ ma _ ((HB.out.below HBwa.out).below HBwb.out) ((HA.out.below HBwa.out).below HBwb.out)).mono ?_
      rintro e wc ⟨rfl, rfl⟩
      go_wp2_with fail
      go_ret
      rw [HE.out]
      exact ⟨rfl, HBF.out⟩
    · have HE := Lib.hid (show cmpN ma mb = cmpZ x y by
        have h3 := H3X.out
        have h4 := HEQ.out
        rcases (show sx = 0 ∨ sx = 1 by omega) with e | e
        · have e1 : x.sign = 0 := by rw [HSX.out]; exact e
          have e2 : y.sign = 0 := by rw [HSY.out]; omega
          rw [cmpZ_zero e1 e2]
          have z1 := Int.sign_eq_zero_iff_zero.1 e1
          have z2 := Int.sign_eq_zero_iff_zero.1 e2
          have a1 := zI_abs sa ma
          have a2 := zI_abs sb mb
          rw [HX.out, z1] at a1
          rw [HY.out, z2] at a2
          exact cmpN_eq (a1.symm.trans a2)
        · have e1 : x.sign = 1 := by rw [HSX.out]; exact e
          have e2 : y.sign = 1 := by rw [HSY.out]; omega
          rw [← HX.out] at e1 ⊢
          rw [← HY.out] at e2 ⊢
          exact (cmpZ_pos e1 e2).symm)
      go_wp2_with fail
      refine (xcmp_any (N := N) _ _ _ _ ma _ _ mb _ ((HA.out.below HBwa.out).below HBwb.out) ((HB.out.below HBwa.out).below HBwb.out)).mono ?_
      rintro e wc ⟨rfl, rfl⟩
      go_wp2_with fail
      go_ret
      rw [HE.out]
      exact ⟨rfl, HBF.out⟩
  · have n1 : ¬ sx < sy := by omega
    have HE := Lib.hid (cmpZ_sg (x := x) (y := y) (by rw [HSX.out, HSY.out]; exact h0))
    go_wp2_with fail
    go_ret
    rw [HE.out]
    exact ⟨rfl, HBF.out⟩

end Go.Proofs.Ytnidfpilmmhniaa
