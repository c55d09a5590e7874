/- ExposureAccepts returns true for every input; no condition. -/
import Derived.Test.YtnidfpilmmhniaaAcc
import Derived.Test.YtnidfpilmmhniaaFr
namespace Go.Proofs.Ytnidfpilmmhniaa
open Go.RowKit Go.ChangeShapes Go.WideShapes Go.ChangeAt Go.Deep

set_option maxHeartbeats 4000000 in
theorem accepts_walk {N : Nat} (g : Int) (s : Bool) (a d : Option Addr) (na ca nd cd : Nat) (w : World) (mn md : Nat) (hN : N ≤ w.heap.size) (ha : Nt N w a na ca mn) (hd : Nt N w d nd cd md) :
    Calls Try.prog 3 #[.int .u64 g, .agg #[.bool s, .slice a na ca, .slice d nd cd]] w fun e w' => e = .returned (.bool true) ∧ Below w.heap.size w w' := by
  by_cases hl : 20 < na ∨ 20 < nd
  · have HLG := Lib.hid (show (decide (20 < na) || decide (20 < nd)) = true by simpa using hl)
    clear ha hd hl
    go_enter Try.func3, Try.ntmps3
    go_wp2_with fail
    refine (large_any _ _ _ _ _ _ _ _).mono ?_
    rw [HLG.out]
    rintro e wa ⟨rfl, hb⟩
    obtain ⟨hcwa, hfwa⟩ := bcell hb
    have hzwa0 : w.heap.size < wa.heap.size := by have := hb.size; (try simp at this); omega
    have HBwa := Lib.hid hb
    clear hb 
    go_wp2_with fail
    go_ret
    exact ⟨rfl, ((bel1 w _).trans (HBwa.out.mono (by first | omega | (simp; done) | (simp; omega))))⟩
  · have HLG := Lib.hid (show (decide (20 < na) || decide (20 < nd)) = false by simpa using hl)
    obtain ⟨q, hq⟩ : ∃ q, mkRat (zI s mn) md = q := ⟨_, rfl⟩
    have h : Rt N w s a na ca d nd cd q 20 := ⟨by omega, by omega, by omega, mn, md, ha, hd, hq⟩
    have H := Lib.hid (h.alloc (.cells #[.bool s, .slice a na ca, .slice d nd cd] 29))
    clear h hq ha hd hl
    obtain ⟨E, hE⟩ : ∃ E, chq g q = E := ⟨_, rfl⟩
    obtain ⟨y, hy⟩ : ∃ y, nx g = y := ⟨_, rfl⟩
    have HE := Lib.hid hE
    have HY := Lib.hid hy
    clear hE hy
    go_enter Try.func3, Try.ntmps3
    go_wp2_with fail
    refine (large_any _ _ _ _ _ _ _ _).mono ?_
    rw [HLG.out]
    rintro e wa ⟨rfl, hb⟩
    obtain ⟨hcwa, hfwa⟩ := bcell hb
    have hzwa0 : w.heap.size < wa.heap.size := by have := hb.size; (try simp at this); omega
    have HBwa := Lib.hid hb
    clear hb 
    go_wp2_with fail
    refine (accept_any (N := N) g _ _ _ _ _ _ _ q _ (by omega) (H.out.below HBwa.out)).mono ?_
    rw [HE.out, HY.out]
    rintro e wb ⟨rfl, hb⟩
    obtain ⟨hcwb, hfwb⟩ := bcell hb
    have hzwb0 : w.heap.size < wb.heap.size := by have := hb.size; (try simp at this); omega
    have HBwb := Lib.hid hb
    clear hb 
    go_wp2_with fail
    refine (xaccept_any (N := N) g _ _ _ _ _ _ _ q _ (by omega) ((H.out.below HBwa.out).below HBwb.out)).mono ?_
    rw [HE.out, HY.out]
    rintro e wc ⟨rfl, hb⟩
    obtain ⟨hcwc, hfwc⟩ := bcell hb
    have hzwc0 : w.heap.size < wc.heap.size := by have := hb.size; (try simp at this); omega
    have HBwc := Lib.hid hb
    clear hb 
    go_wp2_with fail
    go_ret
    exact ⟨by simp, ((((bel1 w _).trans (HBwa.out.mono (by first | omega | (simp; done) | (simp; omega)))).trans (HBwb.out.mono (by first | omega | (simp; done) | (simp; omega)))).trans (HBwc.out.mono (by first | omega | (simp; done) | (simp; omega))))⟩

set_option maxRecDepth 100000 in
theorem exposureAccepts_lifted (os : Os) (started : os.Started) (H : Type) (enc : TypeId × Value → H) :
    ReturnsInHanded {} Try.checked os 3 .any (Rows.exposureAcceptsSpec.pre6 enc Try.prog Try.f3 Rows.exposureAcceptsRow.domain false) (Rows.exposureAcceptsSpec.post enc Try.prog Try.f3 false true false false) := by
  refine returnsInHanded_of_change (C := Try.checked) Try.own started (by kernel_rfl) Try.func3
    (ChangeSpec.witness6 (enc := enc) (C := Try.checked) false ⟨#[], #[.int .u64 0, .agg #[.bool false, .slice none 0 0, .slice none 0 0]], []⟩ 8 (by kernel_rfl) (by kernel_rfl) (by kernel_rfl) (by kernel_rfl)) ?_
  intro W base args ds gs before hval0 hW hcnd _
  have hval : ∀ (j : Nat) t v, Try.f3.params[j]? = some t → args[j]? = some v → Value.okWide Try.prog W .any base t v := hval0
  have hW' := hW
  obtain ⟨p, q, hA0, hV, rfl, hfz, hnd⟩ := hW
  have hA : DataW.TrodAll enc Try.prog W 0 (fun _ => true) true Try.f3.params.toList args.toList ds p := hA0
  rw [Try.params3] at hA hval
  obtain ⟨v0, vs0, x0, ds0, p0, q0, hargs, rfl, rfl, h0, r0⟩ := trodAll_cons hA
  obtain ⟨v1, vs1, x1, ds1, p1, q1, rfl, rfl, rfl, h1, r1⟩ := trodAll_cons r0
  obtain ⟨rfl, rfl, rfl⟩ := trodAll_nil r1
  obtain rfl : args = #[v0, v1] := by cases args; simp_all
  obtain ⟨rfl, rfl⟩ := trodVars_none hV
  obtain ⟨a0, rfl, rfl, rfl, w0⟩ := open_int Try.underlying23 (hval 0 23 v0 rfl rfl) h0
  have k1 := h1
  have lt1 : ∀ x ∈ p1, x.block < W.heap.size := by obtain ⟨m, hm⟩ := k1; exact DataW.trod_lt m _ _ _ hm
  obtain ⟨s1, a1, n1, c1, m1, d1, nd1, cd1, md1, rfl, hn1, hd1⟩ := open_rat (hval 1 29 v1 rfl rfl) h1
  clear hA0 hval0
  refine (accepts_walk (N := W.heap.size) a0 s1 a1 d1 n1 c1 nd1 cd1 W m1 md1 (Nat.le_refl _) hn1 hd1).mono fun e W' ⟨he, bel⟩ => ?_
  subst he
  exact ⟨_, rfl, _, _, _, [], _, [], hW', trodAll_mk1 (shut_bool Try.underlying4 _), (trodAll_cons_mk (shut_int Try.underlying23 w0) (trodAll_cons_mk (Below.trod Try.laidOut (by kernel_rfl) (of_decide_eq_true (by kernel_rfl)) k1 bel lt1) trodAll_mk0)), rfl, bel.frame _, fun h => by cases h⟩

theorem exposureAccepts_holds : Rows.ExposureAcceptsSaid :=
  OpenClaim.holds_of_wide 3 Try.f3 rfl rfl rfl rfl rfl rfl rfl ⟨rfl, rfl, rfl, rfl, rfl⟩ rfl rfl rfl rfl rfl (by kernel_rfl) Try.func3 (by kernel_rfl)
    (of_decide_eq_true (by kernel_rfl)) (by unfold Func.isWrapper; first | (rw [if_pos (by decide +kernel)]; kernel_rfl) | (rw [if_neg (by decide +kernel)]; exact ⟨rfl, rfl⟩))
    (fun os started H enc _ => exposureAccepts_lifted os started H enc)
#print axioms exposureAccepts_holds

end Go.Proofs.Ytnidfpilmmhniaa
