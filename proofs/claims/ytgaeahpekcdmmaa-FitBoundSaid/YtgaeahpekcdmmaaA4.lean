/- FitBound returns true for every slice of bools; no condition. -/
import Derived.Test.YtgaeahpekcdmmaaA3
namespace Go.Proofs.Ytgaeahpekcdmmaa
open Go.RowKit Go.ChangeShapes Go.WideShapes Go.ChangeAt Go.Deep

def rtN (x : Nat → Bool) : Nat → Nat
  | 0 => 0
  | k + 1 => rtN x k + if x k then 1 else 0
def foN (x : Nat → Bool) : Nat → Bool
  | 0 => false
  | k + 1 => if x k then foN x k || decide (0 < wrN x k) else foN x k
theorem rt_wr (x : Nat → Bool) : ∀ k, rtN x k + wrN x k = k
  | 0 => rfl
  | k + 1 => by have := rt_wr x k; simp only [rtN, wrN]; split <;> omega
theorem er_rw (x : Nat → Bool) : ∀ k, erN x k ≤ rtN x k * wrN x k
  | 0 => Nat.le_refl _
  | k + 1 => by
    have := er_rw x k; simp only [erN, rtN, wrN]; split
    · simp only [Nat.add_mul, Nat.add_zero]; omega
    · simp only [Nat.mul_add, Nat.add_zero]; omega
theorem fo_er (x : Nat → Bool) : ∀ k, foN x k = decide (0 < erN x k)
  | 0 => rfl
  | k + 1 => by
    have := fo_er x k; simp only [foN, erN]; split
    · rw [this]; simp only [← Bool.decide_or]; exact decide_eq_decide.2 (by omega)
    · rw [this]; rfl
theorem rw_quarter (r w n : Nat) (h : r + w = n) : r * w ≤ n * n / 4 := by
  have : 4 * (r * w) ≤ n * n := by
    subst h
    rcases Nat.le_total r w with h | h
    · obtain ⟨d, rfl⟩ := Nat.exists_eq_add_of_le h
      simp only [Nat.mul_add, Nat.add_mul]; have := Nat.mul_comm r d; omega
    · obtain ⟨d, rfl⟩ := Nat.exists_eq_add_of_le h
      simp only [Nat.mul_add, Nat.add_mul]; have := Nat.mul_comm w d; omega
  omega

set_option maxHeartbeats 1000000 in
set_option maxRecDepth 100000 in
theorem fitBound_walk (a : Option Addr) (n cap : Nat) (x : Nat → Bool) (w : World) (hs : Sl w a n cap (fun i => .bool (x i))) :
    Calls Try.prog 4 #[.slice a n cap] w fun e w' => e = .returned (.bool true) ∧ Below w.heap.size w w' := by
  have HS := Lib.hid hs
  obtain ⟨h0, h1, hc0⟩ := hs
  have hA := Lib.hid hc0
  clear hc0
  by_cases hn : n ≤ 20
  · have e1 := er_rw x n
    have e2 := rw_quarter _ _ _ (rt_wr x n)
    have e3 : rtN x n * wrN x n ≤ 20 * 20 := Nat.mul_le_mul (by have := rt_wr x n; omega) (by have := rt_wr x n; omega)
    have e4 : n * n ≤ 20 * 20 := Nat.mul_le_mul hn hn
    have E5 := Lib.hid (fo_er x n)
    go_enter Try.func4, Try.ntmps4
    go_wp2_with fail
    refine (gut_any _ _ _ x _ hn HS.out).mono ?_
    rintro e w' ⟨rfl, rfl⟩
    go_wp2_with fail
    go_loopw [5, 6, 7, 8, 9, 10] (fun r g f l s i wq => ∃ k m : Nat, k ≤ n ∧ i = .int .i64 k ∧ r = .int .i64 (rtN x k) ∧ g = .int .i64 (wrN x k) ∧ f = .bool (foN x k) ∧ l = .int .i64 (bestN x k) ∧ s = .int .i64 (rnN x k) ∧ wq = w.drewN m) (fun _ _ _ _ _ i _ => n - (intOf i).toNat)
    case atStart => exact ⟨0, 0, Nat.zero_le _, rfl, rfl, rfl, rfl, rfl, rfl, rfl⟩
    case round =>
      obtain ⟨k, m, hk, rfl, rfl, rfl, rfl, rfl, rfl, rfl⟩ := hrel
      have h2 := rnN_le x k
      have h3 := bestN_le x k
      have h4 := wrN_le x k
      have h5 : rtN x k ≤ k := by have := rt_wr x k; omega
      by_cases hlt : k < n
      · obtain ⟨b, off, rfl, hc⟩ := hA.out (by omega)
        have hcell := hc k hlt
        by_cases hk0 : 0 < k
        · have hcell2 := hc (k - 1) (by omega)
          clear hc
          cases hb : x k <;> cases hb2 : x (k - 1) <;> cases hf : foN x k <;> by_cases hw0 : 0 < wrN x k
          all_goals
            rw [hb] at hcell
            rw [hb2] at hcell2
            have Hb := Lib.hid hb
            have Hb2 := Lib.hid hb2
            have Hf := Lib.hid hf
            clear hb hb2 hf
            go_wp2
            go_quiet (fail)
            go_wp2
            go_roundw
            case rel => exact ⟨k + 1, _, by omega, by go_num, by simp [rtN, Hb.out], by simp [wrN, Hb.out], by simp [foN, Hb.out, Hf.out, hw0], by simp [bestN, rnN, Hb.out, Hb2.out, hk0]; try go_num, by simp [rnN, Hb.out, Hb2.out, hk0], rfl⟩
            case measure => simp [intOf]; omega
        · obtain rfl : k = 0 := by omega
          clear hc
          cases hb : x 0
          all_goals
            rw [hb, Nat.add_zero] at hcell
            have Hb := Lib.hid hb
            clear hb
            have hf0 : foN x 0 = false := rfl
            have hw0 : wrN x 0 = 0 := rfl
            go_wp2
            go_quiet (fail)
            go_wp2
            go_roundw
            case rel => exact ⟨1, _, by omega, by go_num, by simp [rtN, Hb.out], by simp [wrN, Hb.out], by simp [foN, Hb.out, wrN], by simp [bestN, rnN]; try go_num, by simp [rnN], rfl⟩
            case measure => simp [intOf]; omega
      · obtain rfl : k = n := by omega
        rw [E5.out]
        go_wp2_with fail
        refine (runs_any _ _ _ x _ (HS.out.below (bel_drewN _ _ _))).mono ?_
        rintro e w' ⟨rfl, m, rfl⟩
        go_wp2_with fail
        go_ret
        exact ⟨rfl, bel_drewN _ _ _⟩
  · have hn' : 20 < n := by omega
    unfold maxLen at h1
    go_enter Try.func4, Try.ntmps4
    go_wp2_with fail
    refine (gut_long _ _ _ _ hn' (by unfold maxLen; omega)).mono ?_
    rintro e w' ⟨rfl, rfl⟩
    go_wp2_with fail
    go_ret
    exact ⟨rfl, Below.refl _ _⟩

/-- A slice of bools that came in. -/
theorem sl_bools {H : Type} {enc : TypeId × Value → H} {P : Program} {W : World} {t e : TypeId} {a : Option Addr} {l c : Nat} {d : DataW H} {p : List MemPlace}
    (ht : P.underlying t = some (.slice e)) (he : P.underlying e = some .bool) (hc : P.cellsOf e = 1)
    (h : DataW.Trod enc P W 0 (fun _ => true) true t (.slice a l c) d p) : ∃ z : Nat → Bool, Sl W a l c (fun i => .bool (z i)) := by
  obtain ⟨fuel, hf⟩ := h
  rcases open_bools ht he hc hf with ⟨hcs, _⟩ | ⟨x, l', c', zs, hcs, _, hl, hm, _, hcell⟩
  · simp [Value.cells] at hcs
    obtain ⟨rfl, rfl, rfl⟩ := hcs
    exact ⟨fun _ => false, Nat.le_refl _, Nat.zero_le _, fun h => by omega⟩
  · simp [Value.cells] at hcs
    obtain ⟨rfl, rfl, rfl⟩ := hcs
    refine ⟨zs, hl, hm, fun hp => ?_⟩
    obtain ⟨b, off, spot⟩ := x
    have hc := hcell 0 (by omega)
    have hspot : spot = none := by simpa [Addr.add] using World.cell?_spot hc
    subst hspot
    refine ⟨b, off, rfl, fun i hi => ?_⟩
    have := hcell i (by omega)
    unfold Addr.add at this
    split at this
    · next e => subst e; exact this
    · exact this

set_option maxRecDepth 100000 in
theorem fitBound_lifted (os : Os) (started : os.Started) (H : Type) (enc : TypeId × Value → H) :
    ReturnsInHanded {} Try.checked os 4 .any (Rows.fitBoundSpec.pre6 enc Try.prog Try.f4 Rows.fitBoundRow.domain false) (Rows.fitBoundSpec.post enc Try.prog Try.f4 false true false false) := by
  refine returnsInHanded_of_change (C := Try.checked) Try.own started (by kernel_rfl) Try.func4
    (ChangeSpec.witness6 (enc := enc) (C := Try.checked) false ⟨#[], #[.slice none 0 0], []⟩ 8 (by kernel_rfl) (by kernel_rfl) (by kernel_rfl) (by kernel_rfl)) ?_
  intro W base args ds gs before hval0 hW hcnd _
  have hval : ∀ (j : Nat) t v, Try.f4.params[j]? = some t → args[j]? = some v → Value.okWide Try.prog W .any base t v := hval0
  have hW' := hW
  obtain ⟨p, q, hA0, hV, rfl, hfz, hnd⟩ := hW
  have hA : DataW.TrodAll enc Try.prog W 0 (fun _ => true) true Try.f4.params.toList args.toList ds p := hA0
  rw [Try.params4] at hA hval
  obtain ⟨v0, vs0, d0, ds0, p0, q0, hargs, rfl, rfl, h0, r0⟩ := trodAll_cons hA
  obtain ⟨rfl, rfl, rfl⟩ := trodAll_nil r0
  obtain rfl : args = #[v0] := by cases args; simp_all
  obtain ⟨rfl, rfl⟩ := trodVars_none hV
  obtain ⟨a0, len0, cap0, rfl⟩ := okWide_slice Try.underlying22 (hval 0 22 v0 rfl rfl)
  have k0 := h0
  have lt0 : ∀ x ∈ p0, x.block < W.heap.size := by obtain ⟨m, hm⟩ := k0; exact DataW.trod_lt m _ _ _ hm
  obtain ⟨z0, w0⟩ := sl_bools Try.underlying22 Try.underlying4 (by kernel_rfl) h0
  clear hA0 hval0
  refine (fitBound_walk a0 len0 cap0 z0 W w0).mono fun e W' ⟨he, bel⟩ => ?_
  subst he
  exact ⟨_, rfl, _, _, _, [], _, [], hW', trodAll_mk1 (shut_bool Try.underlying4 _), (trodAll_cons_mk (Below.trod Try.laidOut (by kernel_rfl) (of_decide_eq_true (by kernel_rfl)) k0 bel lt0) trodAll_mk0), rfl, bel.frame _, fun h => by cases h⟩

theorem fitBound_holds : Rows.FitBoundSaid :=
  OpenClaim.holds_of_wide 4 Try.f4 rfl rfl rfl rfl rfl rfl rfl ⟨rfl, rfl, rfl, rfl, rfl⟩ rfl rfl rfl rfl rfl (by kernel_rfl) Try.func4 (by kernel_rfl)
    (of_decide_eq_true (by kernel_rfl)) (by unfold Func.isWrapper; first | (rw [if_pos (by decide +kernel)]; kernel_rfl) | (rw [if_neg (by decide +kernel)]; exact ⟨rfl, rfl⟩))
    (fun os started H enc _ => fitBound_lifted os started H enc)
#print axioms fitBound_holds

end Go.Proofs.Ytgaeahpekcdmmaa
