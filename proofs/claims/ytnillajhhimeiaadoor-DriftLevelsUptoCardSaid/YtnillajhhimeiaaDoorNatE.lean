/- Contracts of nat.Norm and nat.Of: for all numbers of at most 2^40 limbs. -/
import Derived.Test.YtnillajhhimeiaaDoorNatC
import Derived.Laws.AppendOwnNone
namespace Go.Proofs.YtnillajhhimeiaaDoor
open Go.RowKit

def limbsOf (m n : Nat) : List Value := (List.range n).map fun i => .int .u32 (dig m i)
theorem limbsOf_len (m n : Nat) : (limbsOf m n).length = n := by simp [limbsOf]
theorem limbsOf_get {m n i : Nat} (h : i < n) : (limbsOf m n)[i]? = some (.int .u32 (dig m i)) := by simp [limbsOf, h]

theorem Nt.of_owns {N base : Nat} {w : World} {v : Value} {n m : Nat} (h : w.ownsRow base 51 1 v n (limbsOf m n)) (hm : m < B ^ n) : ∃ r cr, v = .slice r n cr ∧ Nt N w r n cr m := by
  obtain ⟨h1, h2⟩ := h
  rcases h2 with ⟨rfl, rfl⟩ | ⟨g, cap, cur, rfl, hg, hh, h3, h4, h5, h6⟩
  · exact ⟨none, 0, rfl, ⟨Nat.le_refl _, fun _ => rfl⟩, Nat.zero_le _, hm, fun h => by omega⟩
  · refine ⟨_, _, rfl, ⟨h3, fun h => by cases h⟩, h4, hm, fun _ => ⟨g, 0, rfl, .inr ⟨cur, _, hh⟩, fun i hi => ?_⟩⟩
    rw [Nat.zero_add]
    have e : cur[i]? = some (.int .u32 (dig m i)) := by
      have := limbsOf_get (m := m) hi
      rw [← h6, List.getElem?_take] at this
      simpa [hi] using this
    simp [World.cell?, hh, e]

theorem Tryd.infoU32x : ∃ i, Tryd.prog.info? 51 = some i ∧ i.zero = some (.int .u32 0) ∧ i.size = 1 ∧ i.bytes = 4 := by
  obtain ⟨i, hi, h⟩ := Option.map_eq_some_iff.1 Tryd.infoU32
  simp only [Prod.mk.injEq] at h
  exact ⟨i, hi, h.1, h.2.1, h.2.2⟩

set_option maxHeartbeats 1000000 in
theorem norm_any {N : Nat} (a : Option Addr) (n cap m : Nat) (w : World) (h : Nt N w a n cap m) (hl : n ≤ 1099511627776) :
    Calls Tryd.prog 78 #[.slice a n cap] w fun e w' => ∃ r cr, e = .returned (.slice r (nlen m) cr) ∧ Nt N w' r (nlen m) cr m ∧ Below w.heap.size w w' := by
  have l1 := h.len
  have H := Lib.hid h
  have HT := Lib.hid h.trim
  clear h
  obtain ⟨i0, hi, hz0, hz1, hz2⟩ := Tryd.infoU32x
  have hnil := World.ownsRow_nil w w.heap.size 51 1
  cases a with
  | none =>
    obtain rfl : cap = 0 := H.out.1.2 rfl
    have hn0 : nlen m = 0 := by have := HT.out.1.1; omega
    have HZ := Lib.hid hn0
    rw [hn0] at HT
    clear hn0
    go_enter Tryd.func78, Tryd.ntmps78
    go_wp2_with fail
    refine (trim_any _ _ _ _ _ H.out).mono ?_
    rintro e w' ⟨rfl, rfl⟩
    rw [HZ.out]
    go_wp2_with (at_builtin; refine wpList_append_own_none rfl _ _ 26 rfl w.heap.size 51 i0 1 Tryd.underNat hi _ _ _ rfl hnil rfl ?_)
    go_ret
    rw [HZ.out]
    exact ⟨_, _, rfl, HT.out, Below.refl _ _⟩
  | some ad =>
    have hc1 : (limbsOf m (nlen m)).length = nlen m * 1 := by rw [limbsOf_len, Nat.mul_one]
    have hc2 : ∀ j u, (limbsOf m (nlen m))[j]? = some u → w.cell? (ad.add j) = some u := by
      intro j u hu
      have hj : j < nlen m := by
        have := (List.getElem?_eq_some_iff.1 hu).1
        rwa [limbsOf_len] at this
      obtain ⟨b, off, e, _, hc⟩ := HT.out.2.2.2 (by omega)
      rw [limbsOf_get hj] at hu
      simp only [Option.some.injEq] at e hu
      subst e hu
      have hadd : (⟨b, off, none⟩ : Addr).add j = ⟨b, off + j, none⟩ := by unfold Addr.add; split <;> simp_all
      rw [hadd]; exact hc j hj
    have hc3 : ∀ u ∈ limbsOf m (nlen m), u.oneCell' = true := by
      intro u hu
      obtain ⟨i, _, rfl⟩ := List.mem_map.1 hu
      rfl
    have H1 := Lib.hid hc1
    have H2 := Lib.hid hc2
    have H3 := Lib.hid hc3
    clear hc1 hc2 hc3
    go_enter Tryd.func78, Tryd.ntmps78
    go_wp2_with fail
    refine (trim_any _ _ _ _ _ H.out).mono ?_
    rintro e w' ⟨rfl, rfl⟩
    go_wp2_with (at_builtin; refine wpList_append_own _ rfl _ _ 26 rfl w.heap.size 51 i0 (.int .u32 0) 1 4 Tryd.underNat hi hz0 hz1 hz2 rfl (by decide) _ _ _ rfl hnil ad (nlen m) cap (limbsOf m (nlen m)) rfl H1.out H2.out H3.out ?c4 ?c5 (Nat.le_refl _) ?_)
    case c4 => unfold maxLen; omega
    case c5 => omega
    intro v' w1 hown hgrow _
    obtain ⟨r, cr, hv, hnt⟩ := Nt.of_owns (N := N) hown (lt_pow_nlen m)
    rw [hv]
    have HN := Lib.hid hnt
    have HB := Lib.hid ((Below.refl w.heap.size w).grown hgrow (Nat.le_refl _) (fun k hk => by cases hk))
    clear hown hgrow hnt hv
    go_wp2_with fail
    go_ret
    exact ⟨_, _, rfl, HN.out, HB.out⟩

/-- A number of two limbs. -/
theorem two_limbs (n : Nat) (h : n < 18446744073709551616) : n < B ^ 2 := by
  have e : B ^ 2 = 18446744073709551616 := by decide
  rw [e]; exact h
theorem dig0 (n : Nat) : dig n 0 = n % 4294967296 := by simp [dig, B]
theorem dig1 (n : Nat) : dig n 1 = n / 4294967296 % 4294967296 := by simp [dig, B]

set_option maxHeartbeats 1000000 in
theorem of_any {N : Nat} (n : Nat) (w : World) (h : n < 18446744073709551616) :
    Calls Tryd.prog 31 #[.int .u64 n] w fun e w' => ∃ r cr, e = .returned (.slice r (nlen n) cr) ∧ Nt N w' r (nlen n) cr n ∧ Below w.heap.size w w' := by
  have hr := World.rowIs_alloc w #[Value.int IntKind.u32 ((n : Int) % 4294967296), Value.int IntKind.u32 ((n : Int) / 4294967296)] 51 (fun i => .int .u32 (dig n i)) (fun i hi => by
    have hi2 : i < 2 := hi
    have e0 := dig0 n
    have e1 := dig1 n
    rcases (show i = 0 ∨ i = 1 by omega) with rfl | rfl
    · simp [e0]
    · simp [e1]; omega)
  have hnt := Nt.of_row (N := N) hr (show 2 ≤ maxLen by unfold maxLen; decide) (two_limbs n h) (fun i hi => rfl)
  have H := Lib.hid hnt
  have HT := Lib.hid hnt.trim
  clear hr hnt
  go_enter Tryd.func31, Tryd.ntmps31
  go_wp2_with fail
  refine (trim_any _ _ _ _ _ H.out).mono ?_
  rintro e w' ⟨rfl, rfl⟩
  go_wp2_with fail
  go_ret
  exact ⟨_, _, rfl, HT.out, (Below.refl _ _).alloc (Nat.le_refl _) _⟩

end Go.Proofs.YtnillajhhimeiaaDoor
