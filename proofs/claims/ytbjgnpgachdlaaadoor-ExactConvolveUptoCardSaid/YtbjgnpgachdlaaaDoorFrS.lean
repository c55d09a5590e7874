/- Arguments that came in, opened: slices of rational numbers, with the bound on all their limbs together. No condition. -/
import Derived.Test.YtbjgnpgachdlaaaDoorFrR
import Derived.Test.YtbjgnpgachdlaaaDoorExW
namespace Go.Proofs.YtbjgnpgachdlaaaDoor
open Go.RowKit Go.ChangeShapes Go.WideShapes Go.ChangeAt Go.Deep

theorem bulk_app {H : Type} : ∀ l k : List (DataW H), Rows.uptoBulkAll (l ++ k) = Rows.uptoBulkAll l + Rows.uptoBulkAll k
  | [], k => by simp [Rows.uptoBulkAll]
  | x :: r, k => by
    rw [List.cons_append]
    simp only [Rows.uptoBulkAll]
    rw [bulk_app r k]; omega
theorem bulk_range {H : Type} (D : Nat → DataW H) (f : Nat → Nat) : ∀ n : Nat, (∀ i, i < n → f i ≤ Rows.uptoBulk (D i)) → sN f n ≤ Rows.uptoBulkAll ((List.range n).map D)
  | 0, _ => Nat.zero_le _
  | n + 1, h => by
    have h1 := bulk_range D f n (fun i hi => h i (by omega))
    have h2 := h n (by omega)
    rw [List.range_succ, List.map_append, bulk_app]
    simp only [List.map_cons, List.map_nil, Rows.uptoBulkAll, sN]
    omega
theorem den_len (z : Int) (d L : Nat) (h0 : 1 ≤ L) (h : nlen d ≤ L) : nlen (mkRat z d).den ≤ L := by
  rcases Nat.eq_zero_or_pos d with rfl | hd
  · rw [Rat.mkRat_zero]
    exact Nat.le_trans (nlen_small (by decide)) h0
  · refine Nat.le_trans (nlen_mono (Nat.le_of_dvd hd ?_)) h
    have := Rat.den_mkRat z d
    rw [this, if_neg (by omega)]
    exact Nat.div_dvd_of_dvd (Nat.gcd_dvd_left _ _)
section
variable {H : Type} {enc : TypeId × Value → H} {W : World} {fuel : Nat}
theorem open_rats2 {a : Option Addr} {n cap : Nat} {d : DataW H} {p : List MemPlace} (h : DataW.Trod enc Tryd.prog W 0 (fun _ => true) true 47 (.slice a n cap) d p) (hb : Rows.uptoBulk d ≤ 1048576) : ∃ q, Rs W.heap.size W a n cap q 2097152 ∧ szQ q n ≤ Rows.uptoBulk d ∧ n ≤ Rows.uptoBulk d := by
  obtain ⟨fuel, hf⟩ := h
  have hf2 : DataW.trod enc Tryd.prog W 0 (fun _ => true) true fuel 47 [.slice a n cap] = some (d, p) := by simpa [Value.cells] using hf
  rcases open_slice Tryd.underRats hf2 with ⟨hcs, _⟩ | ⟨ad, len, cp, m, k, D, Pl, hcs, _, hl, hm, hmm, hx0, hx⟩
  · simp at hcs
    obtain ⟨rfl, rfl, rfl⟩ := hcs
    exact ⟨fun _ => 0, ⟨Nat.le_refl _, Nat.zero_le _, fun h => by omega⟩, Nat.zero_le _, Nat.zero_le _⟩
  · simp at hcs hmm
    obtain ⟨rfl, rfl, rfl⟩ := hcs
    subst hmm
    have hd : d = .slice ((List.range n).map D) ((List.range (m - n)).map fun j => D (n + j)) := congrArg Prod.fst hx0
    have key : ∀ i, i < n → ∃ y : Bool × Option Addr × Nat × Nat × Option Addr × Nat × Nat × Rat, W.cell? (ad.add (i * 3)) = some (.bool y.1) ∧ W.cell? ((ad.add (i * 3)).add 1) = some (.slice y.2.1 y.2.2.1 y.2.2.2.1) ∧ W.cell? ((ad.add (i * 3)).add 2) = some (.slice y.2.2.2.2.1 y.2.2.2.2.2.1 y.2.2.2.2.2.2.1) ∧ Rt W.heap.size W y.1 y.2.1 y.2.2.1 y.2.2.2.1 y.2.2.2.2.1 y.2.2.2.2.2.1 y.2.2.2.2.2.2.1 y.2.2.2.2.2.2.2 2097152 ∧ nlen y.2.2.2.2.2.2.2.den ≤ Rows.uptoBulk (D i) := by
      intro i hi
      obtain ⟨cs', hc, ht⟩ := hx i (by omega)
      rw [Tryd.cellsRat] at hc
      obtain ⟨_, hcl, hat⟩ := World.cells?_some hc
      obtain ⟨s, ra, rn, rc, da, dn, dc, mn, md, rfl, e1, e2, b1, b2⟩ := trod_ratb hcl ht
      have hbi : Rows.uptoBulk (D i) ≤ 1048576 := by
        rw [hd] at hb
        have h1 := bulk_mem (l := (List.range n).map D) (d := D i) (List.mem_map.2 ⟨i, List.mem_range.2 hi, rfl⟩)
        simp only [Rows.uptoBulk] at hb
        omega
      have h0 := hat 0 (by omega)
      have h1 := hat 1 (by omega)
      have h2 := hat 2 (by omega)
      simp [Addr.add_zero'] at h0 h1 h2
      exact ⟨(s, ra, rn, rc, da, dn, dc, mkRat (zI s mn) md), h0, h1, h2, ⟨by omega, (show rn ≤ 2097152 by have : rn ≤ Rows.uptoBulk (D i) := b1; omega), (show dn ≤ 2097152 by have : dn ≤ Rows.uptoBulk (D i) := b2; omega), mn, md, e1, e2, rfl⟩, den_len _ _ _ (bulk_one _) (nlen_bound e2 _ b2)⟩
    obtain ⟨y, hy⟩ := choose_lt key
    refine ⟨fun i => (y i).2.2.2.2.2.2.2, ⟨hl, hm, fun hn => ?_⟩, ?_, ?_⟩
    · obtain ⟨b, off, spot⟩ := ad
      have hspot : spot = none := by simpa [Addr.add] using World.cell?_spot (hy 0 (by omega)).1
      subst hspot
      refine ⟨b, off, rfl, fun i hi => ?_⟩
      have h2 := hy i (by omega)
      rw [add_none, add_none, add_none] at h2
      exact ⟨_, _, _, _, _, _, _, h2.1, h2.2.1, h2.2.2.1, h2.2.2.2.1⟩
    · have h1 := bulk_range D (fun i => nlen ((y i).2.2.2.2.2.2.2).den) n (fun i hi => (hy i hi).2.2.2.2)
      rw [hd]
      simp only [Rows.uptoBulk]
      show sN (fun i => nlen ((y i).2.2.2.2.2.2.2).den) n ≤ _
      omega
    · have h1 := bulk_len ((List.range n).map D)
      rw [List.length_map, List.length_range] at h1
      rw [hd]
      simp only [Rows.uptoBulk]
      omega
end

end Go.Proofs.YtbjgnpgachdlaaaDoor
