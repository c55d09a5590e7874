/- Contracts of the reference's limb, Norm, Of and Cmp of natural numbers: for all numbers of at most 2^40 limbs. -/
import Derived.Test.YtnidfpilmmhniaaRefM
import Derived.Test.YtnidfpilmmhniaaNatE
import Derived.Laws.CopyOwn
namespace Go.Proofs.Ytnidfpilmmhniaa
open Go.RowKit

set_option maxHeartbeats 1000000 in
theorem limb_any {N : Nat} (a : Option Addr) (n cap m : Nat) (z : Int) (i : Nat) (w : World) (h : Nt N w a n cap m) (hz : z = i) :
    Calls Try.prog 178 #[.slice a n cap, .int .i64 z] w fun e w' => e = .returned (.int .u64 (dig m i)) ∧ w' = w := by
  subst hz
  obtain ⟨⟨h0, _⟩, h1, h2, h3⟩ := h
  unfold maxLen at h1
  by_cases hi : i < n
  · obtain ⟨b, off, rfl, _, hc⟩ := h3 (by omega)
    have hcell := hc i hi
    clear hc h3 h2
    have hd := dig_lt' m i
    go_enter Try.func178, Try.ntmps178
    go_wp2
    go_ret
    exact ⟨rfl, rfl⟩
  · have HZ := Lib.hid (dig_high' m n i h2 (by omega))
    clear h2 h3
    go_enter Try.func178, Try.ntmps178
    go_wp2
    go_ret
    rw [HZ.out]
    exact ⟨rfl, rfl⟩

theorem Try.infoU32s : (Try.prog.info? 122).map (·.size) = some 1 := by kernel_rfl
theorem Nt.of_cells {N b n m : Nat} {w : World} (h : w.heap[b]? = some (.cells (limbsOf m n).toArray 122 (0, 0))) (hn : n ≤ maxLen) (hm : m < B ^ n) : Nt N w (some ⟨b, 0, none⟩) n n m :=
  Nt.of_row (f := fun i => .int .u32 (dig m i)) ⟨_, h, by simp [limbsOf], fun i hi => by simp [limbsOf, hi]⟩ hn hm (fun _ _ => rfl)
theorem limbsOf_one {m n : Nat} : ∀ u ∈ limbsOf m n, u.oneCell' = true := by
  intro u hu
  obtain ⟨i, _, rfl⟩ := List.mem_map.1 hu
  rfl
theorem Nt.limbs {N : Nat} {w : World} {ad : Addr} {n cap m k : Nat} (h : Nt N w (some ad) n cap m) (hk : k ≤ n) : ∀ j u, (limbsOf m k)[j]? = some u → w.cell? (ad.add j) = some u := by
  intro j u hu
  have hj : j < k := by
    have := (List.getElem?_eq_some_iff.1 hu).1
    rwa [limbsOf_len] at this
  obtain ⟨b, off, e, _, hc⟩ := h.2.2.2 (by omega)
  rw [limbsOf_get hj] at hu
  simp only [Option.some.injEq] at e hu
  subst e hu
  have hadd : (⟨b, off, none⟩ : Addr).add j = ⟨b, off + j, none⟩ := by unfold Addr.add; split <;> simp_all
  rw [hadd]; exact hc j (by omega)
/-- r lies in a block from b on -/
def Fr (B : Nat) (r : Option Addr) : Prop := ∀ b o s, r = some ⟨b, o, s⟩ → B ≤ b
theorem Fr.mono {B B' : Nat} {r : Option Addr} (h : Fr B r) (hb : B' ≤ B) : Fr B' r := fun b o s e => Nat.le_trans hb (h b o s e)
theorem splice_all {α : Type} (L cs : List α) (h : cs.length = L.length) : splice L 0 cs = cs := by simp [splice, h]

set_option maxRecDepth 100000 in
set_option maxHeartbeats 1000000 in
theorem xnorm_fr {N : Nat} (a : Option Addr) (n cap m : Nat) (w : World) (h : Nt N w a n cap m) (hl : n ≤ 4398046511104) :
    Calls Try.prog 145 #[.slice a n cap] w fun e w' => ∃ r cr, e = .returned (.slice r (nlen m) cr) ∧ Nt N w' r (nlen m) cr m ∧ Below w.heap.size w w' ∧ Fr w.heap.size r := by
  have l1 := h.len
  have HT := Lib.hid h
  obtain ⟨⟨h0, _⟩, h1, h2, h3⟩ := h
  have hA := Lib.hid h3
  have HM := Lib.hid h2
  clear h2 h3
  unfold maxLen at h1
  have hmk := run_make_row' (P := Try.prog) 25 122 (.int .u32 0) 4 Try.underNat Try.infoU32 rfl .i64 .i64 (nlen m) (by omega) (by omega)
  have HC0 := Lib.hid (show (w.alloc (.cells (madeCells #[.int .u32 0] (nlen m)) 122)).heap[w.heap.size]? = some (.cells (madeCells #[.int .u32 0] (nlen m)).toList.toArray 122 (0, 0)) from heap_alloc_new w _)
  have HC1 := Lib.hid (show (limbsOf m (nlen m)).length = Nat.min n (nlen m) by rw [limbsOf_len]; exact (Nat.min_eq_right l1).symm)
  have HC3 := Lib.hid (show 0 + (limbsOf m (nlen m)).length ≤ (madeCells #[Value.int .u32 0] (nlen m)).toList.length by simp [limbsOf_len, size_madeCells])
  have HC2 := Lib.hid (show 0 < (limbsOf m (nlen m)).length → ∃ ad, a = some ad ∧ ∀ j v, (limbsOf m (nlen m))[j]? = some v → (w.alloc (.cells (madeCells #[.int .u32 0] (nlen m)) 122)).cell? (ad.add j) = some v from by
    intro hp
    rw [limbsOf_len] at hp
    obtain ⟨b, off, e, _, _⟩ := hA.out (by omega)
    exact ⟨_, e, (show Nt N _ (some ⟨b, off, none⟩) n cap m by rw [← e]; exact HT.out.below ((Below.refl _ _).alloc (Nat.le_refl _) _)).limbs l1⟩)
  go_enter Try.func145, Try.ntmps145
  go_wp2_with fail
  go_loop [3] (fun s => ∃ k, k ≤ n ∧ s = .int .i64 k ∧ Hid (m < B ^ k)) (fun s => (intOf s).toNat)
  case atStart => exact ⟨n, Nat.le_refl _, rfl, HM⟩
  case round =>
    obtain ⟨k, hk, rfl, hk2⟩ := hrel
    by_cases hcont : 0 < k ∧ dig m (k - 1) = 0
    · obtain ⟨hz, hd0⟩ := hcont
      obtain ⟨b, off, rfl, _, hc⟩ := hA.out (by omega)
      have hcell := hc (k - 1) (by omega)
      have hz1 : ((k : Int) - 1).toNat = k - 1 := by omega
      clear hc
      rw [hd0] at hcell
      have HD := Lib.hid hd0
      clear hd0
      go_wp2_with fail
      go_round
      case rel => exact ⟨k - 1, by omega, i64_congr (by omega), trim_zero hk2.out hz HD.out⟩
      case measure => simp [intOf]; omega
    · obtain rfl : k = nlen m := trim_done hk2.out (by rcases Nat.eq_zero_or_pos k with h | h; exact .inl h; exact .inr (fun e => hcont ⟨h, e⟩))
      rcases Nat.eq_zero_or_pos (nlen m) with hz | hz
      · have hz0 : ¬ (0 : Int) < (nlen m : Int) := by omega
        clear hz hcont
        go_wp2_with (refine wpList_copy_splice (o := ⟨some 23, _, _, _, _, _⟩) rfl (.tmp 21) (.tmp 22) 25 25 rfl 122 Try.underNat Try.infoU32s _ _ _ _ _ _ rfl rfl w.heap.size 0 (madeCells #[.int .u32 0] (nlen m)).toList 122 HC0.out (limbsOf m (nlen m)) HC1.out (fun hp => ⟨rfl, HC2.out hp⟩) HC3.out limbsOf_one w.heap.size w ((Below.refl _ _).alloc (Nat.le_refl _) _) (Nat.le_refl _) ?_)
        intro w1 hh hb
        rw [splice_all _ _ (by simp [limbsOf_len, size_madeCells])] at hh
        have HN := Lib.hid (Nt.of_cells (N := N) hh.out (by unfold maxLen; omega) (lt_pow_nlen m))
        have HB := Lib.hid hb
        clear hh hb
        go_wp2_with fail
        go_ret
        exact ⟨_, _, rfl, HN.out, HB.out, fun b o s e => by cases e; exact Nat.le_refl _⟩
      · obtain ⟨b, off, rfl, _, hc⟩ := hA.out (by omega)
        have hcell := hc (nlen m - 1) (by omega)
        have hz1 : ((nlen m : Int) - 1).toNat = nlen m - 1 := by omega
        clear hc
        have hd := dig_lt' m (nlen m - 1)
        have hb : ((dig m (nlen m - 1) : Int) == 0) = false := by
          have : dig m (nlen m - 1) ≠ 0 := fun e => hcont ⟨hz, e⟩
          simp; omega
        clear hcont
        go_wp2_with (refine wpList_copy_splice (o := ⟨some 23, _, _, _, _, _⟩) rfl (.tmp 21) (.tmp 22) 25 25 rfl 122 Try.underNat Try.infoU32s _ _ _ _ _ _ rfl rfl w.heap.size 0 (madeCells #[.int .u32 0] (nlen m)).toList 122 HC0.out (limbsOf m (nlen m)) HC1.out (fun hp => ⟨rfl, HC2.out hp⟩) HC3.out limbsOf_one w.heap.size w ((Below.refl _ _).alloc (Nat.le_refl _) _) (Nat.le_refl _) ?_)
        intro w1 hh hb
        rw [splice_all _ _ (by simp [limbsOf_len, size_madeCells])] at hh
        have HN := Lib.hid (Nt.of_cells (N := N) hh.out (by unfold maxLen; omega) (lt_pow_nlen m))
        have HB := Lib.hid hb
        clear hh hb
        go_wp2_with fail
        go_ret
        exact ⟨_, _, rfl, HN.out, HB.out, fun b o s e => by cases e; exact Nat.le_refl _⟩

theorem xnorm_any {N : Nat} (a : Option Addr) (n cap m : Nat) (w : World) (h : Nt N w a n cap m) (hl : n ≤ 4398046511104) :
    Calls Try.prog 145 #[.slice a n cap] w fun e w' => ∃ r cr, e = .returned (.slice r (nlen m) cr) ∧ Nt N w' r (nlen m) cr m ∧ Below w.heap.size w w' :=
  (xnorm_fr a n cap m w h hl).mono fun _ _ ⟨r, cr, e, hn, hb, _⟩ => ⟨r, cr, e, hn, hb⟩

end Go.Proofs.Ytnidfpilmmhniaa
