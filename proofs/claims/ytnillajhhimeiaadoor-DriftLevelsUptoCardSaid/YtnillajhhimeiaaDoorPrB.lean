/- nat.Print: for all numbers of at most 2^36 limbs it returns a string that is not empty; of a number below 1000000000 its decimal numeral. -/
import Derived.Test.YtnillajhhimeiaaDoorPrA
namespace Go.Proofs.YtnillajhhimeiaaDoor
open Go.RowKit Go.Sort

/-! ### Groups of nine digits -/
def G9 : Nat := 1000000000
def gq (m k : Nat) : Nat := m / G9 ^ k
def ng (m : Nat) : Nat := if h : m = 0 then 0 else ng (m / G9) + 1
termination_by m
decreasing_by exact Nat.div_lt_self (Nat.pos_of_ne_zero h) (by decide)
theorem ng_zero : ng 0 = 0 := by unfold ng; simp
theorem ng_pos {m : Nat} (h : m ≠ 0) : ng m = ng (m / G9) + 1 := by rw [ng]; simp [h]
theorem gq_zero (m : Nat) : gq m 0 = m := by simp [gq]
theorem gq_succ (m k : Nat) : gq m (k + 1) = gq m k / 1000000000 := by unfold gq; rw [Nat.pow_succ, Nat.div_div_eq_div_mul]; rfl
theorem ng_div (m : Nat) : ng (m / G9) = ng m - 1 := by
  by_cases h : m = 0
  · subst h; rw [Nat.zero_div, ng_zero]
  · rw [ng_pos h]; omega
theorem ng_gq (m : Nat) : ∀ k, ng (gq m k) = ng m - k
  | 0 => by rw [gq_zero]; rfl
  | k + 1 => by rw [gq_succ, show (1000000000 : Nat) = G9 from rfl, ng_div, ng_gq m k]; omega
theorem ng_eq_zero {m : Nat} : ng m = 0 ↔ m = 0 := by
  constructor
  · intro h; by_cases h0 : m = 0
    · exact h0
    · rw [ng_pos h0] at h; omega
  · rintro rfl; exact ng_zero
theorem ng_le : ∀ {k m : Nat}, m < G9 ^ k → ng m ≤ k
  | 0, m, h => by
    have : m = 0 := by simp at h; exact h
    subst this; rw [ng_zero]; omega
  | k + 1, m, h => by
    by_cases h0 : m = 0
    · subst h0; rw [ng_zero]; omega
    · rw [ng_pos h0]
      have := ng_le (k := k) (m := m / G9) ((Nat.div_lt_iff_lt_mul (by decide)).2 (by rwa [Nat.pow_succ] at h))
      omega
theorem ng_len (m : Nat) : ng m ≤ 2 * nlen m := by
  apply ng_le
  refine Nat.lt_of_lt_of_le (lt_pow_nlen m) ?_
  rw [Nat.pow_mul]
  exact Nat.pow_le_pow_left (by decide) _
theorem gq_len (m k : Nat) : nlen (gq m k) ≤ nlen m := nlen_mono (Nat.div_le_self _ _)
def grps (m k : Nat) : List Value := (List.range k).map fun i => .int .u32 ((gq m i % 1000000000 : Nat) : Int)
theorem grps_succ (m k : Nat) : grps m (k + 1) = grps m k ++ [.int .u32 ((gq m k % 1000000000 : Nat) : Int)] := by simp [grps, List.range_succ]
def vlen : Value → Nat
  | .slice _ n _ => n
  | _ => 0
theorem ownsRow_vlen {w : World} {B n s : Nat} {e : TypeId} {v : Value} {xs : List Value} (h : w.ownsRow B e s v n xs) : vlen v = n := by
  obtain ⟨_, ⟨rfl, rfl⟩ | ⟨g, cap, cur, rfl, _⟩⟩ := h <;> rfl
theorem owns_form {w : World} {B n : Nat} {e : TypeId} {v : Value} {xs : List Value} (h : w.ownsRow B e 1 v n xs) (hn : 0 < n) : ∃ g cap, v = .slice (some ⟨g, 0, none⟩) n cap ∧ B ≤ g ∧ g < w.heap.size ∧ n ≤ cap ∧ cap ≤ maxLen ∧ ∀ i, i < n → w.cell? ⟨g, i, none⟩ = xs[i]? := by
  have h' := h
  obtain ⟨_, ⟨rfl, rfl⟩ | ⟨g, cap, cur, rfl, hg, hh, h1, h2, _⟩⟩ := h
  · omega
  · exact ⟨g, cap, rfl, hg, (Array.getElem?_eq_some_iff.1 hh).1, h1, h2, fun i hi => World.ownsRow.cellAt h' i (by omega)⟩
theorem Nt.grown {N : Nat} {w w' : World} {a : Option Addr} {n cap m : Nat} {row : Option Nat} (h : Nt N w a n cap m) (hg : w.grownBy w' row) (hne : ∀ x y, a = some ⟨x, y, none⟩ → row ≠ some x) : Nt N w' a n cap m := by
  obtain ⟨h0, h1, h2, h3⟩ := h
  refine ⟨h0, h1, h2, fun hn => ?_⟩
  obtain ⟨b, off, e, ho, hc⟩ := h3 hn
  have hlt : b < w.heap.size := World.block_lt_of_cell? w _ (hc 0 hn)
  have eb : w'.heap[b]? = w.heap[b]? := hg.block b hlt (fun e2 => hne b off e e2.symm)
  exact ⟨b, off, e, ho.of_block eb, fun i hi => (World.cell?_of_block (w := w) (a := ⟨b, off + i, none⟩) eb).trans (hc i hi)⟩
/-- one round of the first loop -/
theorem grp_step {N B0 m k cr : Nat} {w wr wd w1 : World} {v v2 : Value} {o : Obj} (hn : Nt N wd (some ⟨wr.heap.size, 0, none⟩) (nlen (gq m (k + 1))) cr (gq m (k + 1))) (hb : Below wr.heap.size wr wd) (hbw : Below B0 w wr) (hB : B0 ≤ wr.heap.size)
    (hown : wd.ownsRow B0 51 1 v k (grps m k)) (hlt : ∀ g, v.ownBlock = some g → g < wr.heap.size) (hown2 : w1.ownsRow B0 51 1 v2 (k + 1) (grps m k ++ [.int .u32 ((gq m k % 1000000000 : Nat) : Int)])) (hg : (wd.alloc o).grownBy w1 v.ownBlock) (hat : v2.ownBlock = v.ownBlock ∨ v2.ownBlock = some (wd.alloc o).heap.size) :
    Nt N w1 (some ⟨wr.heap.size, 0, none⟩) (nlen (gq m (k + 1))) cr (gq m (k + 1)) ∧ (∀ x y, (some ⟨wr.heap.size, 0, none⟩ : Option Addr) = some ⟨x, y, none⟩ → v2.ownBlock ≠ some x) ∧ w1.ownsRow B0 51 1 v2 (k + 1) (grps m (k + 1)) ∧ Below B0 w w1 ∧ B0 ≤ w1.heap.size := by
  have hb1 : Below B0 w w1 := ((hbw.trans (hb.mono hB)).alloc (by have := hb.size; omega) o).grown hg (by have := hb.size; simp; omega) (fun g hg' => (hown.lt g hg').1)
  have hb2 : Below B0 wd w1 := ((Below.refl _ _).alloc (by have := hb.size; omega) o).grown hg (by have := hb.size; simp; omega) (fun g hg' => (hown.lt g hg').1)
  refine ⟨(hn.alloc o).grown hg (fun x y e h => ?_), fun x y e h => ?_, by rw [grps_succ]; exact hown2, hb1, by have := hb2.size; have := hb.size; omega⟩
  · have := hlt x h
    simp only [Option.some.injEq, Addr.mk.injEq] at e
    omega
  · simp only [Option.some.injEq, Addr.mk.injEq] at e
    rcases hat with h2 | h2
    · have := hlt x (h2 ▸ h); omega
    · rw [h] at h2; have := hb.size; simp at h2; omega
theorem own_below {w w' : World} {B n s : Nat} {e : TypeId} {v : Value} {xs : List Value} (h : w.ownsRow B e s v n xs) (hb : Below w.heap.size w w') : w'.ownsRow B e s v n xs :=
  h.kept (row := none) ⟨hb.os, hb.tape, hb.output, hb.size, fun k h _ => hb.block k h⟩ (by rcases v.ownBlock with _ | x <;> simp)
/-- it returns a string that is not empty: of a number below 1000000000 its numeral -/
def PrPost (m : Nat) (w : World) (e : Ending) (w' : World) : Prop := ∃ l : List UInt8, e = .returned (.string ⟨l.toArray⟩) ∧ 0 < l.length ∧ l.length ≤ 8796093022208 ∧ (m < 1000000000 → l = Lib.decDigits m) ∧ Below w.heap.size w w'
theorem dec_len (u : Nat) (hu : u < 18446744073709551616) : 0 < (Lib.decDigits u).length ∧ (Lib.decDigits u).length ≤ 20 := by
  rw [Lib.decDigits_length]
  by_cases h : u = 0
  · subst h; rw [Lib.nDigits_small (by omega)]; omega
  · have := Lib.numDigits_eq u (by omega) hu; have := Lib.nDigits_pos u; constructor
    · omega
    · have h2 := Lib.numDigits_eq u (by omega) hu; split at h2 <;> omega
theorem dec_zero : Lib.decDigits 0 = [48] := by rw [Lib.decDigits_one (by omega)]; rfl
theorem bytes_app (l : List UInt8) (b : UInt8) : Lib.byteCells (l ++ [b]) = Lib.byteCells l ++ [.int .u8 (b.toNat : Int)] := by simp [Lib.byteCells]
theorem bytes_str (l s : List UInt8) : Lib.byteCells l ++ Lib.strCells ⟨s.toArray⟩ = Lib.byteCells (l ++ s) := by simp [Lib.byteCells, Lib.strCells]
theorem own_bytes {w : World} {B : Nat} {v : Value} {l : List UInt8} (h : w.ownsRow B 5 1 v l.length (Lib.byteCells l)) (hl : 0 < l.length) : ∃ cap, ∃ g, v = .slice (some ⟨g, 0, none⟩) l.length cap ∧ (convert 107 9 (.slice (some ⟨g, 0, none⟩) l.length cap)).run Tryd.prog w = .ok (.string ⟨l.toArray⟩) w := by
  obtain ⟨g, cap, e, _, _, _, _, hc⟩ := owns_form h hl
  refine ⟨cap, g, e, run_convert_bytes_back (P := Tryd.prog) w 107 9 5 ⟨g, 0, none⟩ cap l Tryd.underlying107 Tryd.underlying5 Tryd.underlying9 (fun j hj => ?_)⟩
  rw [Lib.add_plain, Nat.zero_add, hc j hj]
  simp [Lib.byteCells, hj]

theorem Tryd.infoU8 : (Tryd.prog.info? 5).map (fun i => (i.zero, i.size, i.bytes)) = some (some (.int .u8 0), 1, 1) := by kernel_rfl

set_option maxHeartbeats 8000000 in
set_option maxRecDepth 100000 in
theorem natPrint_any {N : Nat} (a : Option Addr) (n cap m : Nat) (w : World) (h : Nt N w a n cap m) (hl : n ≤ 68719476736) (htab : TabW w) :
    Calls Tryd.prog 32 #[.slice a n cap] w (PrPost m w) := by
  have HA := Lib.hid h
  have HT := Lib.hid h.trim
  have HTab := Lib.hid htab
  have hlen := h.len
  have hng := ng_len m
  clear h htab
  by_cases h0 : m = 0
  · subst h0
    have hz0 : nlen 0 = 0 := nlen_zero
    rw [hz0] at HT hlen
    clear hlen hng
    go_enter Tryd.func32, Tryd.ntmps32
    go_wp2_with fail
    refine (trim_any _ _ _ _ _ HA.out).mono ?_
    rw [hz0]
    rintro e w' ⟨rfl, rfl⟩
    go_wp2_with fail
    go_ret
    exact ⟨[48], rfl, by decide, by decide, fun _ => dec_zero.symm, Below.refl _ _⟩
  · have hpos : 0 < nlen m := by rcases Nat.eq_zero_or_pos (nlen m) with e | e; (· exact absurd (nlen_eq_zero.1 e) h0); (· exact e)
    have hz : ((nlen m : Int) == 0) = false := by simp; omega
    have hng0 : 0 < ng m := by rw [ng_pos h0]; omega
    obtain ⟨i0, hi, hy0, hy1, hy2⟩ := info_parts Tryd.infoU32
    obtain ⟨i8, hj, hx0, hx1, hx2⟩ := info_parts Tryd.infoU8
    go_enter Tryd.func32, Tryd.ntmps32
    go_wp2_with fail
    refine (trim_any _ _ _ _ _ HA.out).mono ?_
    rintro e w' ⟨rfl, rfl⟩
    go_wp2_with fail
    go_loopw [3, 4] (fun r v wr => ∃ (k : Nat) (b : Option Addr) (cb : Nat), k ≤ ng m ∧ r = .slice b (nlen (gq m k)) cb ∧ Nt N wr b (nlen (gq m k)) cb (gq m k) ∧ (∀ x y, b = some ⟨x, y, none⟩ → v.ownBlock ≠ some x) ∧ wr.ownsRow w.heap.size 51 1 v k (grps m k) ∧ Below w.heap.size w wr ∧ w.heap.size ≤ wr.heap.size) (fun _ v _ => ng m - vlen v)
    case atStart => exact ⟨0, a, cap, Nat.zero_le _, by rw [gq_zero], by rw [gq_zero]; exact HT.out, (fun x y _ h => by cases h), World.ownsRow_nil _ _ _ _, Below.refl _ _, Nat.le_refl _⟩
    case round =>
      obtain ⟨k, b, cb, hk, rfl, hn, hap, hown, hbel, hsz⟩ := hrel
      have hql := gq_len m k
      have HN := Lib.hid hn
      have HO := Lib.hid hown
      have HB := Lib.hid hbel
      clear hn hown hbel hap
      by_cases hq : gq m k = 0
      · have hk2 : k = ng m := by have := ng_gq m k; rw [hq, ng_zero] at this; omega
        have e0 : nlen (gq m k) = 0 := by rw [hq]; exact nlen_zero
        rw [e0]
        obtain ⟨g, capg, rfl, hg1, hg2, hg3, hg4, hcell⟩ := owns_form HO.out (by omega)
        unfold maxLen at hg4
        have hlast := hcell (k - 1) (by omega)
        rw [show (grps m k)[k - 1]? = some (.int .u32 ((gq m (k - 1) % 1000000000 : Nat) : Int)) by simp [grps, show k - 1 < k by omega]] at hlast
        have HCell := Lib.hid hcell
        have hz1 : ((k : Int) - 1).toNat = k - 1 := by omega
        have hh1 : (0 : Int) ≤ (k : Int) - 1 := by omega
        obtain ⟨u, hu⟩ : ∃ u, gq m (k - 1) % 1000000000 = u := ⟨_, rfl⟩
        rw [hu] at hlast
        have hu9 : u < 1000000000 := by rw [← hu]; exact Nat.mod_lt _ (by decide)
        have HOne := Lib.hid (show k = 1 → Lib.decDigits u = Lib.decDigits m by
          intro h1; rw [← hu, h1]; show Lib.decDigits (gq m 0 % 1000000000) = _
          rw [gq_zero, Nat.mod_eq_of_lt]
          have : gq m 1 = 0 := by rw [← h1]; exact hq
          rw [gq_succ, gq_zero] at this
          omega)
        have HNine := Lib.hid (show m < 1000000000 → k = 1 by
          intro h1
          have : ng m ≤ 1 := ng_le (by simpa [G9] using h1)
          omega)
        have hkb : k ≤ 137438953472 := by omega
        clear hcell hu hq e0 HN hql hk2 hng hz
        obtain ⟨wg, rfl⟩ : ∃ wg : World, wg = wr := ⟨_, rfl⟩
        go_wp2_with fail
        refine (appU_any u (by omega) _ (HTab.out.below HB.out)).mono ?_
        rintro e wa ⟨t, rfl, ht, hb⟩
        obtain ⟨d1, d2⟩ := dec_len u (by omega)
        have HTx := Lib.hid ht
        have HBa := Lib.hid hb
        have hsa := hb.size
        clear ht hb hlast
        go_wp2_with fail
        go_loopw [6, 7] (fun t i wq => ∃ (j : Nat) (l : List UInt8), j + 1 ≤ k ∧ i = .int .i64 ((j : Int) - 1) ∧ 0 < l.length ∧ l.length ≤ 20 + 40 * (k - 1 - j) ∧ Hid (k = 1 → l = Lib.decDigits m) ∧ wq.ownsRow wg.heap.size 5 1 t l.length (Lib.byteCells l) ∧ Below wg.heap.size wg wq ∧ wg.heap.size ≤ wq.heap.size) (fun _ i _ => (intOf i + 1).toNat)
        case atStart => exact ⟨k - 1, Lib.decDigits u, by omega, i64_congr (by omega), d1, by omega, HOne, HTx.out, HBa.out, hsa⟩
        case round =>
          obtain ⟨j, l, hj1, rfl, hl0, hl1, hone, hot, hbq, hsq⟩ := hrel
          have HOt := Lib.hid hot
          have HBq := Lib.hid hbq
          clear hot hbq
          by_cases hj0 : 0 < j
          · have hcj := cell_mono ((HCell.out (j - 1) (by omega)).trans (show (grps m k)[j - 1]? = some (.int .u32 ((gq m (j - 1) % 1000000000 : Nat) : Int)) by simp [grps, show j - 1 < k by omega])) HBq.out
            obtain ⟨u2, hu2⟩ : ∃ u, gq m (j - 1) % 1000000000 = u := ⟨_, rfl⟩
            rw [hu2] at hcj
            have hu29 : u2 < 1000000000 := by rw [← hu2]; exact Nat.mod_lt _ (by decide)
            have hz2 : ((j : Int) - 1).toNat = j - 1 := by omega
            have hh2 : (0 : Int) ≤ (j : Int) - 1 := by omega
            clear hu2
            go_wp2_with fail
            refine (fmtU_any u2 (by omega) _ ((HTab.out.below HB.out).below HBq.out)).mono ?_
            rintro e wb ⟨s, rfl, hs, hb⟩
            have HBb := Lib.hid hb
            have hsb := hb.size
            have HOb := Lib.hid (own_below HOt.out hb)
            have HBc := Lib.hid (HBq.out.trans (hb.mono hsq))
            clear hb hcj HOt HBb
            have hsl : (ByteArray.size ⟨s.toArray⟩ : Int) = (s.length : Int) := by simp [ByteArray.size]
            obtain ⟨wq, rfl⟩ : ∃ wq : World, wq = wr := ⟨_, rfl⟩
            go_wp2_with fail
            go_loopw [6, 9] (fun t i wz => ∃ (c : Nat) (l2 : List UInt8), i = .int .i64 c ∧ c ≤ 20 ∧ 0 < l2.length ∧ l2.length ≤ l.length + c ∧ wz.ownsRow wg.heap.size 5 1 t l2.length (Lib.byteCells l2) ∧ Below wg.heap.size wg wz ∧ wg.heap.size ≤ wz.heap.size) (fun _ i _ => 9 - (intOf i).toNat)
            case atStart => exact ⟨s.length, l, rfl, hs, hl0, by omega, HOb.out, HBc.out, by omega⟩
            case round =>
              obtain ⟨c, l2, rfl, hc, hl20, hl2, hot2, hbz, hsz2⟩ := hrel
              have HO2 := Lib.hid hot2
              have HBz := Lib.hid hbz
              clear hot2 hbz
              by_cases hc9 : c < 9
              · go_wp2_with (at_builtin; refine wpList_append_own _ rfl _ _ 107 rfl wg.heap.size 5 i8 (.int .u8 0) 1 1 Tryd.underlying107 hj hx0 hx1 hx2 rfl (by decide) _ _ _ rfl (HO2.out.alloc _) ⟨wr.heap.size, 0, none⟩ 1 1 [.int .u8 48] rfl rfl (cell_one_new _ _ _) (by intro u hu; simp at hu; subst hu; rfl) (by unfold maxLen; omega) (by omega) (by simp; omega) ?_; intro t2 w1 ht2 hg2 _; have HT2 := Lib.hid ht2; have HB2 := Lib.hid (show Below wg.heap.size wg w1 from (HBz.out.alloc hsz2 _).grown hg2 (by simp; omega) (fun x hx => (HO2.out.lt x hx).1)); clear ht2 hg2)
                go_roundw
                case rel => exact ⟨c + 1, l2 ++ [48], by go_num, by omega, by simp, by simp; omega, by rw [bytes_app, List.length_append]; exact HT2.out, HB2.out, HB2.out.size⟩
                case measure => simp [intOf]; omega
              · go_wp2_with (at_builtin; refine Lib.wpList_append_own_string _ rfl _ _ 107 9 rfl wg.heap.size 5 i8 Tryd.underlying107 Tryd.underlying9 hj hx0 hx1 hx2 _ _ _ rfl HO2.out ⟨s.toArray⟩ rfl (by unfold maxLen; simp [ByteArray.size]; omega) (by simp [ByteArray.size]; omega) (by omega) ?_; intro t2 w1 ht2 hg2 _; have HT2 := Lib.hid (show w1.ownsRow wg.heap.size 5 1 t2 (l2 ++ s).length (Lib.byteCells (l2 ++ s)) by rw [← bytes_str, List.length_append]; simpa [ByteArray.size] using ht2); have HB2 := Lib.hid (show Below wg.heap.size wg w1 from HBz.out.grown hg2 hsz2 (fun x hx => (HO2.out.lt x hx).1)); clear ht2 hg2)
                go_roundw
                case rel => exact ⟨j - 1, l2 ++ s, by omega, i64_congr (by omega), by simp; omega, by simp; omega, fun h1 => by omega, HT2.out, HB2.out, HB2.out.size⟩
                case measure => simp [intOf]; omega
          · obtain rfl : j = 0 := by omega
            obtain ⟨capt, gt, rfl, hcv⟩ := own_bytes HOt.out hl0
            have HBf := Lib.hid (HB.out.trans (HBq.out.mono hsz))
            go_wp2_with fail
            go_ret
            exact ⟨l, rfl, hl0, by omega, fun h1 => hone.out (HNine.out h1), HBf.out⟩
      · have hk2 : k < ng m := by
          have h1 := ng_gq m k
          have h2 : ng (gq m k) ≠ 0 := fun h => hq (ng_eq_zero.1 h)
          omega
        have hp : 0 < nlen (gq m k) := by rcases Nat.eq_zero_or_pos (nlen (gq m k)) with e | e; (· exact absurd (nlen_eq_zero.1 e) hq); (· exact e)
        have hlt := Lib.hid (fun x hx => (HO.out.lt x hx).2)
        obtain ⟨wg, rfl⟩ : ∃ wg : World, wg = wr := ⟨_, rfl⟩
        clear hq
        go_wp2_with fail
        refine (divLimb_fr (N := N) _ _ _ (gq m k) 1000000000 _ HN.out (by omega) (by decide) (by decide)).mono ?_
        rw [← gq_succ]
        rintro e wd ⟨r, cr, rfl, hn, hb, rfl⟩
        have HN2 := Lib.hid hn
        have HBd := Lib.hid hb
        have HO2 := Lib.hid (own_below HO.out hb)
        have hsd := hb.size
        have hu9 : gq m k % 1000000000 < 1000000000 := Nat.mod_lt _ (by decide)
        clear hn hb
        go_wp2_with (at_builtin; refine wpList_append_own_at _ rfl _ _ 25 rfl w.heap.size 51 i0 (.int .u32 0) 1 4 Tryd.underlying25 hi hy0 hy1 hy2 rfl (by decide) _ _ _ rfl (HO2.out.alloc _) ⟨wd.heap.size, 0, none⟩ 1 1 [.int .u32 ((gq m k % 1000000000 : Nat) : Int)] rfl rfl (cell_one_new _ _ _) (by intro u hu; simp at hu; subst hu; rfl) (by unfold maxLen; omega) (by omega) (by simp; omega) ?_; intro v2 w1 hv2 hg2 _ hat2; have R := Lib.hid (grp_step HN2.out HBd.out HB.out hsz HO2.out hlt.out hv2 hg2 hat2); clear hv2 hg2 hat2)
        go_roundw
        case rel => exact ⟨k + 1, some ⟨wg.heap.size, 0, none⟩, cr, by omega, rfl, R.out.1, R.out.2.1, R.out.2.2.1, R.out.2.2.2.1, R.out.2.2.2.2⟩
        case measure =>
          have e1 := ownsRow_vlen HO.out
          have e2 := ownsRow_vlen R.out.2.2.1
          rw [e1, e2]; omega

end Go.Proofs.YtnillajhhimeiaaDoor
