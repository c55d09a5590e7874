/- strconv.FormatUint and AppendUint at base 10, where the table of powers of ten is laid; nat.divLimb with the place of its quotient. nat.Print: for all numbers of at most 2^36 limbs it returns a string that is not empty; of a number below 1000000000 its decimal numeral. integer.Print and ratio.Print: for all numbers of at most 2^36 limbs in a part a string that is not empty; of small numbers the numerals. -/
import Derived.Test.YtmecipfdelgfbaaDoorShelfB
import Derived.Test.YtmecipfdelgfbaaDoorJoR1
import Derived.Maps.AppendAt
import Derived.Lib.AppendStr
import Derived.Lib.AppendIntMem
namespace Go.Proofs.YtmecipfdelgfbaaDoor
open Go.RowKit Go.Sort

/-- the table of powers of ten lies as the program's text lays it -/
def TabW (w : World) : Prop := Lib.TabIs Tryd.prog w "internal/strconv.uint64pow10" .u64 Lib.pow10Tab
theorem TabW.below {w w' : World} (h : TabW w) (hb : Below w.heap.size w w') : TabW w' := by
  unfold TabW Lib.TabIs World.var? at *
  cases hg : Tryd.prog.globalNamed "internal/strconv.uint64pow10" with
  | none => simp [hg] at h
  | some g =>
    simp only [hg, Option.bind_some] at h ⊢
    have hlt : g < w.heap.size := by
      rcases Nat.lt_or_ge g w.heap.size with h' | h'
      · exact h'
      · rw [Array.getElem?_eq_none h'] at h; simp at h
    rw [hb.block g hlt]
    exact h

set_option maxHeartbeats 1000000 in
theorem divLimb_fr {N : Nat} (a : Option Addr) (n cap m d : Nat) (w : World) (h : Nt N w a n cap m) (hl : n ≤ 1099511627776) (hd : 0 < d) (hdB : d < 4294967296) :
    Calls Tryd.prog 73 #[.slice a n cap, .int .u32 d] w fun e w' => ∃ r cr, e = .returned (.tuple #[.slice r (nlen (m / d)) cr, .int .u32 (m % d : Nat)]) ∧ Nt N w' r (nlen (m / d)) cr (m / d) ∧ Below w.heap.size w w' ∧ r = some ⟨w.heap.size, 0, none⟩ := by
  have H := Lib.hid h
  clear h
  have hmk := run_make_row' (P := Tryd.prog) 24 97 (.int .u32 0) 4 Tryd.underNat Tryd.infoU32 rfl .i64 .i64 n (by omega) (by omega)
  go_enter Tryd.func73, Tryd.ntmps73
  go_wp2_with fail
  go_loopw [7, 8] (fun c i wr => ∃ k : Nat, k ≤ n ∧ i = .int .i64 ((k : Int) - 1) ∧ c = .int .u64 (rst m d k) ∧ wr.rowIs w.heap.size 97 n (divRow (m / d) k) ∧ Below w.heap.size w wr) (fun _ i _ => (intOf i + 1).toNat)
  case atStart => exact ⟨n, Nat.le_refl _, rfl, by rw [rst_top m d n H.out.2.2.1 hd]; rfl, (World.rowIs_made _ _ _ _).congr (fun i hi => by simp only [divRow]; rw [if_neg (by omega)]; rfl), (Below.refl _ _).alloc (Nat.le_refl _) _⟩
  case round =>
    obtain ⟨k, hk, rfl, rfl, hrow, hbel⟩ := hrel
    have d3 := rst_lt m d k hd
    by_cases hk0 : 0 < k
    · obtain ⟨b1, o1, rfl, _, hc1⟩ := H.out.2.2.2 (by omega)
      have hcell1 := (hbel.cell (p := ⟨b1, o1 + (k - 1), none⟩) (World.block_lt_of_cell? w _ (hc1 (k - 1) (by omega)))).trans (hc1 (k - 1) (by omega))
      clear hc1
      have hput := hrow.cell (i := k - 1) (by omega)
      have hfz := hrow.frozen (k - 1)
      have hz1 : ((k : Int) - 1).toNat = k - 1 := by omega
      have hh1 : (0 : Int) ≤ (k : Int) - 1 := by omega
      have d1 := dig_lt' m (k - 1)
      have hor := or_u64 (rst m d k) (dig m (k - 1)) (by omega) d1
      have HR := Lib.hid hrow
      have HBel := Lib.hid hbel
      clear hrow hbel hmk
      go_wp2
      go_roundw
      case rel =>
        have e : k - 1 + 1 = k := by omega
        have q1 := quo_int m d (k - 1) hd hdB
        have q2 := rst_int m d (k - 1) hd
        rw [e] at q1 q2
        exact ⟨k - 1, by omega, i64_congr (by omega), u64_congr q2, divRow_step (by rw [e]; exact HR.out) q1, HBel.out.setCell (Nat.le_refl _) _⟩
      case measure => simp [intOf]; omega
    · obtain rfl : k = 0 := by omega
      have HL := Lib.hid (Nat.lt_of_le_of_lt (Nat.div_le_self m d) H.out.2.2.1)
      have HR := Lib.hid hrow
      have HBel := Lib.hid hbel
      have HZ := Lib.hid (rst_zero m d)
      clear hrow hbel hmk
      go_wp2_with fail
      have hnt := Nt.of_row (N := N) HR.out (by unfold maxLen; omega) HL.out (fun i hi => by simp [divRow])
      refine (trim_any _ _ _ _ _ hnt).mono ?_
      rintro e w' ⟨rfl, rfl⟩
      have HN := Lib.hid hnt.trim
      clear hnt
      go_wp2_with fail
      go_ret2
      rw [HZ.out]
      exact ⟨_, _, rfl, HN.out, HBel.out, rfl⟩


/-- it returns a string of at most 20 bytes -/
def FmtPost (w : World) (e : Ending) (w' : World) : Prop := ∃ l : List UInt8, e = .returned (.string ⟨l.toArray⟩) ∧ l.length ≤ 20 ∧ Below w.heap.size w w'
theorem len_small (u : Nat) (hu : u < 100) : (Lib.decDigits u).length ≤ 20 := by
  rw [Lib.decDigits_length]
  by_cases h : u = 0
  · subst h; rw [Lib.nDigits_small (by omega)]; omega
  · have := Lib.numDigits_eq u (by omega) (by omega); split at this <;> omega

set_option maxHeartbeats 6400000 in
set_option maxRecDepth 100000 in
theorem fmtU_in (u : Nat) (hu64 : u < 18446744073709551616) (w : World) (htab : TabW w) :
    Calls Tryd.prog 82 #[.int .u64 u, .int .i64 10] w (FmtPost w) := by
  by_cases hu : u < 100
  · have HL := Lib.hid (len_small u hu)
    go_enter Tryd.func82, Tryd.ntmps82
    go_wp2_with fail
    refine (Tryd.internal_strconv_small u hu _).mono ?_
    rintro e w' ⟨rfl, rfl⟩
    go_wp2_with fail
    go_ret
    exact ⟨_, rfl, HL.out, Below.refl _ _⟩
  · have hu1 : 1 ≤ u := by omega
    have hnd20 : Lib.nDigits u ≤ 20 := by have := Lib.numDigits_eq u hu1 hu64; split at this <;> omega
    have hal : Tryd.prog.arrayLen 132 = 24 := by simp [Program.arrayLen, Tryd.underlying132]
    have hsl : ∀ W, (Instr.sliceAt 132 (.pointer (some ⟨w.heap.size, 0, none⟩)) none (some (.int .i64 (Lib.nDigits u : Int))) none).run Tryd.prog W = .ok (.slice (some ⟨w.heap.size, 0, none⟩) (Lib.nDigits u) 24) W := fun W => by
      rw [run_sliceAt_array_h W 132 ⟨w.heap.size, 0, none⟩ (by simp [Program.arrayLen, Program.elem, Tryd.underlying132]) .i64 (Lib.nDigits u : Int) (by omega) (by rw [hal]; omega)]
      go_simp
    have hH0 := Lib.holds_zero0 w 132 (Lib.nDigits u) (by omega)
    have hfmt := Tryd.internal_strconv_formatBase10 w.heap.size 0 24 u (Array.replicate (Lib.nDigits u) 0) (w.alloc (.cells Lib.zeros24 132)) hH0 (by rw [Array.size_replicate]; exact Lib.lt_pow_nDigits u) hu64 (by rw [Array.size_replicate]; omega)
    rw [Array.size_replicate] at hfmt
    have HH0 := Lib.hid hH0
    have HFM := Lib.hid hfmt
    have HTAB := Lib.hid htab
    have iu : (100 : Int) ≤ (u : Int) := by omega
    clear hH0 hal hfmt htab
    go_enter Tryd.func82, Tryd.ntmps82
    go_wp2_with fail
    refine (Tryd.internal_strconv_numDigits u hu1 hu64 _ (Lib.tabIs_alloc HTAB.out _)).mono ?_
    rintro e w' ⟨rfl, rfl⟩
    go_wp2_with fail
    refine HFM.out.mono ?_
    rintro e w' ⟨rfl, k, v', dk, rfl, hF⟩
    have hcells : ∀ j (hj : j < (Lib.decDigits u).length), ((putRow (fun (b : UInt8) => Value.int .u8 (b.toNat : Int)) (w.alloc (.cells Lib.zeros24 132)) w.heap.size 0 dk).drewN k).cell? ((⟨w.heap.size, 0, none⟩ : Addr).add j) = some (.int .u8 ((Lib.decDigits u)[j].toNat : Int)) := by
      intro j hjl
      rw [Lib.row_is_numeral hF j hjl, Lib.add_plain, World.cell?_drewN]
      exact cell?_putRow (fun (b : UInt8) => Value.int .u8 (b.toNat : Int)) _ w.heap.size 0 _ dk HH0.out (by rw [hF.size, Array.size_replicate]) j (by rw [hF.size]; rw [Lib.decDigits_length] at hjl; exact hjl)
    obtain ⟨os, eo⟩ := Lib.fin_at w (.cells Lib.zeros24 132) dk k 0
    have hnx2 : Below w.heap.size w ((putRow (fun (b : UInt8) => Value.int .u8 (b.toNat : Int)) (w.alloc (.cells Lib.zeros24 132)) w.heap.size 0 dk).drewN k) := by rw [eo]; exact Lib.below_grow w.heap.size w (Nat.le_refl _) k os
    generalize (putRow (fun (b : UInt8) => Value.int .u8 (b.toNat : Int)) (w.alloc (.cells Lib.zeros24 132)) w.heap.size 0 dk).drewN k = W2 at hcells hnx2 ⊢
    have hcv : (convert 118 9 (.slice (some ⟨w.heap.size, 0, none⟩) (Lib.nDigits u) 24)).run Tryd.prog W2 = .ok (.string ⟨(Lib.decDigits u).toArray⟩) W2 := by
      have h := run_convert_bytes_back (P := Tryd.prog) W2 118 9 5 ⟨w.heap.size, 0, none⟩ 24 (Lib.decDigits u) Tryd.underlying118 Tryd.underlying5 Tryd.underlying9 hcells
      rw [Lib.decDigits_length] at h
      exact h
    have HNX := Lib.hid hnx2
    clear eo HH0 hcells hnx2 HFM hF
    go_wp2_with fail
    go_ret
    exact ⟨_, rfl, by rw [Lib.decDigits_length]; exact hnd20, HNX.out⟩

theorem fmtU_any (u : Nat) (hu64 : u < 18446744073709551616) (w : World) (htab : TabW w) :
    Calls Tryd.prog 75 #[.int .u64 u, .int .i64 10] w (FmtPost w) := by
  have HT := Lib.hid htab
  clear htab
  go_enter Tryd.func75, Tryd.ntmps75
  go_wp2_with fail
  refine (fmtU_in u hu64 _ HT.out).mono ?_
  rintro e w' ⟨l, rfl, hl, hb⟩
  have HB := Lib.hid hb
  clear hb
  go_wp2_with fail
  go_ret
  exact ⟨_, rfl, hl, HB.out⟩
theorem appU_any (u : Nat) (hu64 : u < 18446744073709551616) (w : World) (htab : TabW w) :
    Calls Tryd.prog 74 #[.slice none 0 0, .int .u64 u, .int .i64 10] w fun e w' => ∃ v', e = .returned v' ∧ w'.ownsRow w.heap.size 5 1 v' (Lib.decDigits u).length (Lib.byteCells (Lib.decDigits u)) ∧ Below w.heap.size w w' := by
  have HT := Lib.hid htab
  have HO := Lib.hid (World.ownsRow_nil w w.heap.size 5 1)
  clear htab
  go_enter Tryd.func74, Tryd.ntmps74
  go_wp2_with fail
  refine (Tryd.internal_strconv_AppendUint_10 w.heap.size 0 u hu64 _ [] _ HO.out (Nat.le_refl _) (by omega) HT.out).mono ?_
  rintro e w' ⟨v', rfl, ho, hb, _⟩
  rw [Nat.zero_add, List.nil_append] at ho
  have HW := Lib.hid ho
  have HB := Lib.hid hb
  clear ho hb
  go_wp2_with fail
  go_ret
  exact ⟨_, rfl, HW.out, HB.out⟩

end Go.Proofs.YtmecipfdelgfbaaDoor

namespace Go.Proofs.YtmecipfdelgfbaaDoor
open Go.RowKit Go.Sort

/-! ### Groups of nine digits -/
def G9 : Nat := 1000000000
def gq (m k : Nat) : Nat := m / G9 ^ k
def ng (m : Nat) : Nat := if h : m = 0 then 0 else ng (m / G9) + 1
termination_by m
decreasing_by exact Nat.div_lt_self (Nat.pos_of_ne_zero h) (by decide)
theorem ng_zero : ng 0 = 0 := by unfold ng; simp
theorem ng_pos {m : Nat} (h : m ≠ 0) : ng m = ng (m / G9) + 1 := by rw [ng]; simp [h]
theorem gq_zero (m : Nat) : gq m 0 = m := by simp [gq]
theorem gq_succ (m k : Nat) : gq m (k + 1) = gq m k / 1000000000 := by unfold gq; rw [Nat.pow_succ, Nat.div_div_eq_div_mul]; rfl
theorem ng_div (m : Nat) : ng (m / G9) = ng m - 1 := by
  by_cases h : m = 0
  · subst h; rw [Nat.zero_div, ng_zero]
  · rw [ng_pos h]; omega
theorem ng_gq (m : Nat) : ∀ k, ng (gq m k) = ng m - k
  | 0 => by rw [gq_zero]; rfl
  | k + 1 => by rw [gq_succ, show (1000000000 : Nat) = G9 from rfl, ng_div, ng_gq m k]; omega
theorem ng_eq_zero {m : Nat} : ng m = 0 ↔ m = 0 := by
  constructor
  · intro h; by_cases h0 : m = 0
    · exact h0
    · rw [ng_pos h0] at h; omega
  · rintro rfl; exact ng_zero
theorem ng_le : ∀ {k m : Nat}, m < G9 ^ k → ng m ≤ k
  | 0, m, h => by
    have : m = 0 := by simp at h; exact h
    subst this; rw [ng_zero]; omega
  | k + 1, m, h => by
    by_cases h0 : m = 0
    · subst h0; rw [ng_zero]; omega
    · rw [ng_pos h0]
      have := ng_le (k := k) (m := m / G9) ((Nat.div_lt_iff_lt_mul (by decide)).2 (by rwa [Nat.pow_succ] at h))
      omega
theorem ng_len (m : Nat) : ng m ≤ 2 * nlen m := by
  apply ng_le
  refine Nat.lt_of_lt_of_le (lt_pow_nlen m) ?_
  rw [Nat.pow_mul]
  exact Nat.pow_le_pow_left (by decide) _
theorem gq_len (m k : Nat) : nlen (gq m k) ≤ nlen m := nlen_mono (Nat.div_le_self _ _)
def grps (m k : Nat) : List Value := (List.range k).map fun i => .int .u32 ((gq m i % 1000000000 : Nat) : Int)
theorem grps_succ (m k : Nat) : grps m (k + 1) = grps m k ++ [.int .u32 ((gq m k % 1000000000 : Nat) : Int)] := by simp [grps, List.range_succ]
def vlen : Value → Nat
  | .slice _ n _ => n
  | _ => 0
theorem ownsRow_vlen {w : World} {B n s : Nat} {e : TypeId} {v : Value} {xs : List Value} (h : w.ownsRow B e s v n xs) : vlen v = n := by
  obtain ⟨_, ⟨rfl, rfl⟩ | ⟨g, cap, cur, rfl, _⟩⟩ := h <;> rfl
theorem owns_form {w : World} {B n : Nat} {e : TypeId} {v : Value} {xs : List Value} (h : w.ownsRow B e 1 v n xs) (hn : 0 < n) : ∃ g cap, v = .slice (some ⟨g, 0, none⟩) n cap ∧ B ≤ g ∧ g < w.heap.size ∧ n ≤ cap ∧ cap ≤ maxLen ∧ ∀ i, i < n → w.cell? ⟨g, i, none⟩ = xs[i]? := by
  have h' := h
  obtain ⟨_, ⟨rfl, rfl⟩ | ⟨g, cap, cur, rfl, hg, hh, h1, h2, _⟩⟩ := h
  · omega
  · exact ⟨g, cap, rfl, hg, (Array.getElem?_eq_some_iff.1 hh).1, h1, h2, fun i hi => World.ownsRow.cellAt h' i (by omega)⟩
theorem Nt.grown {N : Nat} {w w' : World} {a : Option Addr} {n cap m : Nat} {row : Option Nat} (h : Nt N w a n cap m) (hg : w.grownBy w' row) (hne : ∀ x y, a = some ⟨x, y, none⟩ → row ≠ some x) : Nt N w' a n cap m := by
  obtain ⟨h0, h1, h2, h3⟩ := h
  refine ⟨h0, h1, h2, fun hn => ?_⟩
  obtain ⟨b, off, e, ho, hc⟩ := h3 hn
  have hlt : b < w.heap.size := World.block_lt_of_cell? w _ (hc 0 hn)
  have eb : w'.heap[b]? = w.heap[b]? := hg.block b hlt (fun e2 => hne b off e e2.symm)
  exact ⟨b, off, e, ho.of_block eb, fun i hi => (World.cell?_of_block (w := w) (a := ⟨b, off + i, none⟩) eb).trans (hc i hi)⟩
/-- one round of the first loop -/
theorem grp_step {N B0 m k cr : Nat} {w wr wd w1 : World} {v v2 : Value} {o : Obj} (hn : Nt N wd (some ⟨wr.heap.size, 0, none⟩) (nlen (gq m (k + 1))) cr (gq m (k + 1))) (hb : Below wr.heap.size wr wd) (hbw : Below B0 w wr) (hB : B0 ≤ wr.heap.size)
    (hown : wd.ownsRow B0 97 1 v k (grps m k)) (hlt : ∀ g, v.ownBlock = some g → g < wr.heap.size) (hown2 : w1.ownsRow B0 97 1 v2 (k + 1) (grps m k ++ [.int .u32 ((gq m k % 1000000000 : Nat) : Int)])) (hg : (wd.alloc o).grownBy w1 v.ownBlock) (hat : v2.ownBlock = v.ownBlock ∨ v2.ownBlock = some (wd.alloc o).heap.size) :
    Nt N w1 (some ⟨wr.heap.size, 0, none⟩) (nlen (gq m (k + 1))) cr (gq m (k + 1)) ∧ (∀ x y, (some ⟨wr.heap.size, 0, none⟩ : Option Addr) = some ⟨x, y, none⟩ → v2.ownBlock ≠ some x) ∧ w1.ownsRow B0 97 1 v2 (k + 1) (grps m (k + 1)) ∧ Below B0 w w1 ∧ B0 ≤ w1.heap.size := by
  have hb1 : Below B0 w w1 := ((hbw.trans (hb.mono hB)).alloc (by have := hb.size; omega) o).grown hg (by have := hb.size; simp; omega) (fun g hg' => (hown.lt g hg').1)
  have hb2 : Below B0 wd w1 := ((Below.refl _ _).alloc (by have := hb.size; omega) o).grown hg (by have := hb.size; simp; omega) (fun g hg' => (hown.lt g hg').1)
  refine ⟨(hn.alloc o).grown hg (fun x y e h => ?_), fun x y e h => ?_, by rw [grps_succ]; exact hown2, hb1, by have := hb2.size; have := hb.size; omega⟩
  · have := hlt x h
    simp only [Option.some.injEq, Addr.mk.injEq] at e
    omega
  · simp only [Option.some.injEq, Addr.mk.injEq] at e
    rcases hat with h2 | h2
    · have := hlt x (h2 ▸ h); omega
    · rw [h] at h2; have := hb.size; simp at h2; omega
theorem own_below {w w' : World} {B n s : Nat} {e : TypeId} {v : Value} {xs : List Value} (h : w.ownsRow B e s v n xs) (hb : Below w.heap.size w w') : w'.ownsRow B e s v n xs :=
  h.kept (row := none) ⟨hb.os, hb.tape, hb.output, hb.size, fun k h _ => hb.block k h⟩ (by rcases v.ownBlock with _ | x <;> simp)
/-- it returns a string that is not empty: of a number below 1000000000 its numeral -/
def PrPost (m : Nat) (w : World) (e : Ending) (w' : World) : Prop := ∃ l : List UInt8, e = .returned (.string ⟨l.toArray⟩) ∧ 0 < l.length ∧ l.length ≤ 8796093022208 ∧ (m < 1000000000 → l = Lib.decDigits m) ∧ Below w.heap.size w w'
theorem dec_len (u : Nat) (hu : u < 18446744073709551616) : 0 < (Lib.decDigits u).length ∧ (Lib.decDigits u).length ≤ 20 := by
  rw [Lib.decDigits_length]
  by_cases h : u = 0
  · subst h; rw [Lib.nDigits_small (by omega)]; omega
  · have := Lib.numDigits_eq u (by omega) hu; have := Lib.nDigits_pos u; constructor
    · omega
    · have h2 := Lib.numDigits_eq u (by omega) hu; split at h2 <;> omega
theorem dec_zero : Lib.decDigits 0 = [48] := by rw [Lib.decDigits_one (by omega)]; rfl
theorem bytes_app (l : List UInt8) (b : UInt8) : Lib.byteCells (l ++ [b]) = Lib.byteCells l ++ [.int .u8 (b.toNat : Int)] := by simp [Lib.byteCells]
theorem bytes_str (l s : List UInt8) : Lib.byteCells l ++ Lib.strCells ⟨s.toArray⟩ = Lib.byteCells (l ++ s) := by simp [Lib.byteCells, Lib.strCells]
theorem own_bytes {w : World} {B : Nat} {v : Value} {l : List UInt8} (h : w.ownsRow B 5 1 v l.length (Lib.byteCells l)) (hl : 0 < l.length) : ∃ cap, ∃ g, v = .slice (some ⟨g, 0, none⟩) l.length cap ∧ (convert 118 9 (.slice (some ⟨g, 0, none⟩) l.length cap)).run Tryd.prog w = .ok (.string ⟨l.toArray⟩) w := by
  obtain ⟨g, cap, e, _, _, _, _, hc⟩ := owns_form h hl
  refine ⟨cap, g, e, run_convert_bytes_back (P := Tryd.prog) w 118 9 5 ⟨g, 0, none⟩ cap l Tryd.underlying118 Tryd.underlying5 Tryd.underlying9 (fun j hj => ?_)⟩
  rw [Lib.add_plain, Nat.zero_add, hc j hj]
  simp [Lib.byteCells, hj]

theorem Tryd.infoU8 : (Tryd.prog.info? 5).map (fun i => (i.zero, i.size, i.bytes)) = some (some (.int .u8 0), 1, 1) := by kernel_rfl

set_option maxHeartbeats 8000000 in
set_option maxRecDepth 100000 in
theorem natPrint_any {N : Nat} (a : Option Addr) (n cap m : Nat) (w : World) (h : Nt N w a n cap m) (hl : n ≤ 68719476736) (htab : TabW w) :
    Calls Tryd.prog 60 #[.slice a n cap] w (PrPost m w) := by
  have HA := Lib.hid h
  have HT := Lib.hid h.trim
  have HTab := Lib.hid htab
  have hlen := h.len
  have hng := ng_len m
  clear h htab
  by_cases h0 : m = 0
  · subst h0
    have hz0 : nlen 0 = 0 := nlen_zero
    rw [hz0] at HT hlen
    clear hlen hng
    go_enter Tryd.func60, Tryd.ntmps60
    go_wp2_with fail
    refine (trim_any _ _ _ _ _ HA.out).mono ?_
    rw [hz0]
    rintro e w' ⟨rfl, rfl⟩
    go_wp2_with fail
    go_ret
    exact ⟨[48], rfl, by decide, by decide, fun _ => dec_zero.symm, Below.refl _ _⟩
  · have hpos : 0 < nlen m := by rcases Nat.eq_zero_or_pos (nlen m) with e | e; (· exact absurd (nlen_eq_zero.1 e) h0); (· exact e)
    have hz : ((nlen m : Int) == 0) = false := by simp; omega
    have hng0 : 0 < ng m := by rw [ng_pos h0]; omega
    obtain ⟨i0, hi, hy0, hy1, hy2⟩ := info_parts Tryd.infoU32
    obtain ⟨i8, hj, hx0, hx1, hx2⟩ := info_parts Tryd.infoU8
    go_enter Tryd.func60, Tryd.ntmps60
    go_wp2_with fail
    refine (trim_any _ _ _ _ _ HA.out).mono ?_
    rintro e w' ⟨rfl, rfl⟩
    go_wp2_with fail
    go_loopw [3, 4] (fun r v wr => ∃ (k : Nat) (b : Option Addr) (cb : Nat), k ≤ ng m ∧ r = .slice b (nlen (gq m k)) cb ∧ Nt N wr b (nlen (gq m k)) cb (gq m k) ∧ (∀ x y, b = some ⟨x, y, none⟩ → v.ownBlock ≠ some x) ∧ wr.ownsRow w.heap.size 97 1 v k (grps m k) ∧ Below w.heap.size w wr ∧ w.heap.size ≤ wr.heap.size) (fun _ v _ => ng m - vlen v)
    case atStart => exact ⟨0, a, cap, Nat.zero_le _, by rw [gq_zero], by rw [gq_zero]; exact HT.out, (fun x y _ h => by cases h), World.ownsRow_nil _ _ _ _, Below.refl _ _, Nat.le_refl _⟩
    case round =>
      obtain ⟨k, b, cb, hk, rfl, hn, hap, hown, hbel, hsz⟩ := hrel
      have hql := gq_len m k
      have HN := Lib.hid hn
      have HO := Lib.hid hown
      have HB := Lib.hid hbel
      clear hn hown hbel hap
      by_cases hq : gq m k = 0
      · have hk2 : k = ng m := by have := ng_gq m k; rw [hq, ng_zero] at this; omega
        have e0 : nlen (gq m k) = 0 := by rw [hq]; exact nlen_zero
        rw [e0]
        obtain ⟨g, capg, rfl, hg1, hg2, hg3, hg4, hcell⟩ := owns_form HO.out (by omega)
        unfold maxLen at hg4
        have hlast := hcell (k - 1) (by omega)
        rw [show (grps m k)[k - 1]? = some (.int .u32 ((gq m (k - 1) % 1000000000 : Nat) : Int)) by simp [grps, show k - 1 < k by omega]] at hlast
        have HCell := Lib.hid hcell
        have hz1 : ((k : Int) - 1).toNat = k - 1 := by omega
        have hh1 : (0 : Int) ≤ (k : Int) - 1 := by omega
        obtain ⟨u, hu⟩ : ∃ u, gq m (k - 1) % 1000000000 = u := ⟨_, rfl⟩
        rw [hu] at hlast
        have hu9 : u < 1000000000 := by rw [← hu]; exact Nat.mod_lt _ (by decide)
        have HOne := Lib.hid (show k = 1 → Lib.decDigits u = Lib.decDigits m by
          intro h1; rw [← hu, h1]; show Lib.decDigits (gq m 0 % 1000000000) = _
          rw [gq_zero, Nat.mod_eq_of_lt]
          have : gq m 1 = 0 := by rw [← h1]; exact hq
          rw [gq_succ, gq_zero] at this
          omega)
        have HNine := Lib.hid (show m < 1000000000 → k = 1 by
          intro h1
          have : ng m ≤ 1 := ng_le (by simpa [G9] using h1)
          omega)
        have hkb : k ≤ 137438953472 := by omega
        clear hcell hu hq e0 HN hql hk2 hng hz
        obtain ⟨wg, rfl⟩ : ∃ wg : World, wg = wr := ⟨_, rfl⟩
        go_wp2_with fail
        refine (appU_any u (by omega) _ (HTab.out.below HB.out)).mono ?_
        rintro e wa ⟨t, rfl, ht, hb⟩
        obtain ⟨d1, d2⟩ := dec_len u (by omega)
        have HTx := Lib.hid ht
        have HBa := Lib.hid hb
        have hsa := hb.size
        clear ht hb hlast
        go_wp2_with fail
        go_loopw [6, 7] (fun t i wq => ∃ (j : Nat) (l : List UInt8), j + 1 ≤ k ∧ i = .int .i64 ((j : Int) - 1) ∧ 0 < l.length ∧ l.length ≤ 20 + 40 * (k - 1 - j) ∧ Hid (k = 1 → l = Lib.decDigits m) ∧ wq.ownsRow wg.heap.size 5 1 t l.length (Lib.byteCells l) ∧ Below wg.heap.size wg wq ∧ wg.heap.size ≤ wq.heap.size) (fun _ i _ => (intOf i + 1).toNat)
        case atStart => exact ⟨k - 1, Lib.decDigits u, by omega, i64_congr (by omega), d1, by omega, HOne, HTx.out, HBa.out, hsa⟩
        case round =>
          obtain ⟨j, l, hj1, rfl, hl0, hl1, hone, hot, hbq, hsq⟩ := hrel
          have HOt := Lib.hid hot
          have HBq := Lib.hid hbq
          clear hot hbq
          by_cases hj0 : 0 < j
          · have hcj := cell_mono ((HCell.out (j - 1) (by omega)).trans (show (grps m k)[j - 1]? = some (.int .u32 ((gq m (j - 1) % 1000000000 : Nat) : Int)) by simp [grps, show j - 1 < k by omega])) HBq.out
            obtain ⟨u2, hu2⟩ : ∃ u, gq m (j - 1) % 1000000000 = u := ⟨_, rfl⟩
            rw [hu2] at hcj
            have hu29 : u2 < 1000000000 := by rw [← hu2]; exact Nat.mod_lt _ (by decide)
            have hz2 : ((j : Int) - 1).toNat = j - 1 := by omega
            have hh2 : (0 : Int) ≤ (j : Int) - 1 := by omega
            clear hu2
            go_wp2_with fail
            refine (fmtU_any u2 (by omega) _ ((HTab.out.below HB.out).below HBq.out)).mono ?_
            rintro e wb ⟨s, rfl, hs, hb⟩
            have HBb := Lib.hid hb
            have hsb := hb.size
            have HOb := Lib.hid (own_below HOt.out hb)
            have HBc := Lib.hid (HBq.out.trans (hb.mono hsq))
            clear hb hcj HOt HBb
            have hsl : (ByteArray.size ⟨s.toArray⟩ : Int) = (s.length : Int) := by simp [ByteArray.size]
            obtain ⟨wq, rfl⟩ : ∃ wq : World, wq = wr := ⟨_, rfl⟩
            go_wp2_with fail
            go_loopw [6, 9] (fun t i wz => ∃ (c : Nat) (l2 : List UInt8), i = .int .i64 c ∧ c ≤ 20 ∧ 0 < l2.length ∧ l2.length ≤ l.length + c ∧ wz.ownsRow wg.heap.size 5 1 t l2.length (Lib.byteCells l2) ∧ Below wg.heap.size wg wz ∧ wg.heap.size ≤ wz.heap.size) (fun _ i _ => 9 - (intOf i).toNat)
            case atStart => exact ⟨s.length, l, rfl, hs, hl0, by omega, HOb.out, HBc.out, by omega⟩
            case round =>
              obtain ⟨c, l2, rfl, hc, hl20, hl2, hot2, hbz, hsz2⟩ := hrel
              have HO2 := Lib.hid hot2
              have HBz := Lib.hid hbz
              clear hot2 hbz
              by_cases hc9 : c < 9
              · go_wp2_with (at_builtin; refine wpList_append_own _ rfl _ _ 118 rfl wg.heap.size 5 i8 (.int .u8 0) 1 1 Tryd.underlying118 hj hx0 hx1 hx2 rfl (by decide) _ _ _ rfl (HO2.out.alloc _) ⟨wr.heap.size, 0, none⟩ 1 1 [.int .u8 48] rfl rfl (cell_one_new _ _ _) (by intro u hu; simp at hu; subst hu; rfl) (by unfold maxLen; omega) (by omega) (by simp; omega) ?_; intro t2 w1 ht2 hg2 _; have HT2 := Lib.hid ht2; have HB2 := Lib.hid (show Below wg.heap.size wg w1 from (HBz.out.alloc hsz2 _).grown hg2 (by simp; omega) (fun x hx => (HO2.out.lt x hx).1)); clear ht2 hg2)
                go_roundw
                case rel => exact ⟨c + 1, l2 ++ [48], by go_num, by omega, by simp, by simp; omega, by rw [bytes_app, List.length_append]; exact HT2.out, HB2.out, HB2.out.size⟩
                case measure => simp [intOf]; omega
              · go_wp2_with (at_builtin; refine Lib.wpList_append_own_string _ rfl _ _ 118 9 rfl wg.heap.size 5 i8 Tryd.underlying118 Tryd.underlying9 hj hx0 hx1 hx2 _ _ _ rfl HO2.out ⟨s.toArray⟩ rfl (by unfold maxLen; simp [ByteArray.size]; omega) (by simp [ByteArray.size]; omega) (by omega) ?_; intro t2 w1 ht2 hg2 _; have HT2 := Lib.hid (show w1.ownsRow wg.heap.size 5 1 t2 (l2 ++ s).length (Lib.byteCells (l2 ++ s)) by rw [← bytes_str, List.length_append]; simpa [ByteArray.size] using ht2); have HB2 := Lib.hid (show Below wg.heap.size wg w1 from HBz.out.grown hg2 hsz2 (fun x hx => (HO2.out.lt x hx).1)); clear ht2 hg2)
                go_roundw
                case rel => exact ⟨j - 1, l2 ++ s, by omega, i64_congr (by omega), by simp; omega, by simp; omega, fun h1 => by omega, HT2.out, HB2.out, HB2.out.size⟩
                case measure => simp [intOf]; omega
          · obtain rfl : j = 0 := by omega
            obtain ⟨capt, gt, rfl, hcv⟩ := own_bytes HOt.out hl0
            have HBf := Lib.hid (HB.out.trans (HBq.out.mono hsz))
            go_wp2_with fail
            go_ret
            exact ⟨l, rfl, hl0, by omega, fun h1 => hone.out (HNine.out h1), HBf.out⟩
      · have hk2 : k < ng m := by
          have h1 := ng_gq m k
          have h2 : ng (gq m k) ≠ 0 := fun h => hq (ng_eq_zero.1 h)
          omega
        have hp : 0 < nlen (gq m k) := by rcases Nat.eq_zero_or_pos (nlen (gq m k)) with e | e; (· exact absurd (nlen_eq_zero.1 e) hq); (· exact e)
        have hlt := Lib.hid (fun x hx => (HO.out.lt x hx).2)
        obtain ⟨wg, rfl⟩ : ∃ wg : World, wg = wr := ⟨_, rfl⟩
        clear hq
        go_wp2_with fail
        refine (divLimb_fr (N := N) _ _ _ (gq m k) 1000000000 _ HN.out (by omega) (by decide) (by decide)).mono ?_
        rw [← gq_succ]
        rintro e wd ⟨r, cr, rfl, hn, hb, rfl⟩
        have HN2 := Lib.hid hn
        have HBd := Lib.hid hb
        have HO2 := Lib.hid (own_below HO.out hb)
        have hsd := hb.size
        have hu9 : gq m k % 1000000000 < 1000000000 := Nat.mod_lt _ (by decide)
        clear hn hb
        go_wp2_with (at_builtin; refine wpList_append_own_at _ rfl _ _ 23 rfl w.heap.size 97 i0 (.int .u32 0) 1 4 Tryd.underlying23 hi hy0 hy1 hy2 rfl (by decide) _ _ _ rfl (HO2.out.alloc _) ⟨wd.heap.size, 0, none⟩ 1 1 [.int .u32 ((gq m k % 1000000000 : Nat) : Int)] rfl rfl (cell_one_new _ _ _) (by intro u hu; simp at hu; subst hu; rfl) (by unfold maxLen; omega) (by omega) (by simp; omega) ?_; intro v2 w1 hv2 hg2 _ hat2; have R := Lib.hid (grp_step HN2.out HBd.out HB.out hsz HO2.out hlt.out hv2 hg2 hat2); clear hv2 hg2 hat2)
        go_roundw
        case rel => exact ⟨k + 1, some ⟨wg.heap.size, 0, none⟩, cr, by omega, rfl, R.out.1, R.out.2.1, R.out.2.2.1, R.out.2.2.2.1, R.out.2.2.2.2⟩
        case measure =>
          have e1 := ownsRow_vlen HO.out
          have e2 := ownsRow_vlen R.out.2.2.1
          rw [e1, e2]; omega

end Go.Proofs.YtmecipfdelgfbaaDoor

namespace Go.Proofs.YtmecipfdelgfbaaDoor
open Go.RowKit Go.Sort

/-- it returns a string that is not empty: of an integer from 0 to 999999999 its numeral -/
def PrPostI (z : Int) (w : World) (e : Ending) (w' : World) : Prop := ∃ l : List UInt8, e = .returned (.string ⟨l.toArray⟩) ∧ 0 < l.length ∧ l.length ≤ 8796093022209 ∧ (0 ≤ z → z.natAbs < 1000000000 → l = Lib.decDigits z.natAbs) ∧ Below w.heap.size w w'
theorem ba_app (l1 l2 : List UInt8) : (⟨l1.toArray⟩ : ByteArray) ++ ⟨l2.toArray⟩ = ⟨(l1 ++ l2).toArray⟩ := by
  apply ByteArray.ext
  simp
theorem zI_sgn (s : Bool) (m : Nat) : decide ((zI s m).sign < 0) = decide (zI s m < 0) := by
  rcases Int.lt_trichotomy (zI s m) 0 with h | h | h
  · rw [Int.sign_eq_neg_one_of_neg h]; simp [h]
  · rw [h]; rfl
  · rw [Int.sign_eq_one_of_pos h]; simp; omega

set_option maxHeartbeats 2000000 in
set_option maxRecDepth 100000 in
theorem intPrint_any {N : Nat} (s : Bool) (a : Option Addr) (n cap m : Nat) (w : World) (hN : N ≤ w.heap.size) (h : Nt N w a n cap m) (hl : n ≤ 68719476736) (htab : TabW w) (z : Int) (hz : zI s m = z) :
    Calls Tryd.prog 58 #[.agg #[.bool s, .slice a n cap]] w (PrPostI z w) := by
  have HA := Lib.hid h
  have HTab := Lib.hid htab
  have hsg := zI_sgn s m
  have hab := zI_abs s m
  rw [hz] at hsg hab
  have HZ := Lib.hid hz
  clear h htab
  by_cases hneg : z < 0
  · have hd : decide (z.sign < 0) = true := by rw [hsg]; simpa using hneg
    clear hsg hz
    have hN0 := hN
    have hs0 : w.heap.size ≤ w.heap.size := Nat.le_refl _
    have HB := Lib.hid (Below.refl w.heap.size w)
    go_enter Tryd.func58, Tryd.ntmps58
    go_wp2_with fail
    refine calls_name fun W0 hW => ?_
    have hs_W0 : w.heap.size ≤ W0.heap.size := by rw [← hW]; (first | omega | (simp; done) | (simp; omega))
    have HK_W0 := Lib.hid (show Kp N w W0 by rw [← hW]; exact KpA)
    have k_R_0 : W0.cell? ⟨w.heap.size, 0, none⟩ = some (.bool s) := by rw [← hW]; (first | (go_simp; done) | (simp; done) | (simp [go_sem]; done) | (simp [go_sem]; done))
    have k_R_1 : W0.cell? ⟨w.heap.size, 1, none⟩ = some (.slice a n cap) := by rw [← hW]; (first | (go_simp; done) | (simp; done) | (simp [go_sem]; done) | (simp [go_sem]; done))
    have f_R : ∀ o, W0.frozen? ⟨w.heap.size, o, none⟩ = false := by intro o; rw [← hW]; (first | (go_simp; done) | (simp; done) | (simp [go_sem]; done) | (simp [go_sem]; done))
    have HX_R := Lib.hid (show Bn W0 (w.heap.size) by rw [← hW]; exact KpA)
    replace HA := Lib.hid (HA.out.keep HK_W0.out)
    replace HB := Lib.hid (show Below w.heap.size w W0 by rw [← hW]; exact BlA)
    replace hN : N ≤ W0.heap.size := by rw [← hW]; (first | omega | (simp; done) | (simp; omega))
    replace hs0 : w.heap.size ≤ W0.heap.size := by rw [← hW]; (first | omega | (simp; done) | (simp; omega))
    have hl_R : w.heap.size < W0.heap.size := by rw [← hW]; (first | omega | (simp; done) | (simp; omega))
    clear hW HK_W0
    refine (isign_any (N := N) _ _ _ _ m _ HA.out).mono ?_; rw [HZ.out]
    rintro e wa ⟨rfl, hb⟩
    have hs_wa : W0.heap.size ≤ wa.heap.size := hb.size
    replace k_R_0 : wa.cell? ⟨w.heap.size, 0, none⟩ = some (.bool s) := (hb.cell (p := ⟨w.heap.size, 0, none⟩) hl_R).trans k_R_0
    replace k_R_1 : wa.cell? ⟨w.heap.size, 1, none⟩ = some (.slice a n cap) := (hb.cell (p := ⟨w.heap.size, 1, none⟩) hl_R).trans k_R_1
    replace f_R : ∀ o, wa.frozen? ⟨w.heap.size, o, none⟩ = false := fun o => (hb.frozen (p := ⟨w.heap.size, o, none⟩) hl_R).trans (f_R o)
    replace HX_R := Lib.hid (HX_R.out.below hb)
    replace HA := Lib.hid (HA.out.below hb)
    replace HB := Lib.hid (HB.out.trans (hb.mono hs0))
    replace hN : N ≤ wa.heap.size := Nat.le_trans hN hb.size
    replace hs0 : w.heap.size ≤ wa.heap.size := Nat.le_trans hs0 hb.size
    replace hl_R : w.heap.size < wa.heap.size := Nat.lt_of_lt_of_le hl_R hb.size
    clear hb
    go_wp2_with fail
    refine (natPrint_any (N := N) _ _ _ m _ HA.out hl (HTab.out.below HB.out)).mono ?_
    rintro e wb ⟨l, rfl, l0, l1, l2, hb⟩
    have hs_wb : wa.heap.size ≤ wb.heap.size := hb.size
    replace k_R_0 : wb.cell? ⟨w.heap.size, 0, none⟩ = some (.bool s) := (hb.cell (p := ⟨w.heap.size, 0, none⟩) hl_R).trans k_R_0
    replace k_R_1 : wb.cell? ⟨w.heap.size, 1, none⟩ = some (.slice a n cap) := (hb.cell (p := ⟨w.heap.size, 1, none⟩) hl_R).trans k_R_1
    replace f_R : ∀ o, wb.frozen? ⟨w.heap.size, o, none⟩ = false := fun o => (hb.frozen (p := ⟨w.heap.size, o, none⟩) hl_R).trans (f_R o)
    replace HX_R := Lib.hid (HX_R.out.below hb)
    replace HA := Lib.hid (HA.out.below hb)
    replace HB := Lib.hid (HB.out.trans (hb.mono hs0))
    replace hN : N ≤ wb.heap.size := Nat.le_trans hN hb.size
    replace hs0 : w.heap.size ≤ wb.heap.size := Nat.le_trans hs0 hb.size
    replace hl_R : w.heap.size < wb.heap.size := Nat.lt_of_lt_of_le hl_R hb.size
    clear hb
    have HL := Lib.hid l2
    clear l2
    go_wp2_with fail
    go_ret
    exact ⟨45 :: l, congrArg (fun x => Ending.returned (Value.string x)) (ba_app [45] l), by simp, by simp; omega, fun h => by omega, HB.out⟩
  · have hd : decide (z.sign < 0) = false := by rw [hsg]; simpa using hneg
    clear hsg hz
    have hN0 := hN
    have hs0 : w.heap.size ≤ w.heap.size := Nat.le_refl _
    have HB := Lib.hid (Below.refl w.heap.size w)
    go_enter Tryd.func58, Tryd.ntmps58
    go_wp2_with fail
    refine calls_name fun W0 hW => ?_
    have hs_W0 : w.heap.size ≤ W0.heap.size := by rw [← hW]; (first | omega | (simp; done) | (simp; omega))
    have HK_W0 := Lib.hid (show Kp N w W0 by rw [← hW]; exact KpA)
    have k_R_0 : W0.cell? ⟨w.heap.size, 0, none⟩ = some (.bool s) := by rw [← hW]; (first | (go_simp; done) | (simp; done) | (simp [go_sem]; done) | (simp [go_sem]; done))
    have k_R_1 : W0.cell? ⟨w.heap.size, 1, none⟩ = some (.slice a n cap) := by rw [← hW]; (first | (go_simp; done) | (simp; done) | (simp [go_sem]; done) | (simp [go_sem]; done))
    have f_R : ∀ o, W0.frozen? ⟨w.heap.size, o, none⟩ = false := by intro o; rw [← hW]; (first | (go_simp; done) | (simp; done) | (simp [go_sem]; done) | (simp [go_sem]; done))
    have HX_R := Lib.hid (show Bn W0 (w.heap.size) by rw [← hW]; exact KpA)
    replace HA := Lib.hid (HA.out.keep HK_W0.out)
    replace HB := Lib.hid (show Below w.heap.size w W0 by rw [← hW]; exact BlA)
    replace hN : N ≤ W0.heap.size := by rw [← hW]; (first | omega | (simp; done) | (simp; omega))
    replace hs0 : w.heap.size ≤ W0.heap.size := by rw [← hW]; (first | omega | (simp; done) | (simp; omega))
    have hl_R : w.heap.size < W0.heap.size := by rw [← hW]; (first | omega | (simp; done) | (simp; omega))
    clear hW HK_W0
    refine (isign_any (N := N) _ _ _ _ m _ HA.out).mono ?_; rw [HZ.out]
    rintro e wa ⟨rfl, hb⟩
    have hs_wa : W0.heap.size ≤ wa.heap.size := hb.size
    replace k_R_0 : wa.cell? ⟨w.heap.size, 0, none⟩ = some (.bool s) := (hb.cell (p := ⟨w.heap.size, 0, none⟩) hl_R).trans k_R_0
    replace k_R_1 : wa.cell? ⟨w.heap.size, 1, none⟩ = some (.slice a n cap) := (hb.cell (p := ⟨w.heap.size, 1, none⟩) hl_R).trans k_R_1
    replace f_R : ∀ o, wa.frozen? ⟨w.heap.size, o, none⟩ = false := fun o => (hb.frozen (p := ⟨w.heap.size, o, none⟩) hl_R).trans (f_R o)
    replace HX_R := Lib.hid (HX_R.out.below hb)
    replace HA := Lib.hid (HA.out.below hb)
    replace HB := Lib.hid (HB.out.trans (hb.mono hs0))
    replace hN : N ≤ wa.heap.size := Nat.le_trans hN hb.size
    replace hs0 : w.heap.size ≤ wa.heap.size := Nat.le_trans hs0 hb.size
    replace hl_R : w.heap.size < wa.heap.size := Nat.lt_of_lt_of_le hl_R hb.size
    clear hb
    go_wp2_with fail
    refine (natPrint_any (N := N) _ _ _ m _ HA.out hl (HTab.out.below HB.out)).mono ?_
    rintro e wb ⟨l, rfl, l0, l1, l2, hb⟩
    have hs_wb : wa.heap.size ≤ wb.heap.size := hb.size
    replace k_R_0 : wb.cell? ⟨w.heap.size, 0, none⟩ = some (.bool s) := (hb.cell (p := ⟨w.heap.size, 0, none⟩) hl_R).trans k_R_0
    replace k_R_1 : wb.cell? ⟨w.heap.size, 1, none⟩ = some (.slice a n cap) := (hb.cell (p := ⟨w.heap.size, 1, none⟩) hl_R).trans k_R_1
    replace f_R : ∀ o, wb.frozen? ⟨w.heap.size, o, none⟩ = false := fun o => (hb.frozen (p := ⟨w.heap.size, o, none⟩) hl_R).trans (f_R o)
    replace HX_R := Lib.hid (HX_R.out.below hb)
    replace HA := Lib.hid (HA.out.below hb)
    replace HB := Lib.hid (HB.out.trans (hb.mono hs0))
    replace hN : N ≤ wb.heap.size := Nat.le_trans hN hb.size
    replace hs0 : w.heap.size ≤ wb.heap.size := Nat.le_trans hs0 hb.size
    replace hl_R : w.heap.size < wb.heap.size := Nat.lt_of_lt_of_le hl_R hb.size
    clear hb
    have HL := Lib.hid l2
    clear l2
    go_wp2_with fail
    go_ret
    exact ⟨l, rfl, l0, by omega, fun _ h2 => by rw [hab]; exact HL.out (by omega), HB.out⟩

/-- the text of a rational number -/
def txt (q : Rat) : List UInt8 := if q.den = 1 then Lib.decDigits q.num.natAbs else Lib.decDigits q.num.natAbs ++ [47] ++ Lib.decDigits q.den
/-- it returns a string that is not empty: the text of small numbers -/
def PrPostR (q : Rat) (w : World) (e : Ending) (w' : World) : Prop := ∃ l : List UInt8, e = .returned (.string ⟨l.toArray⟩) ∧ 0 < l.length ∧ (0 ≤ q.num → q.num.natAbs < 1000000000 → q.den < 1000000000 → l = txt q) ∧ Below w.heap.size w w'
theorem cmpN_one (d : Nat) : (cmpN d 1 == 0) = decide (d = 1) := by
  unfold cmpN
  by_cases h1 : d < 1
  · rw [if_pos h1]; simp; omega
  · rw [if_neg h1]
    by_cases h2 : 1 < d
    · rw [if_pos h2]; simp; omega
    · rw [if_neg h2]; simp; omega

set_option maxHeartbeats 4000000 in
set_option maxRecDepth 100000 in
theorem ratPrint_any {N : Nat} (s : Bool) (a d : Option Addr) (na ca nd cd L : Nat) (q : Rat) (w : World) (hN : N ≤ w.heap.size) (h : Rt N w s a na ca d nd cd q L) (hL : L ≤ 68719476736) (htab : TabW w) :
    Calls Tryd.prog 34 #[.agg #[.bool s, .slice a na ca, .slice d nd cd]] w (PrPostR q w) := by
  have hz := rsz_of h
  unfold rsz at hz
  have H := Lib.hid h
  have HTab := Lib.hid htab
  have hc1 := cmpN_one q.den
  clear h htab
  by_cases hone : q.den = 1
  · have hd : (cmpN q.den 1 == 0) = true := by rw [hc1]; simpa using hone
    have HOne := Lib.hid hone
    clear hc1 hone
    have hN0 := hN
    have hs0 : w.heap.size ≤ w.heap.size := Nat.le_refl _
    have HB := Lib.hid (Below.refl w.heap.size w)
    go_enter Tryd.func34, Tryd.ntmps34
    go_wp2_with fail
    refine calls_name fun W0 hW => ?_
    have hs_W0 : w.heap.size ≤ W0.heap.size := by rw [← hW]; (first | omega | (simp; done) | (simp; omega))
    have HK_W0 := Lib.hid (show Kp N w W0 by rw [← hW]; exact KpA)
    have k_R_0 : W0.cell? ⟨w.heap.size, 0, none⟩ = some (.bool s) := by rw [← hW]; (first | (go_simp; done) | (simp; done) | (simp [go_sem]; done) | (simp [go_sem]; done))
    have k_R_1 : W0.cell? ⟨w.heap.size, 1, none⟩ = some (.slice a na ca) := by rw [← hW]; (first | (go_simp; done) | (simp; done) | (simp [go_sem]; done) | (simp [go_sem]; done))
    have k_R_2 : W0.cell? ⟨w.heap.size, 2, none⟩ = some (.slice d nd cd) := by rw [← hW]; (first | (go_simp; done) | (simp; done) | (simp [go_sem]; done) | (simp [go_sem]; done))
    have f_R : ∀ o, W0.frozen? ⟨w.heap.size, o, none⟩ = false := by intro o; rw [← hW]; (first | (go_simp; done) | (simp; done) | (simp [go_sem]; done) | (simp [go_sem]; done))
    have HX_R := Lib.hid (show Bn W0 (w.heap.size) by rw [← hW]; exact KpA)
    replace H := Lib.hid (H.out.keep HK_W0.out)
    replace HB := Lib.hid (show Below w.heap.size w W0 by rw [← hW]; exact BlA)
    replace hN : N ≤ W0.heap.size := by rw [← hW]; (first | omega | (simp; done) | (simp; omega))
    replace hs0 : w.heap.size ≤ W0.heap.size := by rw [← hW]; (first | omega | (simp; done) | (simp; omega))
    have hl_R : w.heap.size < W0.heap.size := by rw [← hW]; (first | omega | (simp; done) | (simp; omega))
    clear hW HK_W0
    refine (rnorm_any (N := N) _ _ _ _ _ _ _ L q _ hN H.out (by omega)).mono ?_
    rintro e wa ⟨rx, cx, rx2, cx2, rfl, hn, hn', hb⟩
    have hs_wa : W0.heap.size ≤ wa.heap.size := hb.size
    replace k_R_0 : wa.cell? ⟨w.heap.size, 0, none⟩ = some (.bool s) := (hb.cell (p := ⟨w.heap.size, 0, none⟩) hl_R).trans k_R_0
    replace k_R_1 : wa.cell? ⟨w.heap.size, 1, none⟩ = some (.slice a na ca) := (hb.cell (p := ⟨w.heap.size, 1, none⟩) hl_R).trans k_R_1
    replace k_R_2 : wa.cell? ⟨w.heap.size, 2, none⟩ = some (.slice d nd cd) := (hb.cell (p := ⟨w.heap.size, 2, none⟩) hl_R).trans k_R_2
    replace f_R : ∀ o, wa.frozen? ⟨w.heap.size, o, none⟩ = false := fun o => (hb.frozen (p := ⟨w.heap.size, o, none⟩) hl_R).trans (f_R o)
    replace HX_R := Lib.hid (HX_R.out.below hb)
    replace H := Lib.hid (H.out.below hb)
    replace HB := Lib.hid (HB.out.trans (hb.mono hs0))
    replace hN : N ≤ wa.heap.size := Nat.le_trans hN hb.size
    replace hs0 : w.heap.size ≤ wa.heap.size := Nat.le_trans hs0 hb.size
    replace hl_R : w.heap.size < wa.heap.size := Nat.lt_of_lt_of_le hl_R hb.size
    clear hb
    have HP := Lib.hid hn
    clear hn
    have HQ := Lib.hid hn'
    clear hn'
    clear H
    go_wp2_with fail
    refine calls_name fun W1 hW => ?_
    have hs_W1 : wa.heap.size ≤ W1.heap.size := by rw [← hW]; (first | omega | (simp; done) | (simp; omega))
    have HK_W1 := Lib.hid (show Kp N wa W1 by rw [← hW]; exact KpA)
    replace k_R_0 : W1.cell? ⟨w.heap.size, 0, none⟩ = some (.bool (decide ((q).num < 0))) := by rw [← hW]; (first | (go_simp; done) | (simp [go_sem, k_R_0]; done) | (simp [go_sem, k_R_0, k_R_1, k_R_2]; done) | (simp [go_sem, k_R_0, k_R_1, k_R_2, f_R, hl_R]; done))
    replace k_R_1 : W1.cell? ⟨w.heap.size, 1, none⟩ = some (.slice rx (nlen (q).num.natAbs) cx) := by rw [← hW]; (first | (go_simp; done) | (simp [go_sem, k_R_1]; done) | (simp [go_sem, k_R_0, k_R_1, k_R_2]; done) | (simp [go_sem, k_R_0, k_R_1, k_R_2, f_R, hl_R]; done))
    replace k_R_2 : W1.cell? ⟨w.heap.size, 2, none⟩ = some (.slice rx2 (nlen (q).den) cx2) := by rw [← hW]; (first | (go_simp; done) | (simp [go_sem, k_R_2]; done) | (simp [go_sem, k_R_0, k_R_1, k_R_2]; done) | (simp [go_sem, k_R_0, k_R_1, k_R_2, f_R, hl_R]; done))
    replace f_R : ∀ o, W1.frozen? ⟨w.heap.size, o, none⟩ = false := by intro o; rw [← hW]; (first | with_reducible exact f_R o | (simp [go_sem, f_R]; done) | (simp [go_sem, f_R, hl_R]; done) | (go_simp; done) | (simp [go_sem, k_R_0, k_R_1, k_R_2, f_R, hl_R]; done))
    replace HX_R := Lib.hid (show Bn W1 (w.heap.size) by rw [← hW]; exact KpA)
    replace HP := Lib.hid (HP.out.keep HK_W1.out)
    replace HQ := Lib.hid (HQ.out.keep HK_W1.out)
    replace HB := Lib.hid (show Below w.heap.size w W1 by rw [← hW]; exact BlA)
    replace hN : N ≤ W1.heap.size := by rw [← hW]; (first | omega | (simp; done) | (simp; omega))
    replace hs0 : w.heap.size ≤ W1.heap.size := by rw [← hW]; (first | omega | (simp; done) | (simp; omega))
    replace hl_R : w.heap.size < W1.heap.size := by rw [← hW]; (first | omega | (simp; done) | (simp; omega))
    clear hW HK_W1
    refine (intPrint_any (N := N) _ _ _ _ q.num.natAbs _ hN HP.out (by omega) (HTab.out.below HB.out) q.num (zI_norm q.num)).mono ?_
    rintro e wb ⟨l, rfl, l0, l1, l2, hb⟩
    have hs_wb : W1.heap.size ≤ wb.heap.size := hb.size
    replace k_R_0 : wb.cell? ⟨w.heap.size, 0, none⟩ = some (.bool (decide ((q).num < 0))) := (hb.cell (p := ⟨w.heap.size, 0, none⟩) hl_R).trans k_R_0
    replace k_R_1 : wb.cell? ⟨w.heap.size, 1, none⟩ = some (.slice rx (nlen (q).num.natAbs) cx) := (hb.cell (p := ⟨w.heap.size, 1, none⟩) hl_R).trans k_R_1
    replace k_R_2 : wb.cell? ⟨w.heap.size, 2, none⟩ = some (.slice rx2 (nlen (q).den) cx2) := (hb.cell (p := ⟨w.heap.size, 2, none⟩) hl_R).trans k_R_2
    replace f_R : ∀ o, wb.frozen? ⟨w.heap.size, o, none⟩ = false := fun o => (hb.frozen (p := ⟨w.heap.size, o, none⟩) hl_R).trans (f_R o)
    replace HX_R := Lib.hid (HX_R.out.below hb)
    replace HP := Lib.hid (HP.out.below hb)
    replace HQ := Lib.hid (HQ.out.below hb)
    replace HB := Lib.hid (HB.out.trans (hb.mono hs0))
    replace hN : N ≤ wb.heap.size := Nat.le_trans hN hb.size
    replace hs0 : w.heap.size ≤ wb.heap.size := Nat.le_trans hs0 hb.size
    replace hl_R : w.heap.size < wb.heap.size := Nat.lt_of_lt_of_le hl_R hb.size
    clear hb
    have HL := Lib.hid l2
    clear l2
    go_wp2_with fail
    refine region_name fun W2 hW => ?_
    have hs_W2 : wb.heap.size ≤ W2.heap.size := by rw [← hW]; (first | omega | (simp; done) | (simp; omega))
    have HK_W2 := Lib.hid (show Kp N wb W2 by rw [← hW]; exact KpA)
    replace k_R_0 : W2.cell? ⟨w.heap.size, 0, none⟩ = some (.bool (decide ((q).num < 0))) := by rw [← hW]; (first | with_reducible exact k_R_0 | (simp [go_sem, k_R_0]; done) | (simp [go_sem, k_R_0, hl_R]; done) | (go_simp; done) | (simp [go_sem, k_R_0, k_R_1, k_R_2, f_R, hl_R]; done))
    replace k_R_1 : W2.cell? ⟨w.heap.size, 1, none⟩ = some (.slice rx (nlen (q).num.natAbs) cx) := by rw [← hW]; (first | with_reducible exact k_R_1 | (simp [go_sem, k_R_1]; done) | (simp [go_sem, k_R_1, hl_R]; done) | (go_simp; done) | (simp [go_sem, k_R_0, k_R_1, k_R_2, f_R, hl_R]; done))
    replace k_R_2 : W2.cell? ⟨w.heap.size, 2, none⟩ = some (.slice rx2 (nlen (q).den) cx2) := by rw [← hW]; (first | with_reducible exact k_R_2 | (simp [go_sem, k_R_2]; done) | (simp [go_sem, k_R_2, hl_R]; done) | (go_simp; done) | (simp [go_sem, k_R_0, k_R_1, k_R_2, f_R, hl_R]; done))
    replace f_R : ∀ o, W2.frozen? ⟨w.heap.size, o, none⟩ = false := by intro o; rw [← hW]; (first | with_reducible exact f_R o | (simp [go_sem, f_R]; done) | (simp [go_sem, f_R, hl_R]; done) | (go_simp; done) | (simp [go_sem, k_R_0, k_R_1, k_R_2, f_R, hl_R]; done))
    replace HX_R := Lib.hid (show Bn W2 (w.heap.size) by rw [← hW]; exact KpA)
    replace HP := Lib.hid (HP.out.keep HK_W2.out)
    replace HQ := Lib.hid (HQ.out.keep HK_W2.out)
    replace HB := Lib.hid (show Below w.heap.size w W2 by rw [← hW]; exact BlA)
    replace hN : N ≤ W2.heap.size := by rw [← hW]; (first | omega | (simp; done) | (simp; omega))
    replace hs0 : w.heap.size ≤ W2.heap.size := by rw [← hW]; (first | omega | (simp; done) | (simp; omega))
    replace hl_R : w.heap.size < W2.heap.size := by rw [← hW]; (first | omega | (simp; done) | (simp; omega))
    clear hW HK_W2
    go_region_held3 (fun w' => w'.cell? ⟨w.heap.size, 0, none⟩ = some (.bool (decide ((q).num < 0))) ∧ w'.cell? ⟨w.heap.size, 1, none⟩ = some (.slice rx (nlen (q).num.natAbs) cx) ∧ w'.cell? ⟨w.heap.size, 2, none⟩ = some (.slice rx2 (nlen (q).den) cx2))
      (first | (go_keep; done) | ((try dsimp only); (repeat' apply And.intro) <;> (first | (go_keep; done) | (exact cell_keep_alloc_drew (by first | omega | (simp; omega)) (by first | assumption | go_simp)) | (exact cell_keep_alloc (by first | omega | (simp; omega)) (by first | assumption | go_simp)) | (rw [cell_set2 _ _ _ _ _ _ _ _ (by omega)]; assumption) | (rw [cell_set3 _ _ _ _ _ _ _ _ _ _ (by omega)]; assumption))))
      (first
        | (go_at_call 59; refine (of_any (N := N) 1 _ (by decide)).mono ?_; rintro e wc ⟨ro, co, rfl, hn, hb⟩; replace hb : Below W2.heap.size W2 wc := (by first | exact hb | exact bel_of_drew hb); have hs_wc : W2.heap.size ≤ wc.heap.size := hb.size; replace k_R_0 : wc.cell? ⟨w.heap.size, 0, none⟩ = some (.bool (decide ((q).num < 0))) := (hb.cell (p := ⟨w.heap.size, 0, none⟩) hl_R).trans k_R_0; replace k_R_1 : wc.cell? ⟨w.heap.size, 1, none⟩ = some (.slice rx (nlen (q).num.natAbs) cx) := (hb.cell (p := ⟨w.heap.size, 1, none⟩) hl_R).trans k_R_1; replace k_R_2 : wc.cell? ⟨w.heap.size, 2, none⟩ = some (.slice rx2 (nlen (q).den) cx2) := (hb.cell (p := ⟨w.heap.size, 2, none⟩) hl_R).trans k_R_2; replace f_R : ∀ o, wc.frozen? ⟨w.heap.size, o, none⟩ = false := fun o => (hb.frozen (p := ⟨w.heap.size, o, none⟩) hl_R).trans (f_R o); replace HX_R := Lib.hid (HX_R.out.below hb); replace HP := Lib.hid (HP.out.below hb); replace HQ := Lib.hid (HQ.out.below hb); replace HB := Lib.hid (HB.out.trans (hb.mono hs0)); replace hN : N ≤ wc.heap.size := Nat.le_trans hN hb.size; replace hs0 : w.heap.size ≤ wc.heap.size := Nat.le_trans hs0 hb.size; replace hl_R : w.heap.size < wc.heap.size := Nat.lt_of_lt_of_le hl_R hb.size; clear hb; have HO := Lib.hid hn; clear hn; skip)
        | (go_at_call 54; refine (cmp_any (N := N) _ _ _ _ q.den _ _ 1 _ (by exact HQ.out) (by exact HO.out)).mono ?_; rintro e wd ⟨rfl, hq0⟩; have hb : Below wc.heap.size wc wd := (by obtain ⟨q0, rfl⟩ := hq0; exact bel_drewN _ _ _); clear hq0; have hs_wd : wc.heap.size ≤ wd.heap.size := hb.size; replace k_R_0 : wd.cell? ⟨w.heap.size, 0, none⟩ = some (.bool (decide ((q).num < 0))) := (hb.cell (p := ⟨w.heap.size, 0, none⟩) hl_R).trans k_R_0; replace k_R_1 : wd.cell? ⟨w.heap.size, 1, none⟩ = some (.slice rx (nlen (q).num.natAbs) cx) := (hb.cell (p := ⟨w.heap.size, 1, none⟩) hl_R).trans k_R_1; replace k_R_2 : wd.cell? ⟨w.heap.size, 2, none⟩ = some (.slice rx2 (nlen (q).den) cx2) := (hb.cell (p := ⟨w.heap.size, 2, none⟩) hl_R).trans k_R_2; replace f_R : ∀ o, wd.frozen? ⟨w.heap.size, o, none⟩ = false := fun o => (hb.frozen (p := ⟨w.heap.size, o, none⟩) hl_R).trans (f_R o); replace HX_R := Lib.hid (HX_R.out.below hb); replace HP := Lib.hid (HP.out.below hb); replace HQ := Lib.hid (HQ.out.below hb); replace HO := Lib.hid (HO.out.below hb); replace HB := Lib.hid (HB.out.trans (hb.mono hs0)); replace hN : N ≤ wd.heap.size := Nat.le_trans hN hb.size; replace hs0 : w.heap.size ≤ wd.heap.size := Nat.le_trans hs0 hb.size; replace hl_R : w.heap.size < wd.heap.size := Nat.lt_of_lt_of_le hl_R hb.size; clear hb; skip))
    go_wp2_with fail
    go_ret
    exact ⟨l, rfl, l0, fun h1 h2 _ => by rw [HL.out h1 h2]; unfold txt; rw [if_pos HOne.out], HB.out⟩
  · have hd : (cmpN q.den 1 == 0) = false := by rw [hc1]; simpa using hone
    have HOne := Lib.hid hone
    clear hc1 hone
    have hN0 := hN
    have hs0 : w.heap.size ≤ w.heap.size := Nat.le_refl _
    have HB := Lib.hid (Below.refl w.heap.size w)
    go_enter Tryd.func34, Tryd.ntmps34
    go_wp2_with fail
    refine calls_name fun W0 hW => ?_
    have hs_W0 : w.heap.size ≤ W0.heap.size := by rw [← hW]; (first | omega | (simp; done) | (simp; omega))
    have HK_W0 := Lib.hid (show Kp N w W0 by rw [← hW]; exact KpA)
    have k_R_0 : W0.cell? ⟨w.heap.size, 0, none⟩ = some (.bool s) := by rw [← hW]; (first | (go_simp; done) | (simp; done) | (simp [go_sem]; done) | (simp [go_sem]; done))
    have k_R_1 : W0.cell? ⟨w.heap.size, 1, none⟩ = some (.slice a na ca) := by rw [← hW]; (first | (go_simp; done) | (simp; done) | (simp [go_sem]; done) | (simp [go_sem]; done))
    have k_R_2 : W0.cell? ⟨w.heap.size, 2, none⟩ = some (.slice d nd cd) := by rw [← hW]; (first | (go_simp; done) | (simp; done) | (simp [go_sem]; done) | (simp [go_sem]; done))
    have f_R : ∀ o, W0.frozen? ⟨w.heap.size, o, none⟩ = false := by intro o; rw [← hW]; (first | (go_simp; done) | (simp; done) | (simp [go_sem]; done) | (simp [go_sem]; done))
    have HX_R := Lib.hid (show Bn W0 (w.heap.size) by rw [← hW]; exact KpA)
    replace H := Lib.hid (H.out.keep HK_W0.out)
    replace HB := Lib.hid (show Below w.heap.size w W0 by rw [← hW]; exact BlA)
    replace hN : N ≤ W0.heap.size := by rw [← hW]; (first | omega | (simp; done) | (simp; omega))
    replace hs0 : w.heap.size ≤ W0.heap.size := by rw [← hW]; (first | omega | (simp; done) | (simp; omega))
    have hl_R : w.heap.size < W0.heap.size := by rw [← hW]; (first | omega | (simp; done) | (simp; omega))
    clear hW HK_W0
    refine (rnorm_any (N := N) _ _ _ _ _ _ _ L q _ hN H.out (by omega)).mono ?_
    rintro e wa ⟨rx, cx, rx2, cx2, rfl, hn, hn', hb⟩
    have hs_wa : W0.heap.size ≤ wa.heap.size := hb.size
    replace k_R_0 : wa.cell? ⟨w.heap.size, 0, none⟩ = some (.bool s) := (hb.cell (p := ⟨w.heap.size, 0, none⟩) hl_R).trans k_R_0
    replace k_R_1 : wa.cell? ⟨w.heap.size, 1, none⟩ = some (.slice a na ca) := (hb.cell (p := ⟨w.heap.size, 1, none⟩) hl_R).trans k_R_1
    replace k_R_2 : wa.cell? ⟨w.heap.size, 2, none⟩ = some (.slice d nd cd) := (hb.cell (p := ⟨w.heap.size, 2, none⟩) hl_R).trans k_R_2
    replace f_R : ∀ o, wa.frozen? ⟨w.heap.size, o, none⟩ = false := fun o => (hb.frozen (p := ⟨w.heap.size, o, none⟩) hl_R).trans (f_R o)
    replace HX_R := Lib.hid (HX_R.out.below hb)
    replace H := Lib.hid (H.out.below hb)
    replace HB := Lib.hid (HB.out.trans (hb.mono hs0))
    replace hN : N ≤ wa.heap.size := Nat.le_trans hN hb.size
    replace hs0 : w.heap.size ≤ wa.heap.size := Nat.le_trans hs0 hb.size
    replace hl_R : w.heap.size < wa.heap.size := Nat.lt_of_lt_of_le hl_R hb.size
    clear hb
    have HP := Lib.hid hn
    clear hn
    have HQ := Lib.hid hn'
    clear hn'
    clear H
    go_wp2_with fail
    refine calls_name fun W1 hW => ?_
    have hs_W1 : wa.heap.size ≤ W1.heap.size := by rw [← hW]; (first | omega | (simp; done) | (simp; omega))
    have HK_W1 := Lib.hid (show Kp N wa W1 by rw [← hW]; exact KpA)
    replace k_R_0 : W1.cell? ⟨w.heap.size, 0, none⟩ = some (.bool (decide ((q).num < 0))) := by rw [← hW]; (first | (go_simp; done) | (simp [go_sem, k_R_0]; done) | (simp [go_sem, k_R_0, k_R_1, k_R_2]; done) | (simp [go_sem, k_R_0, k_R_1, k_R_2, f_R, hl_R]; done))
    replace k_R_1 : W1.cell? ⟨w.heap.size, 1, none⟩ = some (.slice rx (nlen (q).num.natAbs) cx) := by rw [← hW]; (first | (go_simp; done) | (simp [go_sem, k_R_1]; done) | (simp [go_sem, k_R_0, k_R_1, k_R_2]; done) | (simp [go_sem, k_R_0, k_R_1, k_R_2, f_R, hl_R]; done))
    replace k_R_2 : W1.cell? ⟨w.heap.size, 2, none⟩ = some (.slice rx2 (nlen (q).den) cx2) := by rw [← hW]; (first | (go_simp; done) | (simp [go_sem, k_R_2]; done) | (simp [go_sem, k_R_0, k_R_1, k_R_2]; done) | (simp [go_sem, k_R_0, k_R_1, k_R_2, f_R, hl_R]; done))
    replace f_R : ∀ o, W1.frozen? ⟨w.heap.size, o, none⟩ = false := by intro o; rw [← hW]; (first | with_reducible exact f_R o | (simp [go_sem, f_R]; done) | (simp [go_sem, f_R, hl_R]; done) | (go_simp; done) | (simp [go_sem, k_R_0, k_R_1, k_R_2, f_R, hl_R]; done))
    replace HX_R := Lib.hid (show Bn W1 (w.heap.size) by rw [← hW]; exact KpA)
    replace HP := Lib.hid (HP.out.keep HK_W1.out)
    replace HQ := Lib.hid (HQ.out.keep HK_W1.out)
    replace HB := Lib.hid (show Below w.heap.size w W1 by rw [← hW]; exact BlA)
    replace hN : N ≤ W1.heap.size := by rw [← hW]; (first | omega | (simp; done) | (simp; omega))
    replace hs0 : w.heap.size ≤ W1.heap.size := by rw [← hW]; (first | omega | (simp; done) | (simp; omega))
    replace hl_R : w.heap.size < W1.heap.size := by rw [← hW]; (first | omega | (simp; done) | (simp; omega))
    clear hW HK_W1
    refine (intPrint_any (N := N) _ _ _ _ q.num.natAbs _ hN HP.out (by omega) (HTab.out.below HB.out) q.num (zI_norm q.num)).mono ?_
    rintro e wb ⟨l, rfl, l0, l1, l2, hb⟩
    have hs_wb : W1.heap.size ≤ wb.heap.size := hb.size
    replace k_R_0 : wb.cell? ⟨w.heap.size, 0, none⟩ = some (.bool (decide ((q).num < 0))) := (hb.cell (p := ⟨w.heap.size, 0, none⟩) hl_R).trans k_R_0
    replace k_R_1 : wb.cell? ⟨w.heap.size, 1, none⟩ = some (.slice rx (nlen (q).num.natAbs) cx) := (hb.cell (p := ⟨w.heap.size, 1, none⟩) hl_R).trans k_R_1
    replace k_R_2 : wb.cell? ⟨w.heap.size, 2, none⟩ = some (.slice rx2 (nlen (q).den) cx2) := (hb.cell (p := ⟨w.heap.size, 2, none⟩) hl_R).trans k_R_2
    replace f_R : ∀ o, wb.frozen? ⟨w.heap.size, o, none⟩ = false := fun o => (hb.frozen (p := ⟨w.heap.size, o, none⟩) hl_R).trans (f_R o)
    replace HX_R := Lib.hid (HX_R.out.below hb)
    replace HP := Lib.hid (HP.out.below hb)
    replace HQ := Lib.hid (HQ.out.below hb)
    replace HB := Lib.hid (HB.out.trans (hb.mono hs0))
    replace hN : N ≤ wb.heap.size := Nat.le_trans hN hb.size
    replace hs0 : w.heap.size ≤ wb.heap.size := Nat.le_trans hs0 hb.size
    replace hl_R : w.heap.size < wb.heap.size := Nat.lt_of_lt_of_le hl_R hb.size
    clear hb
    have HL := Lib.hid l2
    clear l2
    go_wp2_with fail
    refine region_name fun W2 hW => ?_
    have hs_W2 : wb.heap.size ≤ W2.heap.size := by rw [← hW]; (first | omega | (simp; done) | (simp; omega))
    have HK_W2 := Lib.hid (show Kp N wb W2 by rw [← hW]; exact KpA)
    replace k_R_0 : W2.cell? ⟨w.heap.size, 0, none⟩ = some (.bool (decide ((q).num < 0))) := by rw [← hW]; (first | with_reducible exact k_R_0 | (simp [go_sem, k_R_0]; done) | (simp [go_sem, k_R_0, hl_R]; done) | (go_simp; done) | (simp [go_sem, k_R_0, k_R_1, k_R_2, f_R, hl_R]; done))
    replace k_R_1 : W2.cell? ⟨w.heap.size, 1, none⟩ = some (.slice rx (nlen (q).num.natAbs) cx) := by rw [← hW]; (first | with_reducible exact k_R_1 | (simp [go_sem, k_R_1]; done) | (simp [go_sem, k_R_1, hl_R]; done) | (go_simp; done) | (simp [go_sem, k_R_0, k_R_1, k_R_2, f_R, hl_R]; done))
    replace k_R_2 : W2.cell? ⟨w.heap.size, 2, none⟩ = some (.slice rx2 (nlen (q).den) cx2) := by rw [← hW]; (first | with_reducible exact k_R_2 | (simp [go_sem, k_R_2]; done) | (simp [go_sem, k_R_2, hl_R]; done) | (go_simp; done) | (simp [go_sem, k_R_0, k_R_1, k_R_2, f_R, hl_R]; done))
    replace f_R : ∀ o, W2.frozen? ⟨w.heap.size, o, none⟩ = false := by intro o; rw [← hW]; (first | with_reducible exact f_R o | (simp [go_sem, f_R]; done) | (simp [go_sem, f_R, hl_R]; done) | (go_simp; done) | (simp [go_sem, k_R_0, k_R_1, k_R_2, f_R, hl_R]; done))
    replace HX_R := Lib.hid (show Bn W2 (w.heap.size) by rw [← hW]; exact KpA)
    replace HP := Lib.hid (HP.out.keep HK_W2.out)
    replace HQ := Lib.hid (HQ.out.keep HK_W2.out)
    replace HB := Lib.hid (show Below w.heap.size w W2 by rw [← hW]; exact BlA)
    replace hN : N ≤ W2.heap.size := by rw [← hW]; (first | omega | (simp; done) | (simp; omega))
    replace hs0 : w.heap.size ≤ W2.heap.size := by rw [← hW]; (first | omega | (simp; done) | (simp; omega))
    replace hl_R : w.heap.size < W2.heap.size := by rw [← hW]; (first | omega | (simp; done) | (simp; omega))
    clear hW HK_W2
    go_region_held3 (fun w' => w'.cell? ⟨w.heap.size, 0, none⟩ = some (.bool (decide ((q).num < 0))) ∧ w'.cell? ⟨w.heap.size, 1, none⟩ = some (.slice rx (nlen (q).num.natAbs) cx) ∧ w'.cell? ⟨w.heap.size, 2, none⟩ = some (.slice rx2 (nlen (q).den) cx2))
      (first | (go_keep; done) | ((try dsimp only); (repeat' apply And.intro) <;> (first | (go_keep; done) | (exact cell_keep_alloc_drew (by first | omega | (simp; omega)) (by first | assumption | go_simp)) | (exact cell_keep_alloc (by first | omega | (simp; omega)) (by first | assumption | go_simp)) | (rw [cell_set2 _ _ _ _ _ _ _ _ (by omega)]; assumption) | (rw [cell_set3 _ _ _ _ _ _ _ _ _ _ (by omega)]; assumption))))
      (first
        | (go_at_call 59; refine (of_any (N := N) 1 _ (by decide)).mono ?_; rintro e wc ⟨ro, co, rfl, hn, hb⟩; replace hb : Below W2.heap.size W2 wc := (by first | exact hb | exact bel_of_drew hb); have hs_wc : W2.heap.size ≤ wc.heap.size := hb.size; replace k_R_0 : wc.cell? ⟨w.heap.size, 0, none⟩ = some (.bool (decide ((q).num < 0))) := (hb.cell (p := ⟨w.heap.size, 0, none⟩) hl_R).trans k_R_0; replace k_R_1 : wc.cell? ⟨w.heap.size, 1, none⟩ = some (.slice rx (nlen (q).num.natAbs) cx) := (hb.cell (p := ⟨w.heap.size, 1, none⟩) hl_R).trans k_R_1; replace k_R_2 : wc.cell? ⟨w.heap.size, 2, none⟩ = some (.slice rx2 (nlen (q).den) cx2) := (hb.cell (p := ⟨w.heap.size, 2, none⟩) hl_R).trans k_R_2; replace f_R : ∀ o, wc.frozen? ⟨w.heap.size, o, none⟩ = false := fun o => (hb.frozen (p := ⟨w.heap.size, o, none⟩) hl_R).trans (f_R o); replace HX_R := Lib.hid (HX_R.out.below hb); replace HP := Lib.hid (HP.out.below hb); replace HQ := Lib.hid (HQ.out.below hb); replace HB := Lib.hid (HB.out.trans (hb.mono hs0)); replace hN : N ≤ wc.heap.size := Nat.le_trans hN hb.size; replace hs0 : w.heap.size ≤ wc.heap.size := Nat.le_trans hs0 hb.size; replace hl_R : w.heap.size < wc.heap.size := Nat.lt_of_lt_of_le hl_R hb.size; clear hb; have HO := Lib.hid hn; clear hn; skip)
        | (go_at_call 54; refine (cmp_any (N := N) _ _ _ _ q.den _ _ 1 _ (by exact HQ.out) (by exact HO.out)).mono ?_; rintro e wd ⟨rfl, hq0⟩; have hb : Below wc.heap.size wc wd := (by obtain ⟨q0, rfl⟩ := hq0; exact bel_drewN _ _ _); clear hq0; have hs_wd : wc.heap.size ≤ wd.heap.size := hb.size; replace k_R_0 : wd.cell? ⟨w.heap.size, 0, none⟩ = some (.bool (decide ((q).num < 0))) := (hb.cell (p := ⟨w.heap.size, 0, none⟩) hl_R).trans k_R_0; replace k_R_1 : wd.cell? ⟨w.heap.size, 1, none⟩ = some (.slice rx (nlen (q).num.natAbs) cx) := (hb.cell (p := ⟨w.heap.size, 1, none⟩) hl_R).trans k_R_1; replace k_R_2 : wd.cell? ⟨w.heap.size, 2, none⟩ = some (.slice rx2 (nlen (q).den) cx2) := (hb.cell (p := ⟨w.heap.size, 2, none⟩) hl_R).trans k_R_2; replace f_R : ∀ o, wd.frozen? ⟨w.heap.size, o, none⟩ = false := fun o => (hb.frozen (p := ⟨w.heap.size, o, none⟩) hl_R).trans (f_R o); replace HX_R := Lib.hid (HX_R.out.below hb); replace HP := Lib.hid (HP.out.below hb); replace HQ := Lib.hid (HQ.out.below hb); replace HO := Lib.hid (HO.out.below hb); replace HB := Lib.hid (HB.out.trans (hb.mono hs0)); replace hN : N ≤ wd.heap.size := Nat.le_trans hN hb.size; replace hs0 : w.heap.size ≤ wd.heap.size := Nat.le_trans hs0 hb.size; replace hl_R : w.heap.size < wd.heap.size := Nat.lt_of_lt_of_le hl_R hb.size; clear hb; skip))
    go_wp2_with fail
    refine (natPrint_any (N := N) _ _ _ q.den _ HQ.out (by omega) (HTab.out.below HB.out)).mono ?_
    rintro e we ⟨l3, rfl, m0, m1, m2, hb⟩
    have hs_we : wd.heap.size ≤ we.heap.size := hb.size
    replace k_R_0 : we.cell? ⟨w.heap.size, 0, none⟩ = some (.bool (decide ((q).num < 0))) := (hb.cell (p := ⟨w.heap.size, 0, none⟩) hl_R).trans k_R_0
    replace k_R_1 : we.cell? ⟨w.heap.size, 1, none⟩ = some (.slice rx (nlen (q).num.natAbs) cx) := (hb.cell (p := ⟨w.heap.size, 1, none⟩) hl_R).trans k_R_1
    replace k_R_2 : we.cell? ⟨w.heap.size, 2, none⟩ = some (.slice rx2 (nlen (q).den) cx2) := (hb.cell (p := ⟨w.heap.size, 2, none⟩) hl_R).trans k_R_2
    replace f_R : ∀ o, we.frozen? ⟨w.heap.size, o, none⟩ = false := fun o => (hb.frozen (p := ⟨w.heap.size, o, none⟩) hl_R).trans (f_R o)
    replace HX_R := Lib.hid (HX_R.out.below hb)
    replace HP := Lib.hid (HP.out.below hb)
    replace HQ := Lib.hid (HQ.out.below hb)
    replace HO := Lib.hid (HO.out.below hb)
    replace HB := Lib.hid (HB.out.trans (hb.mono hs0))
    replace hN : N ≤ we.heap.size := Nat.le_trans hN hb.size
    replace hs0 : w.heap.size ≤ we.heap.size := Nat.le_trans hs0 hb.size
    replace hl_R : w.heap.size < we.heap.size := Nat.lt_of_lt_of_le hl_R hb.size
    clear hb
    have HM := Lib.hid m2
    clear m2
    go_wp2_with fail
    go_ret
    exact ⟨l ++ [47] ++ l3, congrArg (fun x => Ending.returned (Value.string x)) ((congrArg (fun x => x ++ (⟨l3.toArray⟩ : ByteArray)) (ba_app l [47])).trans (ba_app _ l3)), by simp; omega, fun h1 h2 h3 => by rw [HL.out h1 h2, HM.out h3]; unfold txt; rw [if_neg HOne.out], HB.out⟩

end Go.Proofs.YtmecipfdelgfbaaDoor
