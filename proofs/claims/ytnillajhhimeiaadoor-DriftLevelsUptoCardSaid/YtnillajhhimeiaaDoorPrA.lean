/- strconv.FormatUint and AppendUint at base 10, where the table of powers of ten is laid; nat.divLimb with the place of its quotient. -/
import Derived.Test.YtnillajhhimeiaaDoorShelfB
import Derived.Test.YtnillajhhimeiaaDoorKp
import Derived.Maps.AppendAt
import Derived.Lib.AppendStr
import Derived.Lib.AppendIntMem
namespace Go.Proofs.YtnillajhhimeiaaDoor
open Go.RowKit Go.Sort

/-- the table of powers of ten lies as the program's text lays it -/
def TabW (w : World) : Prop := Lib.TabIs Tryd.prog w "internal/strconv.uint64pow10" .u64 Lib.pow10Tab
theorem TabW.below {w w' : World} (h : TabW w) (hb : Below w.heap.size w w') : TabW w' := by
  unfold TabW Lib.TabIs World.var? at *
  cases hg : Tryd.prog.globalNamed "internal/strconv.uint64pow10" with
  | none => simp [hg] at h
  | some g =>
    simp only [hg, Option.bind_some] at h ⊢
    have hlt : g < w.heap.size := by
      rcases Nat.lt_or_ge g w.heap.size with h' | h'
      · exact h'
      · rw [Array.getElem?_eq_none h'] at h; simp at h
    rw [hb.block g hlt]
    exact h

set_option maxHeartbeats 1000000 in
theorem divLimb_fr {N : Nat} (a : Option Addr) (n cap m d : Nat) (w : World) (h : Nt N w a n cap m) (hl : n ≤ 1099511627776) (hd : 0 < d) (hdB : d < 4294967296) :
    Calls Tryd.prog 65 #[.slice a n cap, .int .u32 d] w fun e w' => ∃ r cr, e = .returned (.tuple #[.slice r (nlen (m / d)) cr, .int .u32 (m % d : Nat)]) ∧ Nt N w' r (nlen (m / d)) cr (m / d) ∧ Below w.heap.size w w' ∧ r = some ⟨w.heap.size, 0, none⟩ := by
  have H := Lib.hid h
  clear h
  have hmk := run_make_row' (P := Tryd.prog) 26 51 (.int .u32 0) 4 Tryd.underNat Tryd.infoU32 rfl .i64 .i64 n (by omega) (by omega)
  go_enter Tryd.func65, Tryd.ntmps65
  go_wp2_with fail
  go_loopw [7, 8] (fun c i wr => ∃ k : Nat, k ≤ n ∧ i = .int .i64 ((k : Int) - 1) ∧ c = .int .u64 (rst m d k) ∧ wr.rowIs w.heap.size 51 n (divRow (m / d) k) ∧ Below w.heap.size w wr) (fun _ i _ => (intOf i + 1).toNat)
  case atStart => exact ⟨n, Nat.le_refl _, rfl, by rw [rst_top m d n H.out.2.2.1 hd]; rfl, (World.rowIs_made _ _ _ _).congr (fun i hi => by simp only [divRow]; rw [if_neg (by omega)]; rfl), (Below.refl _ _).alloc (Nat.le_refl _) _⟩
  case round =>
    obtain ⟨k, hk, rfl, rfl, hrow, hbel⟩ := hrel
    have d3 := rst_lt m d k hd
    by_cases hk0 : 0 < k
    · obtain ⟨b1, o1, rfl, _, hc1⟩ := H.out.2.2.2 (by omega)
      have hcell1 := (hbel.cell (p := ⟨b1, o1 + (k - 1), none⟩) (World.block_lt_of_cell? w _ (hc1 (k - 1) (by omega)))).trans (hc1 (k - 1) (by omega))
      clear hc1
      have hput := hrow.cell (i := k - 1) (by omega)
      have hfz := hrow.frozen (k - 1)
      have hz1 : ((k : Int) - 1).toNat = k - 1 := by omega
      have hh1 : (0 : Int) ≤ (k : Int) - 1 := by omega
      have d1 := dig_lt' m (k - 1)
      have hor := or_u64 (rst m d k) (dig m (k - 1)) (by omega) d1
      have HR := Lib.hid hrow
      have HBel := Lib.hid hbel
      clear hrow hbel hmk
      go_wp2
      go_roundw
      case rel =>
        have e : k - 1 + 1 = k := by omega
        have q1 := quo_int m d (k - 1) hd hdB
        have q2 := rst_int m d (k - 1) hd
        rw [e] at q1 q2
        exact ⟨k - 1, by omega, i64_congr (by omega), u64_congr q2, divRow_step (by rw [e]; exact HR.out) q1, HBel.out.setCell (Nat.le_refl _) _⟩
      case measure => simp [intOf]; omega
    · obtain rfl : k = 0 := by omega
      have HL := Lib.hid (Nat.lt_of_le_of_lt (Nat.div_le_self m d) H.out.2.2.1)
      have HR := Lib.hid hrow
      have HBel := Lib.hid hbel
      have HZ := Lib.hid (rst_zero m d)
      clear hrow hbel hmk
      go_wp2_with fail
      have hnt := Nt.of_row (N := N) HR.out (by unfold maxLen; omega) HL.out (fun i hi => by simp [divRow])
      refine (trim_any _ _ _ _ _ hnt).mono ?_
      rintro e w' ⟨rfl, rfl⟩
      have HN := Lib.hid hnt.trim
      clear hnt
      go_wp2_with fail
      go_ret2
      rw [HZ.out]
      exact ⟨_, _, rfl, HN.out, HBel.out, rfl⟩


/-- it returns a string of at most 20 bytes -/
def FmtPost (w : World) (e : Ending) (w' : World) : Prop := ∃ l : List UInt8, e = .returned (.string ⟨l.toArray⟩) ∧ l.length ≤ 20 ∧ Below w.heap.size w w'
theorem len_small (u : Nat) (hu : u < 100) : (Lib.decDigits u).length ≤ 20 := by
  rw [Lib.decDigits_length]
  by_cases h : u = 0
  · subst h; rw [Lib.nDigits_small (by omega)]; omega
  · have := Lib.numDigits_eq u (by omega) (by omega); split at this <;> omega

set_option maxHeartbeats 6400000 in
set_option maxRecDepth 100000 in
theorem fmtU_in (u : Nat) (hu64 : u < 18446744073709551616) (w : World) (htab : TabW w) :
    Calls Tryd.prog 80 #[.int .u64 u, .int .i64 10] w (FmtPost w) := by
  by_cases hu : u < 100
  · have HL := Lib.hid (len_small u hu)
    go_enter Tryd.func80, Tryd.ntmps80
    go_wp2_with fail
    refine (Tryd.internal_strconv_small u hu _).mono ?_
    rintro e w' ⟨rfl, rfl⟩
    go_wp2_with fail
    go_ret
    exact ⟨_, rfl, HL.out, Below.refl _ _⟩
  · have hu1 : 1 ≤ u := by omega
    have hnd20 : Lib.nDigits u ≤ 20 := by have := Lib.numDigits_eq u hu1 hu64; split at this <;> omega
    have hal : Tryd.prog.arrayLen 127 = 24 := by simp [Program.arrayLen, Tryd.underlying127]
    have hsl : ∀ W, (Instr.sliceAt 127 (.pointer (some ⟨w.heap.size, 0, none⟩)) none (some (.int .i64 (Lib.nDigits u : Int))) none).run Tryd.prog W = .ok (.slice (some ⟨w.heap.size, 0, none⟩) (Lib.nDigits u) 24) W := fun W => by
      rw [run_sliceAt_array_h W 127 ⟨w.heap.size, 0, none⟩ (by simp [Program.arrayLen, Program.elem, Tryd.underlying127]) .i64 (Lib.nDigits u : Int) (by omega) (by rw [hal]; omega)]
      go_simp
    have hH0 := Lib.holds_zero0 w 127 (Lib.nDigits u) (by omega)
    have hfmt := Tryd.internal_strconv_formatBase10 w.heap.size 0 24 u (Array.replicate (Lib.nDigits u) 0) (w.alloc (.cells Lib.zeros24 127)) hH0 (by rw [Array.size_replicate]; exact Lib.lt_pow_nDigits u) hu64 (by rw [Array.size_replicate]; omega)
    rw [Array.size_replicate] at hfmt
    have HH0 := Lib.hid hH0
    have HFM := Lib.hid hfmt
    have HTAB := Lib.hid htab
    have iu : (100 : Int) ≤ (u : Int) := by omega
    clear hH0 hal hfmt htab
    go_enter Tryd.func80, Tryd.ntmps80
    go_wp2_with fail
    refine (Tryd.internal_strconv_numDigits u hu1 hu64 _ (Lib.tabIs_alloc HTAB.out _)).mono ?_
    rintro e w' ⟨rfl, rfl⟩
    go_wp2_with fail
    refine HFM.out.mono ?_
    rintro e w' ⟨rfl, k, v', dk, rfl, hF⟩
    have hcells : ∀ j (hj : j < (Lib.decDigits u).length), ((putRow (fun (b : UInt8) => Value.int .u8 (b.toNat : Int)) (w.alloc (.cells Lib.zeros24 127)) w.heap.size 0 dk).drewN k).cell? ((⟨w.heap.size, 0, none⟩ : Addr).add j) = some (.int .u8 ((Lib.decDigits u)[j].toNat : Int)) := by
      intro j hjl
      rw [Lib.row_is_numeral hF j hjl, Lib.add_plain, World.cell?_drewN]
      exact cell?_putRow (fun (b : UInt8) => Value.int .u8 (b.toNat : Int)) _ w.heap.size 0 _ dk HH0.out (by rw [hF.size, Array.size_replicate]) j (by rw [hF.size]; rw [Lib.decDigits_length] at hjl; exact hjl)
    obtain ⟨os, eo⟩ := Lib.fin_at w (.cells Lib.zeros24 127) dk k 0
    have hnx2 : Below w.heap.size w ((putRow (fun (b : UInt8) => Value.int .u8 (b.toNat : Int)) (w.alloc (.cells Lib.zeros24 127)) w.heap.size 0 dk).drewN k) := by rw [eo]; exact Lib.below_grow w.heap.size w (Nat.le_refl _) k os
    generalize (putRow (fun (b : UInt8) => Value.int .u8 (b.toNat : Int)) (w.alloc (.cells Lib.zeros24 127)) w.heap.size 0 dk).drewN k = W2 at hcells hnx2 ⊢
    have hcv : (convert 107 9 (.slice (some ⟨w.heap.size, 0, none⟩) (Lib.nDigits u) 24)).run Tryd.prog W2 = .ok (.string ⟨(Lib.decDigits u).toArray⟩) W2 := by
      have h := run_convert_bytes_back (P := Tryd.prog) W2 107 9 5 ⟨w.heap.size, 0, none⟩ 24 (Lib.decDigits u) Tryd.underlying107 Tryd.underlying5 Tryd.underlying9 hcells
      rw [Lib.decDigits_length] at h
      exact h
    have HNX := Lib.hid hnx2
    clear eo HH0 hcells hnx2 HFM hF
    go_wp2_with fail
    go_ret
    exact ⟨_, rfl, by rw [Lib.decDigits_length]; exact hnd20, HNX.out⟩

theorem fmtU_any (u : Nat) (hu64 : u < 18446744073709551616) (w : World) (htab : TabW w) :
    Calls Tryd.prog 67 #[.int .u64 u, .int .i64 10] w (FmtPost w) := by
  have HT := Lib.hid htab
  clear htab
  go_enter Tryd.func67, Tryd.ntmps67
  go_wp2_with fail
  refine (fmtU_in u hu64 _ HT.out).mono ?_
  rintro e w' ⟨l, rfl, hl, hb⟩
  have HB := Lib.hid hb
  clear hb
  go_wp2_with fail
  go_ret
  exact ⟨_, rfl, hl, HB.out⟩
theorem appU_any (u : Nat) (hu64 : u < 18446744073709551616) (w : World) (htab : TabW w) :
    Calls Tryd.prog 66 #[.slice none 0 0, .int .u64 u, .int .i64 10] w fun e w' => ∃ v', e = .returned v' ∧ w'.ownsRow w.heap.size 5 1 v' (Lib.decDigits u).length (Lib.byteCells (Lib.decDigits u)) ∧ Below w.heap.size w w' := by
  have HT := Lib.hid htab
  have HO := Lib.hid (World.ownsRow_nil w w.heap.size 5 1)
  clear htab
  go_enter Tryd.func66, Tryd.ntmps66
  go_wp2_with fail
  refine (Tryd.internal_strconv_AppendUint_10 w.heap.size 0 u hu64 _ [] _ HO.out (Nat.le_refl _) (by omega) HT.out).mono ?_
  rintro e w' ⟨v', rfl, ho, hb, _⟩
  rw [Nat.zero_add, List.nil_append] at ho
  have HW := Lib.hid ho
  have HB := Lib.hid hb
  clear ho hb
  go_wp2_with fail
  go_ret
  exact ⟨_, rfl, HW.out, HB.out⟩

end Go.Proofs.YtnillajhhimeiaaDoor
