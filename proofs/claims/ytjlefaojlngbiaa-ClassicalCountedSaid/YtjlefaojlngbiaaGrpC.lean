/- Contract of classical.Groups: for slices of at most 60 elements, and for all arguments that it refuses. -/
import Derived.Test.YtjlefaojlngbiaaGrpB
import Derived.Test.YtjlefaojlngbiaaSrtD
namespace Go.Proofs.Ytjlefaojlngbiaa
open Go.RowKit

/-- the error of Groups -/
def gC (no nt : Nat) (tot : Nat → Int) (n most : Int) : Int :=
  if n < 1 ∨ 5 < n ∨ most < 1 ∨ 10 < most then 3 else if 200 < no ∨ 200 < nt then 5 else if inRb tot nt = false then 3 else if no ≠ nt then 1 else if no = 0 then 20 else 0
/-- the table of counts -/
def Tb (w : World) (p : Option Addr) (n cap most : Nat) (f : Nat → Nat → Nat) : Prop :=
  n ≤ cap ∧ cap ≤ maxLen ∧ (0 < n → ∃ (tb : Nat) (rb : Nat → Nat), p = some ⟨tb, 0, none⟩ ∧ ∀ g, g < n → w.cell? ⟨tb, g, none⟩ = some (.slice (some ⟨rb g, 0, none⟩) most most) ∧ ∀ o, o < most → w.cell? ⟨rb g, o, none⟩ = some (.int .i64 (f g o)))
theorem Tb.below {w w' : World} {p : Option Addr} {n cap most : Nat} {f : Nat → Nat → Nat} (h : Tb w p n cap most f) (hb : Below w.heap.size w w') : Tb w' p n cap most f := by
  obtain ⟨h0, h1, h2⟩ := h
  refine ⟨h0, h1, fun hn => ?_⟩
  obtain ⟨tb, rb, e, hc⟩ := h2 hn
  exact ⟨tb, rb, e, fun g hg => ⟨cell_keep (hc g hg).1 hb, fun o ho => cell_keep ((hc g hg).2 o ho) hb⟩⟩
/-- person i stands in group j and has chosen o -/
def inG (tot opt : Nat → Int) (len n j o i : Nat) : Bool := decide (rnk (keyT (totL tot)) len i * n / len = j ∧ opt i = (o : Int))
/-- the counts -/
def cG (tot opt : Nat → Int) (len n j o : Nat) : Nat := cntP len (inG tot opt len n j o)
/-- the same, by rank -/
def inK (opt : Nat → Int) (d : Nat → Nat) (len n j o r : Nat) : Bool := decide (r * n / len = j ∧ opt (d r) = (o : Int))
theorem cG_sorted (tot opt : Nat → Int) (len n j o : Nat) (d : Nat → Nat) (hr : Rng 0 len (fun i => i) d) (hs : Srt (keyT (totL tot)) 0 len d) : cntP len (inK opt d len n j o) = cG tot opt len n j o := by
  have hO := (totL_weak tot).ord
  have hp := Prm.of_srt hO hr hs
  unfold cG
  rw [← hp.cnt (inG tot opt len n j o)]
  refine cntP_congr (fun r hr => ?_)
  unfold inK inG
  rw [Srt.rnk hO hp hs hr]

set_option maxHeartbeats 4000000 in
/-- what Groups refuses -/
theorem groups_bad (a b : Option Addr) (no co nt ct : Nat) (opt tot : Nat → Int) (n most : Int) (w : World) (hA : Is w a no co opt) (hB : Is w b nt ct tot) (hc : gC no nt tot n most ≠ 0) :
    Calls Try.prog 6 #[.slice a no co, .slice b nt ct, .int .i64 n, .int .i64 most] w fun e w' => e = .returned (.tuple #[.slice none 0 0, .int .i64 (gC no nt tot n most)]) ∧ Below w.heap.size w w' := by
  have hB2 := hB.below ((Below.refl w.heap.size w).alloc (Nat.le_refl _) (.cells #[.slice b nt ct] 22))
  have HI := Lib.hid (fun w2 h => inRange_any b nt ct tot w2 h)
  have h1 := hA.1
  have h2 := hA.2.1
  have h3 := hB.1
  have h4 := hB.2.1
  unfold maxLen at h2 h4
  clear hA hB
  have bel := (Below.refl w.heap.size w).alloc (Nat.le_refl _) (.cells #[.slice b nt ct] 22)
  unfold gC at hc ⊢
  by_cases a1 : n < 1
  · rw [if_pos (.inl a1)]
    clear hc
    go_enter Try.func6, Try.ntmps6
    go_wp2_with fail
    go_ret2
    exact ⟨rfl, bel⟩
  by_cases a2 : 5 < n
  · rw [if_pos (.inr (.inl a2))]
    clear hc
    go_enter Try.func6, Try.ntmps6
    go_wp2_with fail
    go_ret2
    exact ⟨rfl, bel⟩
  by_cases a3 : most < 1
  · rw [if_pos (.inr (.inr (.inl a3)))]
    clear hc
    go_enter Try.func6, Try.ntmps6
    go_wp2_with fail
    go_ret2
    exact ⟨rfl, bel⟩
  by_cases a4 : 10 < most
  · rw [if_pos (.inr (.inr (.inr a4)))]
    clear hc
    go_enter Try.func6, Try.ntmps6
    go_wp2_with fail
    go_ret2
    exact ⟨rfl, bel⟩
  rw [if_neg (by omega)] at hc ⊢
  by_cases b1 : 200 < no
  · rw [if_pos (.inl b1)]
    clear hc
    go_enter Try.func6, Try.ntmps6
    go_wp2_with fail
    go_ret2
    exact ⟨rfl, bel⟩
  by_cases b2 : 200 < nt
  · rw [if_pos (.inr b2)]
    clear hc
    go_enter Try.func6, Try.ntmps6
    go_wp2_with fail
    go_ret2
    exact ⟨rfl, bel⟩
  rw [if_neg (by omega)] at hc ⊢
  have HC := Lib.hid (HI.out _ hB2)
  clear HI hB2
  obtain ⟨r, hr⟩ : ∃ r, inRb tot nt = r := ⟨_, rfl⟩
  rw [hr] at HC hc ⊢
  clear hr
  cases r
  · rw [if_pos rfl]
    clear hc
    go_enter Try.func6, Try.ntmps6
    go_wp2_with fail
    refine HC.out.mono ?_
    rintro e w1 ⟨rfl, hb⟩
    have HB := Lib.hid (bel.trans (hb.mono (by simp)))
    clear hb bel
    go_wp2_with fail
    go_ret2
    exact ⟨rfl, HB.out⟩
  · rw [if_neg (by decide)] at hc ⊢
    by_cases d1 : no = nt
    · rw [if_neg (by omega)] at hc ⊢
      have e1 : no = 0 := by
        by_cases e : no = 0
        · exact e
        · rw [if_neg e] at hc; exact absurd rfl hc
      rw [if_pos e1]
      clear hc
      obtain rfl : no = 0 := e1
      obtain rfl : nt = 0 := by omega
      go_enter Try.func6, Try.ntmps6
      go_wp2_with fail
      refine HC.out.mono ?_
      rintro e w1 ⟨rfl, hb⟩
      have hcell := (hb.cell (p := ⟨w.heap.size, 0, none⟩) (by simp)).trans (show (w.alloc (.cells #[.slice b 0 ct] 22)).cell? ⟨w.heap.size, 0, none⟩ = some (.slice b 0 ct) by simp)
      have HB := Lib.hid (bel.trans (hb.mono (by simp)))
      clear hb bel
      go_wp2_with fail
      go_ret2
      exact ⟨rfl, HB.out⟩
    · rw [if_pos d1]
      clear hc
      have d2 : ¬ ((no : Int) = (nt : Int)) := by omega
      go_enter Try.func6, Try.ntmps6
      go_wp2_with fail
      refine HC.out.mono ?_
      rintro e w1 ⟨rfl, hb⟩
      have hcell := (hb.cell (p := ⟨w.heap.size, 0, none⟩) (by simp)).trans (show (w.alloc (.cells #[.slice b nt ct] 22)).cell? ⟨w.heap.size, 0, none⟩ = some (.slice b nt ct) by simp)
      have HB := Lib.hid (bel.trans (hb.mono (by simp)))
      clear hb bel
      go_wp2_with fail
      go_ret2
      exact ⟨rfl, HB.out⟩


/-- a table of rows, the one behind the other -/
theorem Tb.of_rows {w : World} {tb n most : Nat} {f : Nat → Nat → Nat} (hn : n ≤ maxLen) (h : w.rowIs tb 22 n (fun g => .slice (some ⟨tb + 1 + g, 0, none⟩) most most)) (k : ∀ j, j < n → w.rowIs (tb + 1 + j) 3 most (fun o => .int .i64 (f j o : Nat))) : Tb w (some ⟨tb, 0, none⟩) n n most f :=
  ⟨Nat.le_refl _, hn, fun _ => ⟨tb, fun g => tb + 1 + g, rfl, fun g hg => ⟨h.cell hg, fun _o ho => (k g hg).cell ho⟩⟩⟩
theorem rowIs_ri {w : World} {g n : Nat} {f : Nat → Value} (h : w.rowIs g 3 n f) : Ri w g n := by
  obtain ⟨c, h1, h2⟩ := h
  exact ⟨c, h1, h2.1⟩
theorem rowIs_below {w w' : World} {g n : Nat} {T : TypeId} {f : Nat → Value} (h : w.rowIs g T n f) (hb : Below w.heap.size w w') : w'.rowIs g T n f := h.of_block (hb.block g h.lt)

theorem Try.underIntsG : Try.prog.underlying 22 = some (.slice 3) := by kernel_rfl
theorem Try.infoIntG : (Try.prog.info? 3).map (fun i => (i.zero, i.size, i.bytes)) = some (some (.int .i64 0), 1, 8) := by kernel_rfl
theorem Try.underTabG : Try.prog.underlying 24 = some (.slice 22) := by kernel_rfl
theorem Try.infoRowG : (Try.prog.info? 22).map (fun i => (i.zero, i.size, i.bytes)) = some (some (.slice none 0 0), 1, 24) := by kernel_rfl
theorem make_intsG (n : Nat) (h : n ≤ 100000) (w : World) :
    (Instr.makeSlice 22 (.int .i64 (n : Int)) (.int .i64 (n : Int))).run Try.prog w = .ok (.slice (some ⟨w.heap.size, 0, none⟩) n n) (w.alloc (.cells (madeCells #[.int .i64 0] n) 3)) :=
  run_make_row' (P := Try.prog) 22 3 (.int .i64 0) 8 Try.underIntsG Try.infoIntG rfl .i64 .i64 n (by omega) (by omega) w
theorem make_tabG (n : Nat) (h : n ≤ 100000) (w : World) :
    (Instr.makeSlice 24 (.int .i64 (n : Int)) (.int .i64 (n : Int))).run Try.prog w = .ok (.slice (some ⟨w.heap.size, 0, none⟩) n n) (w.alloc (.cells (madeCells #[.slice none 0 0] n) 22)) :=
  run_make_row' (P := Try.prog) 24 22 (.slice none 0 0) 24 Try.underTabG Try.infoRowG rfl .i64 .i64 n (by omega) (by omega) w

set_option maxHeartbeats 8000000 in
set_option maxRecDepth 100000 in
theorem groups_ok (a b : Option Addr) (len co ct n most : Nat) (opt tot : Nat → Int) (w : World) (hA : Is w a len co opt) (hB : Is w b len ct tot) (hr : inRb tot len = true) (hl : 0 < len) (hl2 : len ≤ 60) (hn1 : 1 ≤ n) (hn2 : n ≤ 5) (hm1 : 1 ≤ most) (hm2 : most ≤ 10) :
    Calls Try.prog 6 #[.slice a len co, .slice b len ct, .int .i64 n, .int .i64 most] w fun e w' => ∃ p, e = .returned (.tuple #[.slice p n n, .int .i64 0]) ∧ Tb w' p n n most (cG tot opt len n) ∧ Below w.heap.size w w' := by
  have bel := (Below.refl w.heap.size w).alloc (Nat.le_refl _) (.cells #[.slice b len ct] 22)
  have hB2 := hB.below bel
  have HI := Lib.hid (inRange_any b len ct tot _ hB2)
  rw [hr] at HI
  have h1 := hA.1
  have h2 := hA.2.1
  have h3 := hB.1
  have h4 := hB.2.1
  unfold maxLen at h2 h4
  have HA := Lib.hid hA
  have HB := Lib.hid hB
  have BEL := Lib.hid bel
  clear hA hB hB2 hr bel
  have nz1 : ¬ (n : Int) < 1 := by omega
  have nz2 : ¬ 5 < (n : Int) := by omega
  have mz1 : ¬ (most : Int) < 1 := by omega
  have mz2 : ¬ 10 < (most : Int) := by omega
  have lz1 : ¬ 200 < (len : Int) := by omega
  have lz2 : ¬ (len : Int) = 0 := by omega
  have mixed : Try.prog.follows Departure.mixedOrders = true := by kernel_rfl
  have mk1 := fun w => make_intsG len (by omega) w
  have mk2 := fun w => make_tabG n (by omega) w
  have mk3 := fun w => make_intsG most (by omega) w
  go_enter Try.func6, Try.ntmps6
  go_wp2_with fail
  refine HI.out.mono ?_
  rintro e w1 ⟨rfl, hb⟩
  have hcell := (hb.cell (p := ⟨w.heap.size, 0, none⟩) (by simp)).trans (show (w.alloc (.cells #[.slice b len ct] 22)).cell? ⟨w.heap.size, 0, none⟩ = some (.slice b len ct) by simp)
  have hs1 : w.heap.size < w1.heap.size := by have := hb.size; simp at this; omega
  have BEL1 := Lib.hid (BEL.out.trans (hb.mono (by simp)))
  clear hb HI BEL
  go_wp2_with fail
  go_loopw [11, 55] (fun _ i wr => ∃ k : Nat, k ≤ len ∧ i = .int .i64 k ∧ wr.rowIs w1.heap.size 3 len (fun j => .int .i64 ((if j < k then j else 0 : Nat) : Int)) ∧ Below w1.heap.size w1 wr) (fun _ i _ => len - (intOf i).toNat)
  case atStart => exact ⟨0, Nat.zero_le _, rfl, (World.rowIs_made w1 (.int .i64 0) len 3).congr (fun j hj => by simp), (Below.refl _ _).alloc (Nat.le_refl _) _⟩
  case round =>
    obtain ⟨k, hk, rfl, hrow, hbel⟩ := hrel
    have HR := Lib.hid hrow
    have HBW := Lib.hid hbel
    clear hrow hbel
    by_cases hkl : k < len
    · have hkz : (k : Int) < (len : Int) := by omega
      have c1 := HR.out.cell hkl
      have f1 := HR.out.frozen k
      go_wp2_with fail
      go_roundw
      case rel => exact ⟨k + 1, by omega, by go_num, (HR.out.set k _).congr (fun j hj => by
        by_cases e : j = k
        · rw [if_pos e, if_pos (by omega), e]
        · rw [if_neg e]
          by_cases e2 : j < k
          · rw [if_pos e2, if_pos (by omega)]
          · rw [if_neg e2, if_neg (by omega)]), HBW.out.setCell (Nat.le_refl _) _⟩
      case measure => (first | (simp [intOf]; done) | (simp [intOf]; omega))
    · have hkz : ¬ (k : Int) < (len : Int) := by omega
      obtain rfl : k = len := by omega
      have hs2 : w1.heap.size < wr.heap.size := HR.out.lt
      have hcell2 := (HBW.out.cell (p := ⟨w.heap.size, 0, none⟩) hs1).trans hcell
      have BEL2 := Lib.hid (BEL1.out.trans (HBW.out.mono (by omega)))
      have SW0 : Hid (Sw w1.heap.size k k (fun i => i) wr wr) := Lib.hid ⟨Skp.refl _ _, rowIs_ri HR.out, fun i hi => by rw [HR.out.cell hi, if_pos hi], fun i hi => hi⟩
      have CMP : Hid (Cmp w1.heap.size k (keyT (totL tot)) 11 #[.pointer (some ⟨w.heap.size, 0, none⟩)] wr) := Lib.hid (by
        intro W x y hsk hyx hxk
        have hbx : W.cell? ⟨w.heap.size, 0, none⟩ = some (.slice b k ct) := (World.cell?_of_block (w := wr) (a := ⟨w.heap.size, 0, none⟩) (hsk.2 w.heap.size (by omega) (by omega))).trans hcell2
        have hIs : Is W b k ct tot := by
          obtain ⟨g0, g1, g2⟩ := HB.out
          refine ⟨g0, g1, fun hn => ?_⟩
          obtain ⟨tb, off, e, hc⟩ := g2 hn
          refine ⟨tb, off, e, fun i hi => ?_⟩
          have hlt := World.block_lt_of_cell? w _ (hc i hi)
          exact (World.cell?_of_block (w := wr) (a := ⟨tb, off + i, none⟩) (hsk.2 tb (by have := BEL2.out.size; dsimp only at hlt; omega) (by dsimp only at hlt; omega))).trans (cell_keep (hc i hi) BEL2.out)
        refine (less_any b k ct x y w.heap.size tot W hIs hxk (by omega) hbx).mono ?_
        rintro e w' ⟨c, he, hb, hcc⟩
        exact ⟨c, he, hb, by rw [keyT_gt _ hyx]; unfold totL; simpa using hcc⟩)
      have SRT := Lib.hid (sortStable_any w1.heap.size k k k (keyT (totL tot)) (totL_weak tot).ord 11 #[.pointer (some ⟨w.heap.size, 0, none⟩)] (fun i => i) wr wr (by intro args w; rfl) CMP.out SW0.out (fun i j _ h _ => h) hl2)
      clear CMP SW0 HR HBW
      go_wp2_with fail
      refine SRT.out.mono ?_
      rintro e w2 ⟨rfl, d, hsw, hrg, hst⟩
      have BEL3 := Lib.hid (BEL2.out.trans (show Below w.heap.size wr w2 from ⟨hsw.sk.1.os, hsw.sk.1.tape, hsw.sk.1.output, hsw.sk.1.size, fun b hb => hsw.sk.2 b (by omega) (by omega)⟩))
      have HDK := Lib.hid hsw.cell
      have HDL := Lib.hid hsw.lt
      have hg2 := hsw.bk.lt
      have HFR := Lib.hid hsw.bk
      have HFIN := Lib.hid (fun j o => cG_sorted tot opt k n j o d hrg hst)
      have hs3 : w.heap.size ≤ w2.heap.size := by omega
      clear hsw hrg hst SRT BEL2 BEL1
      go_wp2_with fail
      go_loopw [13, 70] (fun _ i wr => ∃ c : Nat, c ≤ n ∧ i = .int .i64 c ∧ wr.heap.size = w2.heap.size + 1 + c ∧ wr.rowIs w2.heap.size 22 n (fun g => if g < c then .slice (some ⟨w2.heap.size + 1 + g, 0, none⟩) most most else .slice none 0 0) ∧ (∀ j, j < c → wr.rowIs (w2.heap.size + 1 + j) 3 most (fun _ => .int .i64 0)) ∧ Below w2.heap.size w2 wr) (fun _ i _ => n - (intOf i).toNat)
      case atStart => exact ⟨0, Nat.zero_le _, rfl, by simp, (World.rowIs_made w2 (.slice none 0 0) n 22).congr (fun j hj => by simp), fun j hj => by omega, (Below.refl _ _).alloc (Nat.le_refl _) _⟩
      case round =>
        obtain ⟨c, hc, rfl, hsz, hrow, hrs, hbel⟩ := hrel
        have HR := Lib.hid hrow
        have HRS := Lib.hid hrs
        have HBW := Lib.hid hbel
        clear hrow hrs hbel
        by_cases hcn : c < n
        · have hcz : (c : Int) < (n : Int) := by omega
          have HR2 := Lib.hid (HR.out.alloc (.cells (madeCells #[.int .i64 0] most) 3))
          have c1 := HR2.out.cell hcn
          rw [if_neg (by omega)] at c1
          have f1 := HR2.out.frozen c
          have HNEW := Lib.hid (World.rowIs_made wr (.int .i64 0) most 3)
          go_wp2_with fail
          go_roundw
          case rel =>
            refine ⟨c + 1, by omega, by go_num, by simp [World.setCell]; omega, ?_, fun j hj => ?_, (HBW.out.alloc (by omega) _).setCell (Nat.le_refl _) _⟩
            · refine (HR2.out.set c _).congr (fun j hj => ?_)
              by_cases e : j = c
              · subst e; first | (rw [if_pos rfl, if_pos (by omega)]; done) | (rw [if_pos rfl, if_pos (by omega)]; rfl) | (rw [if_pos rfl, if_pos (by omega), hsz])
              · rw [if_neg e]
                by_cases e2 : j < c
                · rw [if_pos e2, if_pos (by omega)]
                · rw [if_neg e2, if_neg (by omega)]
            · by_cases e : j = c
              · subst e
                rw [← hsz]
                exact HNEW.out.setOther (by simp; omega) _
              · exact ((HRS.out j (by omega)).alloc _).setOther (by simp; omega) _
          case measure => (first | (simp [intOf]; done) | (simp [intOf]; omega))
        · have hcz : ¬ (c : Int) < (n : Int) := by omega
          obtain rfl : c = n := by omega
          have HT := Lib.hid (HR.out.congr (g := fun g => .slice (some ⟨w2.heap.size + 1 + g, 0, none⟩) most most) (fun j hj => by rw [if_pos hj]))
          clear HR hsz
          go_wp2_with fail
          go_loopw [14, 15, 16, 81] (fun _ _ _ i wz => ∃ r : Nat, r ≤ k ∧ i = .int .i64 r ∧ wz.rowIs w2.heap.size 22 c (fun g => .slice (some ⟨w2.heap.size + 1 + g, 0, none⟩) most most) ∧ (∀ j, j < c → wz.rowIs (w2.heap.size + 1 + j) 3 most (fun o => .int .i64 (cntP r (inK opt d k c j o) : Nat))) ∧ Below w2.heap.size w2 wz) (fun _ _ _ i _ => k - (intOf i).toNat)
          case atStart => exact ⟨0, Nat.zero_le _, rfl, HT.out, fun j hj => (HRS.out j hj).congr (fun o ho => by first | (rw [cntP_zero]; done) | (rw [cntP_zero]; rfl)), HBW.out⟩
          case round =>
            clear HT HRS HBW
            obtain ⟨r, hr, rfl, htab, hrs, hbel⟩ := hrel
            have HT := Lib.hid htab
            have HRS := Lib.hid hrs
            have HBW := Lib.hid hbel
            clear htab hrs hbel
            by_cases hrk : r < k
            · have hrz : (r : Int) < (k : Int) := by omega
              have c1 := (HBW.out.cell (p := ⟨w1.heap.size, r, none⟩) hg2).trans (HDK.out r hrk)
              have hx := HDL.out r hrk
              obtain ⟨x, ex⟩ : ∃ x, d r = x := ⟨_, rfl⟩
              rw [ex] at c1 hx
              have EX := Lib.hid ex
              clear ex
              have hxz : (x : Int) < (k : Int) := by omega
              obtain ⟨ab, off, rfl, ho⟩ := HA.out.2.2 (by omega)
              have c2 := cell_keep (ho x hx) (BEL3.out.trans (HBW.out.mono hs3))
              clear ho
              obtain ⟨u, eu⟩ : ∃ u, opt x = u := ⟨_, rfl⟩
              rw [eu] at c2
              have EU := Lib.hid eu
              clear eu
              have STEP : ∀ j o, cntP (r + 1) (inK opt d k c j o) = cntP r (inK opt d k c j o) + (if r * c / k = j ∧ u = (o : Int) then 1 else 0) := fun j o => by
                rw [cntP_succ]; unfold inK; rw [EX.out, EU.out]; simp only [decide_eq_true_eq]
              have HST := Lib.hid STEP
              clear STEP
              by_cases hu : 0 ≤ u ∧ u < (most : Int)
              · obtain ⟨o, rfl⟩ : ∃ o : Nat, u = (o : Int) := ⟨u.toNat, by omega⟩
                have hom : o < most := by omega
                have homz : (o : Int) < (most : Int) := by omega
                obtain ⟨rn, hrn⟩ : ∃ q, r * c = q := ⟨_, rfl⟩
                have hrn2 : rn ≤ 300 := by rw [← hrn]; exact Nat.mul_le_mul (show r ≤ 60 by omega) hn2
                have hrnk : rn < c * k := by rw [← hrn, Nat.mul_comm c k]; exact Nat.mul_lt_mul_of_pos_right hrk (by omega)
                have erz : (r : Int) * (c : Int) = (rn : Int) := by rw [← hrn]; simp
                obtain ⟨j, hj⟩ : ∃ q, rn / k = q := ⟨_, rfl⟩
                have hjc : j < c := by rw [← hj]; exact (Nat.div_lt_iff_lt_mul hl).2 hrnk
                have hjz : (j : Int) < (c : Int) := by omega
                have eD : (rn : Int) / (k : Int) = (j : Int) := by rw [← hj]; simp
                have eT : Int.tdiv (rn : Int) (k : Int) = (j : Int) := by rw [← hj]; simp
                rw [hrn, hj] at HST
                clear hrn hrnk hj hu
                have c3 := HT.out.cell hjc
                have c4 := (HRS.out j hjc).cell hom
                have f4 := (HRS.out j hjc).frozen o
                have hq := cntP_le r (inK opt d k c j o)
                obtain ⟨q, eq⟩ : ∃ q, cntP r (inK opt d k c j o) = q := ⟨_, rfl⟩
                rw [eq] at c4 hq
                have EQ := Lib.hid eq
                clear eq
                go_wp2_with fail
                go_roundw
                case rel =>
                  refine ⟨r + 1, by omega, by go_num, HT.out.setOther (by simp; omega) _, fun j' hj' => ?_, HBW.out.setCell (show w2.heap.size ≤ w2.heap.size + 1 + j by omega) _⟩
                  by_cases e : j' = j
                  · subst e
                    refine ((HRS.out j' hj').set o _).congr (fun o' ho' => ?_)
                    by_cases e2 : o' = o
                    · subst e2
                      rw [if_pos rfl, HST.out, if_pos ⟨rfl, rfl⟩, EQ.out]
                      first | rfl | go_num
                    · rw [if_neg e2, HST.out, if_neg (by rintro ⟨_, h⟩; exact e2 (by omega)), Nat.add_zero]
                  · exact ((HRS.out j' hj').setOther (by simp; omega) _).congr (fun o' ho' => by rw [HST.out, if_neg (by rintro ⟨h, _⟩; exact e h.symm), Nat.add_zero])
                case measure => (first | (simp [intOf]; done) | (simp [intOf]; omega))
              · have HNX : Hid (∀ j, j < c → wr.rowIs (w2.heap.size + 1 + j) 3 most (fun o => .int .i64 (cntP (r + 1) (inK opt d k c j o) : Nat))) := Lib.hid (fun j hj => (HRS.out j hj).congr (fun o ho => by rw [HST.out, if_neg (by rintro ⟨_, h⟩; exact hu (by omega)), Nat.add_zero]))
                by_cases u0 : 0 ≤ u
                · have u1 : ¬ u < (most : Int) := fun h => hu ⟨u0, h⟩
                  clear hu
                  go_wp2_with fail
                  go_roundw
                  case rel => exact ⟨r + 1, by omega, by go_num, HT.out, HNX.out, HBW.out⟩
                  case measure => (first | (simp [intOf]; done) | (simp [intOf]; omega))
                · clear hu
                  go_wp2_with fail
                  go_roundw
                  case rel => exact ⟨r + 1, by omega, by go_num, HT.out, HNX.out, HBW.out⟩
                  case measure => (first | (simp [intOf]; done) | (simp [intOf]; omega))
            · have hrz : ¬ (r : Int) < (k : Int) := by omega
              obtain rfl : r = k := by omega
              go_wp2_with fail
              go_ret2
              exact ⟨_, rfl, Tb.of_rows (by unfold maxLen; omega) HT.out (fun j hj => (HRS.out j hj).congr (fun o ho => by rw [HFIN.out])), BEL3.out.trans (HBW.out.mono hs3)⟩

end Go.Proofs.Ytjlefaojlngbiaa
