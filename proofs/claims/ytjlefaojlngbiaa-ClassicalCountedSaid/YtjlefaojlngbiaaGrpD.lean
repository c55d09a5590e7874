/- Contract of ref25.Groups: for slices of at most 60 elements, and for all arguments that it refuses. -/
import Derived.Test.YtjlefaojlngbiaaGrpC
import Derived.Maps.AppendAt
namespace Go.Proofs.Ytjlefaojlngbiaa
open Go.RowKit

set_option maxHeartbeats 4000000 in
/-- what the reference refuses -/
theorem xgroups_bad (a b : Option Addr) (no co nt ct : Nat) (opt tot : Nat → Int) (n most : Int) (w : World) (hA : Is w a no co opt) (hB : Is w b nt ct tot) (hc : gC no nt tot n most ≠ 0) :
    Calls Try.prog 7 #[.slice a no co, .slice b nt ct, .int .i64 n, .int .i64 most] w fun e w' => e = .returned (.tuple #[.slice none 0 0, .int .i64 (gC no nt tot n most)]) ∧ Below w.heap.size w w' := by
  have HI := Lib.hid (all_any b nt ct tot w hB)
  have h1 := hA.1
  have h2 := hA.2.1
  have h3 := hB.1
  have h4 := hB.2.1
  unfold maxLen at h2 h4
  clear hA hB
  have bel := Below.refl w.heap.size w
  unfold gC at hc ⊢
  by_cases a1 : n < 1
  · rw [if_pos (.inl a1)]
    clear hc
    go_enter Try.func7, Try.ntmps7
    go_wp2_with fail
    go_ret2
    exact ⟨rfl, bel⟩
  by_cases a2 : 5 < n
  · rw [if_pos (.inr (.inl a2))]
    clear hc
    go_enter Try.func7, Try.ntmps7
    go_wp2_with fail
    go_ret2
    exact ⟨rfl, bel⟩
  by_cases a3 : most < 1
  · rw [if_pos (.inr (.inr (.inl a3)))]
    clear hc
    go_enter Try.func7, Try.ntmps7
    go_wp2_with fail
    go_ret2
    exact ⟨rfl, bel⟩
  by_cases a4 : 10 < most
  · rw [if_pos (.inr (.inr (.inr a4)))]
    clear hc
    go_enter Try.func7, Try.ntmps7
    go_wp2_with fail
    go_ret2
    exact ⟨rfl, bel⟩
  rw [if_neg (by omega)] at hc ⊢
  by_cases b1 : 200 < no
  · rw [if_pos (.inl b1)]
    clear hc
    go_enter Try.func7, Try.ntmps7
    go_wp2_with fail
    go_ret2
    exact ⟨rfl, bel⟩
  by_cases b2 : 200 < nt
  · rw [if_pos (.inr b2)]
    clear hc
    go_enter Try.func7, Try.ntmps7
    go_wp2_with fail
    go_ret2
    exact ⟨rfl, bel⟩
  rw [if_neg (by omega)] at hc ⊢
  obtain ⟨r, hr⟩ : ∃ r, inRb tot nt = r := ⟨_, rfl⟩
  rw [hr] at HI hc ⊢
  clear hr
  cases r
  · rw [if_pos rfl]
    clear hc
    go_enter Try.func7, Try.ntmps7
    go_wp2_with fail
    refine HI.out.mono ?_
    rintro e w1 ⟨rfl, hb⟩
    have HB := Lib.hid hb
    clear hb bel
    go_wp2_with fail
    go_ret2
    exact ⟨rfl, HB.out⟩
  · rw [if_neg (by decide)] at hc ⊢
    by_cases d1 : no = nt
    · rw [if_neg (by omega)] at hc ⊢
      have e1 : no = 0 := by
        by_cases e : no = 0
        · exact e
        · rw [if_neg e] at hc; exact absurd rfl hc
      rw [if_pos e1]
      clear hc
      obtain rfl : no = 0 := e1
      obtain rfl : nt = 0 := by omega
      go_enter Try.func7, Try.ntmps7
      go_wp2_with fail
      refine HI.out.mono ?_
      rintro e w1 ⟨rfl, hb⟩
      have HB := Lib.hid hb
      clear hb bel
      go_wp2_with fail
      go_ret2
      exact ⟨rfl, HB.out⟩
    · rw [if_pos d1]
      clear hc
      have d2 : ¬ ((no : Int) = (nt : Int)) := by omega
      go_enter Try.func7, Try.ntmps7
      go_wp2_with fail
      refine HI.out.mono ?_
      rintro e w1 ⟨rfl, hb⟩
      have HB := Lib.hid hb
      clear hb bel
      go_wp2_with fail
      go_ret2
      exact ⟨rfl, HB.out⟩

theorem cntP_lt_of {F : Nat → Bool} : ∀ (n k : Nat), k < n → F k = false → cntP n F < n
  | 0, k, h, _ => by omega
  | n + 1, k, h, e => by
    rw [cntP_succ]
    by_cases e1 : k = n
    · subst e1; have := cntP_le k F; rw [if_neg (by rw [e]; decide)]; omega
    · have := cntP_lt_of n k (by omega) e; split <;> omega
theorem rnk_lt {T : Nat → Nat → Bool} (hO : Ord T) {n v : Nat} (h : v < n) : rnk T n v < n :=
  cntP_lt_of n v h (by have := hO.irrefl v; simpa using this)
/-- c rows, as a table's elements -/
def rws (rb : Nat → Nat) (most c : Nat) : List Value := (List.range c).map fun j => .slice (some ⟨rb j, 0, none⟩) most most
theorem rws_succ (rb : Nat → Nat) (most c b : Nat) : rws rb most c ++ [.slice (some ⟨b, 0, none⟩) most most] = rws (fun j => if j = c then b else rb j) most (c + 1) := by
  unfold rws
  rw [List.range_succ, List.map_append]
  congr 1
  · refine List.map_congr_left (fun j hj => ?_)
    show _ = Value.slice (some ⟨if j = c then b else rb j, 0, none⟩) most most
    rw [if_neg (by have := List.mem_range.1 hj; omega)]
  · simp
/-- the table while it grows -/
structure TR (w1 : World) (most c : Nat) (rb : Nat → Nat) (out : Value) (wr : World) : Prop where
  own : wr.ownsRow w1.heap.size 22 1 out c (rws rb most c)
  row : ∀ j, j < c → wr.rowIs (rb j) 3 most (fun _ => .int .i64 0)
  ne : ∀ j, j < c → out.ownBlock ≠ some (rb j)
  inj : ∀ j j', j < c → j' < c → rb j = rb j' → j = j'
  lo : ∀ j, j < c → w1.heap.size ≤ rb j
  bel : Below w1.heap.size w1 wr
theorem TR.start (w1 : World) (most : Nat) (rb : Nat → Nat) : TR w1 most 0 rb (.slice none 0 0) w1 :=
  ⟨⟨rfl, .inl ⟨rfl, rfl⟩⟩, fun j hj => by omega, fun j hj => by omega, fun j _ hj => by omega, fun j hj => by omega, Below.refl _ _⟩
theorem TR.step {w1 wr w2 : World} {most c : Nat} {rb : Nat → Nat} {out v2 : Value} {o2 : Obj} (h : TR w1 most c rb out wr)
    (hm : w2.ownsRow w1.heap.size 22 1 v2 (c + 1) (rws rb most c ++ [.slice (some ⟨wr.heap.size, 0, none⟩) most most]))
    (hg : ((wr.alloc (.cells (madeCells #[.int .i64 0] most) 3)).alloc o2).grownBy w2 out.ownBlock)
    (hat : v2.ownBlock = out.ownBlock ∨ v2.ownBlock = some ((wr.alloc (.cells (madeCells #[.int .i64 0] most) 3)).alloc o2).heap.size) :
    TR w1 most (c + 1) (fun j => if j = c then wr.heap.size else rb j) v2 w2 := by
  have hb := h.bel.size
  have hlt : ∀ k, out.ownBlock = some k → w1.heap.size ≤ k ∧ k < wr.heap.size := fun k hk => h.own.lt k hk
  rw [rws_succ] at hm
  have hrl : ∀ j, j < c → rb j < wr.heap.size := fun j hj => (h.row j hj).lt
  refine ⟨hm, fun j hj => ?_, fun j hj => ?_, fun j j' hj hj' e => ?_, fun j hj => ?_, ((h.bel.alloc hb _).alloc (by simp; omega) o2).grown hg (by simp; omega) (fun k hk => (hlt k hk).1)⟩
  · by_cases e : j = c
    · subst e
      rw [if_pos rfl]
      have hr := (World.rowIs_made wr (.int .i64 0) most 3).alloc o2
      exact hr.of_block (hg.block _ hr.lt (fun e => by have := (hlt _ e.symm).2; omega))
    · rw [if_neg e]
      have hr := ((h.row j (by omega)).alloc (.cells (madeCells #[.int .i64 0] most) 3)).alloc o2
      exact hr.of_block (hg.block _ hr.lt (fun e => h.ne j (by omega) e.symm))
  · by_cases e : j = c
    · subst e
      rw [if_pos rfl]
      rcases hat with hat | hat
      · rw [hat]; intro e; have := (hlt _ e).2; omega
      · rw [hat]; simp; omega
    · rw [if_neg e]
      rcases hat with hat | hat
      · rw [hat]; exact h.ne j (by omega)
      · rw [hat]; have := hrl j (by omega); simp; omega
  · change (if j = c then wr.heap.size else rb j) = (if j' = c then wr.heap.size else rb j') at e
    by_cases e1 : j = c <;> by_cases e2 : j' = c
    · omega
    · rw [if_pos e1, if_neg e2] at e; have := hrl j' (by omega); omega
    · rw [if_neg e1, if_pos e2] at e; have := hrl j (by omega); omega
    · rw [if_neg e1, if_neg e2] at e; exact h.inj j j' (by omega) (by omega) e
  · by_cases e : j = c
    · rw [if_pos e]; exact hb
    · rw [if_neg e]; exact h.lo j (by omega)
theorem TR.open {w1 wr : World} {most n : Nat} {rb : Nat → Nat} {out : Value} (h : TR w1 most n rb out wr) (hn : 0 < n) : ∃ g cap, out = .slice (some ⟨g, 0, none⟩) n cap ∧ n ≤ cap ∧ cap ≤ maxLen ∧ (∀ j, j < n → g ≠ rb j) ∧ g < wr.heap.size ∧ ∀ j, j < n → wr.cell? ⟨g, j, none⟩ = some (.slice (some ⟨rb j, 0, none⟩) most most) := by
  obtain ⟨_, ⟨_, h0⟩ | ⟨g, cap, cur, rfl, hg, hh, h1, h2, h3, h4⟩⟩ := h.own
  · omega
  · refine ⟨g, cap, rfl, h1, h2, fun j hj e => h.ne j hj (by simp [Value.ownBlock, e]), (Array.getElem?_eq_some_iff.1 hh).1, fun i hi => ?_⟩
    have h5 : cur.toList[i]? = some (.slice (some ⟨rb i, 0, none⟩) most most) := by
      have : (cur.toList.take (n * 1))[i]? = some (.slice (some ⟨rb i, 0, none⟩) most most) := by rw [h4]; simp [rws, hi]
      rwa [List.getElem?_take_of_lt (by omega)] at this
    simp [World.cell?, hh]
    simpa using h5

set_option maxHeartbeats 8000000 in
set_option maxRecDepth 100000 in
theorem xgroups_ok (a b : Option Addr) (len co ct n most : Nat) (opt tot : Nat → Int) (w : World) (hA : Is w a len co opt) (hB : Is w b len ct tot) (hr : inRb tot len = true) (hl : 0 < len) (hl2 : len ≤ 60) (hn1 : 1 ≤ n) (hn2 : n ≤ 5) (hm1 : 1 ≤ most) (hm2 : most ≤ 10) :
    Calls Try.prog 7 #[.slice a len co, .slice b len ct, .int .i64 n, .int .i64 most] w fun e w' => ∃ p cap, e = .returned (.tuple #[.slice p n cap, .int .i64 0]) ∧ Tb w' p n cap most (cG tot opt len n) ∧ Below w.heap.size w w' := by
  have HI := Lib.hid (all_any b len ct tot w hB)
  rw [hr] at HI
  have h1 := hA.1
  have h2 := hA.2.1
  have h3 := hB.1
  have h4 := hB.2.1
  unfold maxLen at h2 h4
  have HA := Lib.hid hA
  have HB := Lib.hid hB
  clear hA hB hr
  have nz1 : ¬ (n : Int) < 1 := by omega
  have nz2 : ¬ 5 < (n : Int) := by omega
  have mz1 : ¬ (most : Int) < 1 := by omega
  have mz2 : ¬ 10 < (most : Int) := by omega
  have lz1 : ¬ 200 < (len : Int) := by omega
  have lz2 : ¬ (len : Int) = 0 := by omega
  have mixed : Try.prog.follows Departure.mixedOrders = true := by kernel_rfl
  have lz3 : ((len : Int) == 0) = false := by simpa using lz2
  have mk3 := fun w => make_intsG most (by omega) w
  obtain ⟨i0, hi, hzz⟩ := Option.map_eq_some_iff.1 Try.infoRowG
  simp only [Prod.mk.injEq] at hzz
  obtain ⟨hz0, hz1, hz2⟩ := hzz
  go_enter Try.func7, Try.ntmps7
  go_wp2_with fail
  refine HI.out.mono ?_
  rintro e w1 ⟨rfl, hb⟩
  have BEL1 := Lib.hid hb
  clear hb HI
  go_wp2_with fail
  go_loopw [10, 11] (fun out i wr => ∃ (c : Nat) (rb : Nat → Nat), c ≤ n ∧ i = .int .i64 c ∧ Hid (TR w1 most c rb out wr)) (fun _ i _ => n - (intOf i).toNat)
  case atStart => exact ⟨0, fun _ => 0, Nat.zero_le _, rfl, Lib.hid (TR.start _ _ _)⟩
  case round =>
    obtain ⟨c, rb, hc, rfl, HT⟩ := hrel
    by_cases hcn : c < n
    · have hcz : (c : Int) < (n : Int) := by omega
      have hb1 := HT.out.bel.size
      go_wp2_with (at_builtin; refine wpList_append_own_at _ rfl (.tmp 52) (.tmp 55) 24 rfl w1.heap.size 22 i0 (.slice none 0 0) 1 24 Try.underTabG hi hz0 hz1 hz2 rfl (by decide) _ c (rws rb most c) rfl ((HT.out.own.alloc _).alloc _) ⟨wr.heap.size + 1, 0, none⟩ 1 1 [.slice (some ⟨wr.heap.size, 0, none⟩) most most] (by first | rfl | simp) rfl (by intro j u hj; rcases j with _ | j; (· simp at hj; subst hj; simp [Addr.add]); (· simp at hj)) (by intro u hu; simp at hu; subst hu; rfl) (by unfold maxLen; omega) (by omega) (by simp; omega) ?_; intro v2 w2 hm2 hg2 _ hat2; have HT2 := Lib.hid (HT.out.step hm2 hg2 hat2); clear hm2 hg2 hat2)
      go_roundw
      case rel => first | exact ⟨c + 1, _, by omega, by go_num, HT2⟩ | ((repeat apply Exists.intro); exact ⟨⟨c + 1, _, by omega, by first | rfl | go_num, HT2⟩, rfl⟩)
      case measure => (first | (simp [intOf]; done) | (simp [intOf]; omega))
    · have hcz : ¬ (c : Int) < (n : Int) := by omega
      obtain rfl : c = n := by omega
      obtain ⟨g, cap, rfl, hgc, hcm, hgne, hgl, hcl⟩ := HT.out.open (by omega)
      have HGN := Lib.hid hgne
      have HCL := Lib.hid hcl
      have hb1 := HT.out.bel.size
      unfold maxLen at hcm
      clear hgne hcl
      go_wp2_with fail
      go_loopw [12, 13] (fun i _ wz => ∃ k : Nat, k ≤ len ∧ i = .int .i64 k ∧ (∀ j, j < c → wz.cell? ⟨g, j, none⟩ = some (.slice (some ⟨rb j, 0, none⟩) most most)) ∧ (∀ j, j < c → wz.rowIs (rb j) 3 most (fun o => .int .i64 (cntP k (inG tot opt len c j o) : Nat))) ∧ Below w1.heap.size w1 wz) (fun i _ _ => len - (intOf i).toNat)
      case atStart => exact ⟨0, Nat.zero_le _, rfl, HCL.out, fun j hj => (HT.out.row j hj).congr (fun o ho => by first | (rw [cntP_zero]; done) | (rw [cntP_zero]; rfl)), HT.out.bel⟩
      case round =>
        obtain ⟨k, hk, rfl, htab, hrs, hbel⟩ := hrel
        have HTB := Lib.hid htab
        have HRS := Lib.hid hrs
        have HBW := Lib.hid hbel
        clear htab hrs hbel
        by_cases hkl : k < len
        · have hkz : (k : Int) < (len : Int) := by omega
          have bw := BEL1.out.trans (HBW.out.mono BEL1.out.size)
          have HB2 := Lib.hid (HB.out.below bw)
          obtain ⟨ab, off, rfl, ho⟩ := HA.out.2.2 (by omega)
          have c2 := cell_keep (ho k hkl) bw
          clear ho bw
          obtain ⟨u, eu⟩ : ∃ u, opt k = u := ⟨_, rfl⟩
          rw [eu] at c2
          have EU := Lib.hid eu
          clear eu
          obtain ⟨R, hR⟩ : ∃ R, rnk (keyT (totL tot)) len k = R := ⟨_, rfl⟩
          have hRl : R < len := by rw [← hR]; exact rnk_lt (totL_weak tot).ord hkl
          have HST := Lib.hid (show ∀ j o, cntP (k + 1) (inG tot opt len c j o) = cntP k (inG tot opt len c j o) + (if R * c / len = j ∧ u = (o : Int) then 1 else 0) from fun j o => by
            rw [cntP_succ]; unfold inG; rw [hR, EU.out]; simp only [decide_eq_true_eq])
          have HRK := Lib.hid (rank_any b len ct k tot wr HB2.out hkl (by omega))
          rw [hR] at HRK
          clear hR
          by_cases hu : 0 ≤ u ∧ u < (most : Int)
          · obtain ⟨o, rfl⟩ : ∃ o : Nat, u = (o : Int) := ⟨u.toNat, by omega⟩
            have hom : o < most := by omega
            have homz : (o : Int) < (most : Int) := by omega
            obtain ⟨rn, hrn⟩ : ∃ q, R * c = q := ⟨_, rfl⟩
            have hrn2 : rn ≤ 300 := by rw [← hrn]; exact Nat.mul_le_mul (show R ≤ 60 by omega) hn2
            have hrnk : rn < c * len := by rw [← hrn, Nat.mul_comm c len]; exact Nat.mul_lt_mul_of_pos_right hRl (by omega)
            have erz : (R : Int) * (c : Int) = (rn : Int) := by rw [← hrn]; simp
            obtain ⟨j, hj⟩ : ∃ q, rn / len = q := ⟨_, rfl⟩
            have hjc : j < c := by rw [← hj]; exact (Nat.div_lt_iff_lt_mul hl).2 hrnk
            have hjz : (j : Int) < (c : Int) := by omega
            have eD : (rn : Int) / (len : Int) = (j : Int) := by rw [← hj]; simp
            have eT : Int.tdiv (rn : Int) (len : Int) = (j : Int) := by rw [← hj]; simp
            rw [hrn, hj] at HST
            clear hrn hrnk hj hu
            go_wp2_with fail
            refine HRK.out.mono ?_
            rintro e w3 ⟨rfl, hb⟩
            have HB3 := Lib.hid hb
            have HBW3 := Lib.hid (HBW.out.trans (hb.mono HBW.out.size))
            have c2' := cell_keep c2 hb
            have HTB3 : Hid (∀ j, j < c → w3.cell? ⟨g, j, none⟩ = some (.slice (some ⟨rb j, 0, none⟩) most most)) := Lib.hid (fun j hj => cell_keep (HTB.out j hj) HB3.out)
            have HRS3 : Hid (∀ j, j < c → w3.rowIs (rb j) 3 most (fun o => .int .i64 (cntP k (inG tot opt len c j o) : Nat))) := Lib.hid (fun j hj => rowIs_below (HRS.out j hj) HB3.out)
            clear c2 HTB HRS HBW hb HRK HB2
            have c3 := HTB3.out j hjc
            have c4 := (HRS3.out j hjc).cell hom
            have f4 := (HRS3.out j hjc).frozen o
            have hq := cntP_le k (inG tot opt len c j o)
            obtain ⟨q, eq⟩ : ∃ q, cntP k (inG tot opt len c j o) = q := ⟨_, rfl⟩
            rw [eq] at c4 hq
            have EQ := Lib.hid eq
            have rq : IntKind.i64.wrap ((q : Int) + 1) = (q : Int) + 1 := by rw [IntKind.wrap_i64]; omega
            clear eq
            go_wp2_with fail
            go_big_region_o
            go_wp2_with fail
            go_roundw
            case rel =>
              have hne := HGN.out j hjc
              refine ⟨k + 1, by omega, by go_num, fun j' hj' => ?_, fun j' hj' => ?_, by first | exact HBW3.out.setCell (HT.out.lo j hjc) _ | exact (HBW3.out.setCell (HT.out.lo j hjc) _).drew⟩
              · exact (World.cell?_setCell_other _ _ _ _ (by intro e'; simp only [Addr.mk.injEq] at e'; omega)).trans (HTB3.out j' hj')
              · by_cases e : j' = j
                · subst e
                  refine World.rowIs.congr (World.rowIs.set (HRS3.out j' hj') o _) (fun o' ho' => ?_)
                  by_cases e2 : o' = o
                  · subst e2
                    rw [if_pos rfl, HST.out, if_pos ⟨rfl, rfl⟩, EQ.out]
                    first | rfl | go_num
                  · rw [if_neg e2, HST.out, if_neg (by rintro ⟨_, h⟩; exact e2 (by omega)), Nat.add_zero]
                · exact World.rowIs.congr (World.rowIs.setOther (HRS3.out j' hj') (fun h => e (HT.out.inj j' j hj' hjc h)) _) (fun o' ho' => by rw [HST.out, if_neg (by rintro ⟨h, _⟩; exact e h.symm), Nat.add_zero])
            case measure => (first | (simp [intOf]; done) | (simp [intOf]; omega))
          · have HNX : Hid (∀ j, j < c → wr.rowIs (rb j) 3 most (fun o => .int .i64 (cntP (k + 1) (inG tot opt len c j o) : Nat))) := Lib.hid (fun j hj => (HRS.out j hj).congr (fun o ho => by rw [HST.out, if_neg (by rintro ⟨_, h⟩; exact hu (by omega)), Nat.add_zero]))
            by_cases u0 : 0 ≤ u
            · have u1 : ¬ u < (most : Int) := fun h => hu ⟨u0, h⟩
              clear hu
              go_wp2_with fail
              go_roundw
              case rel => exact ⟨k + 1, by omega, by go_num, HTB.out, HNX.out, HBW.out⟩
              case measure => (first | (simp [intOf]; done) | (simp [intOf]; omega))
            · clear hu
              go_wp2_with fail
              go_roundw
              case rel => exact ⟨k + 1, by omega, by go_num, HTB.out, HNX.out, HBW.out⟩
              case measure => (first | (simp [intOf]; done) | (simp [intOf]; omega))
        · have hkz : ¬ (k : Int) < (len : Int) := by omega
          obtain rfl : k = len := by omega
          go_wp2_with fail
          go_ret2
          exact ⟨_, _, rfl, ⟨hgc, by unfold maxLen; exact hcm, fun _ => ⟨g, rb, rfl, fun j hj => ⟨HTB.out j hj, fun o ho => (HRS.out j hj).cell ho⟩⟩⟩, BEL1.out.trans (HBW.out.mono BEL1.out.size)⟩

end Go.Proofs.Ytjlefaojlngbiaa
