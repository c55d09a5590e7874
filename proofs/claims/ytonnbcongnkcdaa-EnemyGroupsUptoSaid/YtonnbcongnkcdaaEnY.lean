/- Contract of enemy.Families. Condition: at most 2^20 items. -/
import Derived.Test.YtonnbcongnkcdaaEnX
namespace Go.Proofs.Ytonnbcongnkcdaa
open Go.RowKit

/-- the slice holds n items of a pool, with the numbers it and the families fm -/
def Pi (w : World) (a : Option Addr) (n cap : Nat) (it fm : Nat → Int) : Prop :=
  n ≤ cap ∧ cap ≤ maxLen ∧ (0 < n → ∃ b off, a = some ⟨b, off, none⟩ ∧ ∀ k, k < n → ∃ (s : ByteArray) (x3 x4 x5 x6 x7 : Int) (xa : Option Addr) (xn xc : Nat), w.cell? ⟨b, off + k * 9, none⟩ = some (.int .i64 (it k)) ∧ w.cell? ⟨b, off + k * 9 + 1, none⟩ = some (.string s) ∧ w.cell? ⟨b, off + k * 9 + 2, none⟩ = some (.int .i64 (fm k)) ∧ w.cell? ⟨b, off + k * 9 + 3, none⟩ = some (.int .i64 x3) ∧ w.cell? ⟨b, off + k * 9 + 4, none⟩ = some (.int .i64 x4) ∧ w.cell? ⟨b, off + k * 9 + 5, none⟩ = some (.int .i64 x5) ∧ w.cell? ⟨b, off + k * 9 + 6, none⟩ = some (.int .i64 x6) ∧ w.cell? ⟨b, off + k * 9 + 7, none⟩ = some (.int .i64 x7) ∧ w.cell? ⟨b, off + k * 9 + 8, none⟩ = some (.slice xa xn xc))
theorem Pi.below {w w' : World} {a : Option Addr} {n cap : Nat} {it fm : Nat → Int} (h : Pi w a n cap it fm) (hb : Below w.heap.size w w') : Pi w' a n cap it fm := by
  obtain ⟨h1, h2, h3⟩ := h
  refine ⟨h1, h2, fun hn => ?_⟩
  obtain ⟨b, off, e, hc⟩ := h3 hn
  refine ⟨b, off, e, fun k hk => ?_⟩
  obtain ⟨s, x3, x4, x5, x6, x7, xa, xn, xc, c0, c1, c2, c3, c4, c5, c6, c7, c8⟩ := hc k hk
  exact ⟨s, x3, x4, x5, x6, x7, xa, xn, xc, cell_mono c0 hb, cell_mono c1 hb, cell_mono c2 hb, cell_mono c3 hb, cell_mono c4 hb, cell_mono c5 hb, cell_mono c6 hb, cell_mono c7 hb, cell_mono c8 hb⟩
theorem ow_ne_item {base : Nat} {w : World} {v : Value} {zs : List Int} {g : Nat} {c : Array Value} {fz : Nat × Nat} (h : Ow base 3 w v zs) (hb : w.heap[g]? = some (.cells c 57 fz)) : v.ownBlock ≠ some g := by
  rcases h.2 with ⟨rfl, _⟩ | ⟨g', cap, cur, rfl, _, hh, _⟩
  · intro e; cases e
  · intro e
    obtain rfl : g' = g := by simpa [Value.ownBlock] using e
    rw [hh] at hb
    simp at hb
theorem Ow.belowN {B N : Nat} {E : TypeId} {w w' : World} {v : Value} {l : List Int} (h : Ow B E w v l) (hb : Below N w w') (hN : ∀ g, v.ownBlock = some g → g < N) : Ow B E w' v l := by
  refine ⟨h.1, ?_⟩
  rcases h.2 with h2 | ⟨g, cap, cur, rfl, h3, hh, h4⟩
  · exact .inl h2
  · exact .inr ⟨g, cap, cur, rfl, h3, (hb.block g (hN g rfl)).trans hh, h4⟩
theorem Rv.belowN {K : TypeId} {N : Nat} {w w' : World} {b r n cnt : Nat} {val : Int → Value} {left : Int → Bool} (h : Rv Try.prog K w b r n val left cnt) (hb : Below N w w') (hN : b < N ∧ r < N) : Rv Try.prog K w' b r n val left cnt := by
  obtain ⟨D, lf, ⟨es, clock, since, seen, c0, h1, h2, h3, h4, h5, h6⟩, k, l⟩ := h
  exact ⟨D, lf, ⟨es, clock, since, seen, c0, (hb.block b hN.1).trans h1, h2, h3, h4, (hb.block r hN.2).trans h5, h6⟩, k, l⟩
theorem ow_len {B : Nat} {E : TypeId} {w : World} {zs : List Int} (h : Ow B E w (.slice none 0 0) zs) : zs = [] := by
  rcases h.open with ⟨_, h⟩ | ⟨g, c, h, _⟩
  · exact h
  · cases h
def FmG (base b n g : Nat) (x y : Int) (v0 : Value) (zs : List Int) (f : Int → List Int) (W : World) (z0 : Act) (L : Nat → Bool) (z1 : Act) (w : World) : Prop :=
  ∃ u23 u24 u25 u26 u27 u28 u29 u30 u31 u32 u33, z1 = (((((((((((z0.put (some 23) u23).put (some 24) u24).put (some 25) u25).put (some 26) u26).put (some 27) u27).put (some 28) u28).put (some 29) u29).put (some 30) u30).put (some 31) u31).put (some 32) u32).put (some 33) u33) ∧
    ((L 10 = false ∧ L 11 = false ∧ CloG L ∧ Since W w ∧ (L 0 = true → u23 = .map (some (b))) ∧ (L 1 = true → u24 = .pointer (some ⟨g, 2, none⟩)) ∧ (L 2 = true → u25 = .int .i64 x) ∧ (L 3 = true → u26 = .map (some (b))) ∧ (L 4 = true → u27 = .pointer (some ⟨g, 2, none⟩)) ∧ (L 5 = true → u28 = .int .i64 x) ∧ (L 6 = true → u29 = v0) ∧ (L 7 = true → u30 = .pointer (some ⟨g, 0, none⟩)) ∧ (L 8 = true → u31 = .int .i64 y) ∧ (L 9 = true → NewS y u32 w)) ∨
     (L 10 = true ∧ L 11 = false ∧ CloG L ∧ (∀ j, 3 ≤ j → j ≤ 9 → L j = true) ∧ AppS base W v0 (zs ++ [y]) u33 w ∧ (L 0 = true → u23 = .map (some (b))) ∧ (L 1 = true → u24 = .pointer (some ⟨g, 2, none⟩)) ∧ (L 2 = true → u25 = .int .i64 x)) ∨
     (L 11 = true ∧ (∀ j, j < 11 → L j = true) ∧ FinS base b n g x (zs ++ [y]) f W w))

theorem groups_mono {H : Type} {w : World} {K e : TypeId} {base b n : Nat} {D : DataW H} (h : w.ownsGroups Try.prog K base e .i64 b n D) : w.ownsGroups Try.prog K base e .i64 b (n + 1) D := by
  obtain ⟨es, clock, hb, F, hs, hD, hbb, hlen, hap⟩ := h
  exact ⟨es, clock, hb, F, Nat.le_succ_of_le hs, hD, hbb, fun x hx zs ho => Nat.le_succ_of_le (hlen x hx zs ho), hap⟩
theorem fam_rest {B : Nat} {w8 w10 : World} {left : Int → Bool} {val : Int → Value} {mf : Int → List Int} {x : Int} {v : Value} (h : ∀ y, W64 y → left y = true → Ow B 3 w8 (val y) (mf y)) (hg : w8.grownBy w10 v.ownBlock)
    (hap : ∀ x y, W64 x → W64 y → x ≠ y → (val x).ownBlock = none ∨ (val x).ownBlock ≠ (val y).ownBlock) (hx : W64 x) (hv : val x = v) : ∀ y, W64 y → (left y && !decide (y = x)) = true → Ow B 3 w10 (val y) (mf y) := fun y hy hly => by
  have h2 : left y = true ∧ ¬ y = x := by simpa using hly
  exact (h y hy h2.1).grown hg (by rw [← hv]; exact hap y x hy hx h2.2)
theorem op_ne {r B : Nat} {E : TypeId} {w : World} {v u : Value} {l : List (Int × Int)} (h : Op2 (r + 1) E w v l) (hu : ∀ g, u.ownBlock = some g → B ≤ g ∧ g < r) : v.ownBlock = none ∨ v.ownBlock ≠ u.ownBlock := by
  cases hc : v.ownBlock with
  | none => exact .inl rfl
  | some g => exact .inr fun e => by have h1 := (h.lt g hc).1; have h2 := (hu g e.symm).2; omega
set_option maxRecDepth 20000 in
set_option maxHeartbeats 16000000 in
theorem families_any (a : Option Addr) (n cap : Nat) (it fm : Nat → Int) (w : World) (h : Pi w a n cap it fm) (h64 : ∀ j, j < n → W64 (it j) ∧ W64 (fm j)) (hn : n ≤ 1048576) :
    Calls Try.prog 22 #[.slice a n cap] w fun e w' => ∃ v, e = .returned v ∧ PnO w.heap.size (normR (famR it fm n)) v w' ∧ Below w.heap.size w w' := by
  have HPI := Lib.hid h
  have b1 := h.1
  have b2 := h.2.1
  unfold maxLen at b2
  have H64 := Lib.hid h64
  clear h h64
  have hmm := @run_makeMap Try.prog
  obtain ⟨i0, hi, hzz⟩ := Option.map_eq_some_iff.1 infoIntG
  simp only [Prod.mk.injEq] at hzz
  obtain ⟨hz0, hz1, hz2⟩ := hzz
  obtain ⟨i1, hi1', hzz⟩ := Option.map_eq_some_iff.1 infoPairE
  simp only [Prod.mk.injEq] at hzz
  obtain ⟨hy0, hy1, hy2⟩ := hzz
  obtain ⟨N2, hN2⟩ : ∃ N2, n * n = N2 := ⟨_, rfl⟩
  have hN3 : N2 ≤ 1099511627776 := by rw [← hN2]; exact Nat.le_trans (Nat.mul_le_mul hn hn) (by decide)
  have HN2 := Lib.hid hN2
  clear hN2
  go_enter Try.func22, Try.ntmps22
  go_wp2_with fail
  go_loopw [5, 16] (fun _ i wr => ∃ q : Nat, q ≤ n ∧ i = .int .i64 q ∧ Mg Try.prog 3 3 wr (w.heap.size + 1) w.heap.size q (memF it fm q) ∧ w.grownBy wr (some w.heap.size) ∧ w.heap.size + 1 ≤ wr.heap.size) (fun _ i _ => n - (intOf i).toNat)
  case atStart => exact ⟨0, Nat.zero_le _, rfl, Mg.made w, gr_below2 (bel1 _ _) _, by simp⟩
  case round =>
    obtain ⟨q, hq, rfl, hmg, hgr, hsr⟩ := hrel
    have HMG1 := Lib.hid hmg
    have HGR := Lib.hid hgr
    clear hmg hgr
    by_cases hqn : q < n
    · obtain ⟨b, off, rfl, hc⟩ := HPI.out.2.2 (by omega)
      obtain ⟨s, x3, x4, x5, x6, x7, xa, xn, xc, d0, d1, d2, d3, d4, d5, d6, d7, d8⟩ := hc q hqn
      have hbw := World.block_lt_of_cell? w _ d0
      simp only at hbw
      replace d0 := gr_cell HGR.out hbw (by simp; omega) d0
      replace d1 := gr_cell HGR.out hbw (by simp; omega) d1
      replace d2 := gr_cell HGR.out hbw (by simp; omega) d2
      replace d3 := gr_cell HGR.out hbw (by simp; omega) d3
      replace d4 := gr_cell HGR.out hbw (by simp; omega) d4
      replace d5 := gr_cell HGR.out hbw (by simp; omega) d5
      replace d6 := gr_cell HGR.out hbw (by simp; omega) d6
      replace d7 := gr_cell HGR.out hbw (by simp; omega) d7
      replace d8 := gr_cell HGR.out hbw (by simp; omega) d8
      obtain ⟨x, hx⟩ : ∃ x, it q = x := ⟨_, rfl⟩
      obtain ⟨y, hy⟩ : ∃ y, fm q = y := ⟨_, rfl⟩
      rw [hx] at d0
      rw [hy] at d2
      have h6 := H64.out q hqn
      rw [hx, hy] at h6
      have HX64 := Lib.hid h6.2
      have HY64 := Lib.hid h6.1
      have HX := Lib.hid hx
      have HY := Lib.hid hy
      clear hc hx hy h6
      have hix0 : (0 : Int) ≤ (q : Int) := by omega
      have hix1 : (q : Int) < (n : Int) := by omega
      by_cases hpos : 0 < y
      · go_wp2_with fail
        refine region_name fun W7 hW => ?_
        have HBw := Lib.hid (show Below wr.heap.size wr W7 by rw [← hW]; (repeat' (first | with_reducible exact Below.refl _ _ | (with_reducible refine Below.alloc ?_ ?_ _; rotate_left; (focus (first | omega | (simp; done) | (simp; omega)))) | with_reducible apply Below.drew | (with_reducible refine Below.setCell ?_ ?_ _; rotate_left; (focus (first | omega | (simp; done) | (simp; omega)))))))
        have k_P_0 : W7.cell? ⟨wr.heap.size, 0, none⟩ = some (.int .i64 x) := by rw [← hW]; first | (go_simp; done) | (simp; done) | (simp [go_sem]; done)
        have k_P_2 : W7.cell? ⟨wr.heap.size, 2, none⟩ = some (.int .i64 y) := by rw [← hW]; first | (go_simp; done) | (simp; done) | (simp [go_sem]; done)
        have hl_P : wr.heap.size < W7.heap.size := by rw [← hW]; simp
        have hty : ∃ c fz, W7.heap[wr.heap.size]? = some (.cells c 57 fz) := by rw [← hW]; exact ⟨_, _, heap_alloc_new wr _⟩
        clear hW d0 d1 d2 d3 d4 d5 d6 d7 d8
        have HMG := Lib.hid (HMG1.out.below HBw.out)
        have HG7 := Lib.hid (gr_below HGR.out HBw.out)
        have hlb : w.heap.size < W7.heap.size := by omega
        have hnb : w.heap.size ≠ wr.heap.size := by omega
        have hbase : w.heap.size + 1 ≤ W7.heap.size := by omega
        obtain ⟨zs, hzs⟩ : ∃ z, memF it fm q y = z := ⟨_, rfl⟩
        have HZ1 := Lib.hid hzs
        obtain ⟨v0, hrun, how, hz64, hzl, hbk⟩ := HMG.out.here mtG (by unfold maxLen; omega) HX64.out
        rw [hzs] at how hz64 hzl
        have HRUN := Lib.hid hrun
        have HOW := Lib.hid how
        have HZ64 := Lib.hid hz64
        have HZL := Lib.hid hzl
        have HBK := Lib.hid hbk
        obtain ⟨tc, tf, hty⟩ := hty
        have HNE := Lib.hid (ow_ne_item how hty)
        clear hrun how hz64 hzl hbk hzs hty HMG1 HGR
        refine region_inv2 (by kernel_rfl) (FmG (w.heap.size + 1) (w.heap.size) (q) (wr.heap.size) y x v0 zs (memF it fm q) (W7)) ?_ ?_ ?_ ?_
        · exact ⟨u23, u24, u25, u26, u27, u28, u29, u30, u31, u32, u33, by simp only [Act.put, List.setIfInBounds_toArray, List.set_cons_zero, List.set_cons_succ], .inl ⟨rfl, rfl, CloG.none, Since.drawn _, (fun h => by cases h), (fun h => by cases h), (fun h => by cases h), (fun h => by cases h), (fun h => by cases h), (fun h => by cases h), (fun h => by cases h), (fun h => by cases h), (fun h => by cases h), (fun h => by cases h)⟩⟩
        · exact acyc_spec (by kernel_rfl)
        · intro Ls a0 wq i o ho hLi hafter hJ
          have hio : i < 12 := (Array.getElem?_eq_some_iff.1 ho).1
          obtain ⟨u23, u24, u25, u26, u27, u28, u29, u30, u31, u32, u33, rfl, hJ | hJ | hJ⟩ := hJ
          · obtain ⟨h10, h11, hcl, hS, p0, p1, p2, p3, p4, p5, p6, p7, p8, p9⟩ := hJ
            have HCL := Lib.hid hcl
            clear hcl
            obtain rfl | rfl | rfl | rfl | rfl | rfl | rfl | rfl | rfl | rfl | rfl | rfl : i = 0 ∨ i = 1 ∨ i = 2 ∨ i = 3 ∨ i = 4 ∨ i = 5 ∨ i = 6 ∨ i = 7 ∨ i = 8 ∨ i = 9 ∨ i = 10 ∨ i = 11 := by omega
            · simp only [List.getElem?_toArray, List.getElem?_cons_zero, Option.some.injEq] at ho
              subst ho
              have P0 := Lib.hid p0; have P1 := Lib.hid p1; have P2 := Lib.hid p2; have P3 := Lib.hid p3; have P4 := Lib.hid p4; have P5 := Lib.hid p5; have P6 := Lib.hid p6; have P7 := Lib.hid p7; have P8 := Lib.hid p8; have P9 := Lib.hid p9; clear hLi hafter p0 p1 p2 p3 p4 p5 p6 p7 p8 p9
              have HS := Lib.hid hS
              clear hS
              simp only [Act.put, List.setIfInBounds_toArray, List.set_cons_zero, List.set_cons_succ]
              go_wp2_with fail
              exact ⟨.map (some (w.heap.size)), u24, u25, u26, u27, u28, u29, u30, u31, u32, u33, by simp only [Act.put, List.setIfInBounds_toArray, List.set_cons_zero, List.set_cons_succ], .inl ⟨by simpa using h10, by simpa using h11, (by first | exact HCL.out.set 0 (by intro p hp e; simp only [cloP, List.mem_cons, List.not_mem_nil, or_false] at hp; rcases hp with rfl | rfl | rfl | rfl | rfl | rfl <;> first | (exact absurd e (by decide)) | assumption) | exact HCL.out.set' 0 (by intro p hp e; simp only [cloP, List.mem_cons, List.not_mem_nil, or_false] at hp; rcases hp with rfl | rfl | rfl | rfl | rfl | rfl <;> first | (exact absurd e (by decide)) | assumption)), HS.out, (fun _ => rfl), (fun h => by first | rfl | exact P1.out (by simpa using h)), (fun h => by first | rfl | exact P2.out (by simpa using h)), (fun h => by first | rfl | exact P3.out (by simpa using h)), (fun h => by first | rfl | exact P4.out (by simpa using h)), (fun h => by first | rfl | exact P5.out (by simpa using h)), (fun h => by first | rfl | exact P6.out (by simpa using h)), (fun h => by first | rfl | exact P7.out (by simpa using h)), (fun h => by first | rfl | exact P8.out (by simpa using h)), (fun h => P9.out (by simpa using h))⟩⟩
            · simp only [List.getElem?_toArray, List.getElem?_cons_zero, List.getElem?_cons_succ, Option.some.injEq] at ho
              subst ho
              have P0 := Lib.hid p0; have P1 := Lib.hid p1; have P2 := Lib.hid p2; have P3 := Lib.hid p3; have P4 := Lib.hid p4; have P5 := Lib.hid p5; have P6 := Lib.hid p6; have P7 := Lib.hid p7; have P8 := Lib.hid p8; have P9 := Lib.hid p9; clear hLi hafter p0 p1 p2 p3 p4 p5 p6 p7 p8 p9
              have HS := Lib.hid hS
              clear hS
              simp only [Act.put, List.setIfInBounds_toArray, List.set_cons_zero, List.set_cons_succ]
              go_wp2_with fail
              exact ⟨u23, .pointer (some ⟨wr.heap.size, 2, none⟩), u25, u26, u27, u28, u29, u30, u31, u32, u33, by simp only [Act.put, List.setIfInBounds_toArray, List.set_cons_zero, List.set_cons_succ], .inl ⟨by simpa using h10, by simpa using h11, (by first | exact HCL.out.set 1 (by intro p hp e; simp only [cloP, List.mem_cons, List.not_mem_nil, or_false] at hp; rcases hp with rfl | rfl | rfl | rfl | rfl | rfl <;> first | (exact absurd e (by decide)) | assumption) | exact HCL.out.set' 1 (by intro p hp e; simp only [cloP, List.mem_cons, List.not_mem_nil, or_false] at hp; rcases hp with rfl | rfl | rfl | rfl | rfl | rfl <;> first | (exact absurd e (by decide)) | assumption)), HS.out, (fun h => by first | rfl | exact P0.out (by simpa using h)), (fun _ => rfl), (fun h => by first | rfl | exact P2.out (by simpa using h)), (fun h => by first | rfl | exact P3.out (by simpa using h)), (fun h => by first | rfl | exact P4.out (by simpa using h)), (fun h => by first | rfl | exact P5.out (by simpa using h)), (fun h => by first | rfl | exact P6.out (by simpa using h)), (fun h => by first | rfl | exact P7.out (by simpa using h)), (fun h => by first | rfl | exact P8.out (by simpa using h)), (fun h => P9.out (by simpa using h))⟩⟩
            · simp only [List.getElem?_toArray, List.getElem?_cons_zero, List.getElem?_cons_succ, Option.some.injEq] at ho
              subst ho
              have q1 : Ls 1 = true := hafter ⟨1, .data⟩ (by simp) rfl
              obtain rfl := p1 (hafter ⟨1, .data⟩ (by simp) rfl)
              have c0 := (hS.1.cell (p := ⟨wr.heap.size, 2, none⟩) hl_P).trans k_P_2
              have P0 := Lib.hid p0; have P1 := Lib.hid p1; have P2 := Lib.hid p2; have P3 := Lib.hid p3; have P4 := Lib.hid p4; have P5 := Lib.hid p5; have P6 := Lib.hid p6; have P7 := Lib.hid p7; have P8 := Lib.hid p8; have P9 := Lib.hid p9; clear hLi hafter p0 p1 p2 p3 p4 p5 p6 p7 p8 p9
              have HS := Lib.hid hS
              clear hS
              simp only [Act.put, List.setIfInBounds_toArray, List.set_cons_zero, List.set_cons_succ]
              go_wp2_with fail
              exact ⟨u23, .pointer (some ⟨wr.heap.size, 2, none⟩), .int .i64 y, u26, u27, u28, u29, u30, u31, u32, u33, by simp only [Act.put, List.setIfInBounds_toArray, List.set_cons_zero, List.set_cons_succ], .inl ⟨by simpa using h10, by simpa using h11, (by first | exact HCL.out.set 2 (by intro p hp e; simp only [cloP, List.mem_cons, List.not_mem_nil, or_false] at hp; rcases hp with rfl | rfl | rfl | rfl | rfl | rfl <;> first | (exact absurd e (by decide)) | assumption) | exact HCL.out.set' 2 (by intro p hp e; simp only [cloP, List.mem_cons, List.not_mem_nil, or_false] at hp; rcases hp with rfl | rfl | rfl | rfl | rfl | rfl <;> first | (exact absurd e (by decide)) | assumption)), HS.out, (fun h => by first | rfl | exact P0.out (by simpa using h)), (fun h => by first | rfl | exact P1.out (by simpa using h)), (fun _ => rfl), (fun h => by first | rfl | exact P3.out (by simpa using h)), (fun h => by first | rfl | exact P4.out (by simpa using h)), (fun h => by first | rfl | exact P5.out (by simpa using h)), (fun h => by first | rfl | exact P6.out (by simpa using h)), (fun h => by first | rfl | exact P7.out (by simpa using h)), (fun h => by first | rfl | exact P8.out (by simpa using h)), (fun h => P9.out (by simpa using h))⟩⟩
            · simp only [List.getElem?_toArray, List.getElem?_cons_zero, List.getElem?_cons_succ, Option.some.injEq] at ho
              subst ho
              have P0 := Lib.hid p0; have P1 := Lib.hid p1; have P2 := Lib.hid p2; have P3 := Lib.hid p3; have P4 := Lib.hid p4; have P5 := Lib.hid p5; have P6 := Lib.hid p6; have P7 := Lib.hid p7; have P8 := Lib.hid p8; have P9 := Lib.hid p9; clear hLi hafter p0 p1 p2 p3 p4 p5 p6 p7 p8 p9
              have HS := Lib.hid hS
              clear hS
              simp only [Act.put, List.setIfInBounds_toArray, List.set_cons_zero, List.set_cons_succ]
              go_wp2_with fail
              exact ⟨u23, u24, u25, .map (some (w.heap.size)), u27, u28, u29, u30, u31, u32, u33, by simp only [Act.put, List.setIfInBounds_toArray, List.set_cons_zero, List.set_cons_succ], .inl ⟨by simpa using h10, by simpa using h11, (by first | exact HCL.out.set 3 (by intro p hp e; simp only [cloP, List.mem_cons, List.not_mem_nil, or_false] at hp; rcases hp with rfl | rfl | rfl | rfl | rfl | rfl <;> first | (exact absurd e (by decide)) | assumption) | exact HCL.out.set' 3 (by intro p hp e; simp only [cloP, List.mem_cons, List.not_mem_nil, or_false] at hp; rcases hp with rfl | rfl | rfl | rfl | rfl | rfl <;> first | (exact absurd e (by decide)) | assumption)), HS.out, (fun h => by first | rfl | exact P0.out (by simpa using h)), (fun h => by first | rfl | exact P1.out (by simpa using h)), (fun h => by first | rfl | exact P2.out (by simpa using h)), (fun _ => rfl), (fun h => by first | rfl | exact P4.out (by simpa using h)), (fun h => by first | rfl | exact P5.out (by simpa using h)), (fun h => by first | rfl | exact P6.out (by simpa using h)), (fun h => by first | rfl | exact P7.out (by simpa using h)), (fun h => by first | rfl | exact P8.out (by simpa using h)), (fun h => P9.out (by simpa using h))⟩⟩
            · simp only [List.getElem?_toArray, List.getElem?_cons_zero, List.getElem?_cons_succ, Option.some.injEq] at ho
              subst ho
              have P0 := Lib.hid p0; have P1 := Lib.hid p1; have P2 := Lib.hid p2; have P3 := Lib.hid p3; have P4 := Lib.hid p4; have P5 := Lib.hid p5; have P6 := Lib.hid p6; have P7 := Lib.hid p7; have P8 := Lib.hid p8; have P9 := Lib.hid p9; clear hLi hafter p0 p1 p2 p3 p4 p5 p6 p7 p8 p9
              have HS := Lib.hid hS
              clear hS
              simp only [Act.put, List.setIfInBounds_toArray, List.set_cons_zero, List.set_cons_succ]
              go_wp2_with fail
              exact ⟨u23, u24, u25, u26, .pointer (some ⟨wr.heap.size, 2, none⟩), u28, u29, u30, u31, u32, u33, by simp only [Act.put, List.setIfInBounds_toArray, List.set_cons_zero, List.set_cons_succ], .inl ⟨by simpa using h10, by simpa using h11, (by first | exact HCL.out.set 4 (by intro p hp e; simp only [cloP, List.mem_cons, List.not_mem_nil, or_false] at hp; rcases hp with rfl | rfl | rfl | rfl | rfl | rfl <;> first | (exact absurd e (by decide)) | assumption) | exact HCL.out.set' 4 (by intro p hp e; simp only [cloP, List.mem_cons, List.not_mem_nil, or_false] at hp; rcases hp with rfl | rfl | rfl | rfl | rfl | rfl <;> first | (exact absurd e (by decide)) | assumption)), HS.out, (fun h => by first | rfl | exact P0.out (by simpa using h)), (fun h => by first | rfl | exact P1.out (by simpa using h)), (fun h => by first | rfl | exact P2.out (by simpa using h)), (fun h => by first | rfl | exact P3.out (by simpa using h)), (fun _ => rfl), (fun h => by first | rfl | exact P5.out (by simpa using h)), (fun h => by first | rfl | exact P6.out (by simpa using h)), (fun h => by first | rfl | exact P7.out (by simpa using h)), (fun h => by first | rfl | exact P8.out (by simpa using h)), (fun h => P9.out (by simpa using h))⟩⟩
            · simp only [List.getElem?_toArray, List.getElem?_cons_zero, List.getElem?_cons_succ, Option.some.injEq] at ho
              subst ho
              have q4 : Ls 4 = true := hafter ⟨4, .data⟩ (by simp) rfl
              obtain rfl := p4 (hafter ⟨4, .data⟩ (by simp) rfl)
              have c0 := (hS.1.cell (p := ⟨wr.heap.size, 2, none⟩) hl_P).trans k_P_2
              have P0 := Lib.hid p0; have P1 := Lib.hid p1; have P2 := Lib.hid p2; have P3 := Lib.hid p3; have P4 := Lib.hid p4; have P5 := Lib.hid p5; have P6 := Lib.hid p6; have P7 := Lib.hid p7; have P8 := Lib.hid p8; have P9 := Lib.hid p9; clear hLi hafter p0 p1 p2 p3 p4 p5 p6 p7 p8 p9
              have HS := Lib.hid hS
              clear hS
              simp only [Act.put, List.setIfInBounds_toArray, List.set_cons_zero, List.set_cons_succ]
              go_wp2_with fail
              exact ⟨u23, u24, u25, u26, .pointer (some ⟨wr.heap.size, 2, none⟩), .int .i64 y, u29, u30, u31, u32, u33, by simp only [Act.put, List.setIfInBounds_toArray, List.set_cons_zero, List.set_cons_succ], .inl ⟨by simpa using h10, by simpa using h11, (by first | exact HCL.out.set 5 (by intro p hp e; simp only [cloP, List.mem_cons, List.not_mem_nil, or_false] at hp; rcases hp with rfl | rfl | rfl | rfl | rfl | rfl <;> first | (exact absurd e (by decide)) | assumption) | exact HCL.out.set' 5 (by intro p hp e; simp only [cloP, List.mem_cons, List.not_mem_nil, or_false] at hp; rcases hp with rfl | rfl | rfl | rfl | rfl | rfl <;> first | (exact absurd e (by decide)) | assumption)), HS.out, (fun h => by first | rfl | exact P0.out (by simpa using h)), (fun h => by first | rfl | exact P1.out (by simpa using h)), (fun h => by first | rfl | exact P2.out (by simpa using h)), (fun h => by first | rfl | exact P3.out (by simpa using h)), (fun h => by first | rfl | exact P4.out (by simpa using h)), (fun _ => rfl), (fun h => by first | rfl | exact P6.out (by simpa using h)), (fun h => by first | rfl | exact P7.out (by simpa using h)), (fun h => by first | rfl | exact P8.out (by simpa using h)), (fun h => P9.out (by simpa using h))⟩⟩
            · simp only [List.getElem?_toArray, List.getElem?_cons_zero, List.getElem?_cons_succ, Option.some.injEq] at ho
              subst ho
              have q3 : Ls 3 = true := hafter ⟨3, .data⟩ (by simp) rfl
              have q5 : Ls 5 = true := hafter ⟨5, .data⟩ (by simp) rfl
              obtain rfl := p3 (hafter ⟨3, .data⟩ (by simp) rfl)
              obtain rfl := p5 (hafter ⟨5, .data⟩ (by simp) rfl)
              have P0 := Lib.hid p0; have P1 := Lib.hid p1; have P2 := Lib.hid p2; have P3 := Lib.hid p3; have P4 := Lib.hid p4; have P5 := Lib.hid p5; have P6 := Lib.hid p6; have P7 := Lib.hid p7; have P8 := Lib.hid p8; have P9 := Lib.hid p9; clear hLi hafter p0 p1 p2 p3 p4 p5 p6 p7 p8 p9
              have HS := Lib.hid hS
              clear hS
              simp only [Act.put, List.setIfInBounds_toArray, List.set_cons_zero, List.set_cons_succ]
              go_wp2_with (at_lookup; refine wp_look_h _ rfl _ _ rfl (w.heap.size) rfl _ v0 rfl (HRUN.out _ (HS.out.1.block _ hlb)) ?_)
              exact ⟨u23, u24, u25, .map (some (w.heap.size)), u27, .int .i64 y, v0, u30, u31, u32, u33, by simp only [Act.put, List.setIfInBounds_toArray, List.set_cons_zero, List.set_cons_succ], .inl ⟨by simpa using h10, by simpa using h11, (by first | exact HCL.out.set 6 (by intro p hp e; simp only [cloP, List.mem_cons, List.not_mem_nil, or_false] at hp; rcases hp with rfl | rfl | rfl | rfl | rfl | rfl <;> first | (exact absurd e (by decide)) | assumption) | exact HCL.out.set' 6 (by intro p hp e; simp only [cloP, List.mem_cons, List.not_mem_nil, or_false] at hp; rcases hp with rfl | rfl | rfl | rfl | rfl | rfl <;> first | (exact absurd e (by decide)) | assumption)), HS.out, (fun h => by first | rfl | exact P0.out (by simpa using h)), (fun h => by first | rfl | exact P1.out (by simpa using h)), (fun h => by first | rfl | exact P2.out (by simpa using h)), (fun h => by first | rfl | exact P3.out (by simpa using h)), (fun h => by first | rfl | exact P4.out (by simpa using h)), (fun h => by first | rfl | exact P5.out (by simpa using h)), (fun _ => rfl), (fun h => by first | rfl | exact P7.out (by simpa using h)), (fun h => by first | rfl | exact P8.out (by simpa using h)), (fun h => P9.out (by simpa using h))⟩⟩
            · simp only [List.getElem?_toArray, List.getElem?_cons_zero, List.getElem?_cons_succ, Option.some.injEq] at ho
              subst ho
              have P0 := Lib.hid p0; have P1 := Lib.hid p1; have P2 := Lib.hid p2; have P3 := Lib.hid p3; have P4 := Lib.hid p4; have P5 := Lib.hid p5; have P6 := Lib.hid p6; have P7 := Lib.hid p7; have P8 := Lib.hid p8; have P9 := Lib.hid p9; clear hLi hafter p0 p1 p2 p3 p4 p5 p6 p7 p8 p9
              have HS := Lib.hid hS
              clear hS
              simp only [Act.put, List.setIfInBounds_toArray, List.set_cons_zero, List.set_cons_succ]
              go_wp2_with fail
              exact ⟨u23, u24, u25, u26, u27, u28, u29, .pointer (some ⟨wr.heap.size, 0, none⟩), u31, u32, u33, by simp only [Act.put, List.setIfInBounds_toArray, List.set_cons_zero, List.set_cons_succ], .inl ⟨by simpa using h10, by simpa using h11, (by first | exact HCL.out.set 7 (by intro p hp e; simp only [cloP, List.mem_cons, List.not_mem_nil, or_false] at hp; rcases hp with rfl | rfl | rfl | rfl | rfl | rfl <;> first | (exact absurd e (by decide)) | assumption) | exact HCL.out.set' 7 (by intro p hp e; simp only [cloP, List.mem_cons, List.not_mem_nil, or_false] at hp; rcases hp with rfl | rfl | rfl | rfl | rfl | rfl <;> first | (exact absurd e (by decide)) | assumption)), HS.out, (fun h => by first | rfl | exact P0.out (by simpa using h)), (fun h => by first | rfl | exact P1.out (by simpa using h)), (fun h => by first | rfl | exact P2.out (by simpa using h)), (fun h => by first | rfl | exact P3.out (by simpa using h)), (fun h => by first | rfl | exact P4.out (by simpa using h)), (fun h => by first | rfl | exact P5.out (by simpa using h)), (fun h => by first | rfl | exact P6.out (by simpa using h)), (fun _ => rfl), (fun h => by first | rfl | exact P8.out (by simpa using h)), (fun h => P9.out (by simpa using h))⟩⟩
            · simp only [List.getElem?_toArray, List.getElem?_cons_zero, List.getElem?_cons_succ, Option.some.injEq] at ho
              subst ho
              have q7 : Ls 7 = true := hafter ⟨7, .data⟩ (by simp) rfl
              obtain rfl := p7 (hafter ⟨7, .data⟩ (by simp) rfl)
              have c0 := (hS.1.cell (p := ⟨wr.heap.size, 0, none⟩) hl_P).trans k_P_0
              have P0 := Lib.hid p0; have P1 := Lib.hid p1; have P2 := Lib.hid p2; have P3 := Lib.hid p3; have P4 := Lib.hid p4; have P5 := Lib.hid p5; have P6 := Lib.hid p6; have P7 := Lib.hid p7; have P8 := Lib.hid p8; have P9 := Lib.hid p9; clear hLi hafter p0 p1 p2 p3 p4 p5 p6 p7 p8 p9
              have HS := Lib.hid hS
              clear hS
              simp only [Act.put, List.setIfInBounds_toArray, List.set_cons_zero, List.set_cons_succ]
              go_wp2_with fail
              exact ⟨u23, u24, u25, u26, u27, u28, u29, .pointer (some ⟨wr.heap.size, 0, none⟩), .int .i64 x, u32, u33, by simp only [Act.put, List.setIfInBounds_toArray, List.set_cons_zero, List.set_cons_succ], .inl ⟨by simpa using h10, by simpa using h11, (by first | exact HCL.out.set 8 (by intro p hp e; simp only [cloP, List.mem_cons, List.not_mem_nil, or_false] at hp; rcases hp with rfl | rfl | rfl | rfl | rfl | rfl <;> first | (exact absurd e (by decide)) | assumption) | exact HCL.out.set' 8 (by intro p hp e; simp only [cloP, List.mem_cons, List.not_mem_nil, or_false] at hp; rcases hp with rfl | rfl | rfl | rfl | rfl | rfl <;> first | (exact absurd e (by decide)) | assumption)), HS.out, (fun h => by first | rfl | exact P0.out (by simpa using h)), (fun h => by first | rfl | exact P1.out (by simpa using h)), (fun h => by first | rfl | exact P2.out (by simpa using h)), (fun h => by first | rfl | exact P3.out (by simpa using h)), (fun h => by first | rfl | exact P4.out (by simpa using h)), (fun h => by first | rfl | exact P5.out (by simpa using h)), (fun h => by first | rfl | exact P6.out (by simpa using h)), (fun h => by first | rfl | exact P7.out (by simpa using h)), (fun _ => rfl), (fun h => P9.out (by simpa using h))⟩⟩
            · simp only [List.getElem?_toArray, List.getElem?_cons_zero, List.getElem?_cons_succ, Option.some.injEq] at ho
              subst ho
              have q8 : Ls 8 = true := hafter ⟨8, .data⟩ (by simp) rfl
              obtain rfl := p8 (hafter ⟨8, .data⟩ (by simp) rfl)
              have P0 := Lib.hid p0; have P1 := Lib.hid p1; have P2 := Lib.hid p2; have P3 := Lib.hid p3; have P4 := Lib.hid p4; have P5 := Lib.hid p5; have P6 := Lib.hid p6; have P7 := Lib.hid p7; have P8 := Lib.hid p8; have P9 := Lib.hid p9; clear hLi hafter p0 p1 p2 p3 p4 p5 p6 p7 p8 p9
              have HS := Lib.hid hS
              clear hS
              simp only [Act.put, List.setIfInBounds_toArray, List.set_cons_zero, List.set_cons_succ]
              go_wp2_with fail
              exact ⟨u23, u24, u25, u26, u27, u28, u29, u30, .int .i64 x, _, u33, by simp only [Act.put, List.setIfInBounds_toArray, List.set_cons_zero, List.set_cons_succ], .inl ⟨by simpa using h10, by simpa using h11, (by first | exact HCL.out.set 9 (by intro p hp e; simp only [cloP, List.mem_cons, List.not_mem_nil, or_false] at hp; rcases hp with rfl | rfl | rfl | rfl | rfl | rfl <;> first | (exact absurd e (by decide)) | assumption) | exact HCL.out.set' 9 (by intro p hp e; simp only [cloP, List.mem_cons, List.not_mem_nil, or_false] at hp; rcases hp with rfl | rfl | rfl | rfl | rfl | rfl <;> first | (exact absurd e (by decide)) | assumption)), HS.out.alloc1 _, (fun h => by first | rfl | exact P0.out (by simpa using h)), (fun h => by first | rfl | exact P1.out (by simpa using h)), (fun h => by first | rfl | exact P2.out (by simpa using h)), (fun h => by first | rfl | exact P3.out (by simpa using h)), (fun h => by first | rfl | exact P4.out (by simpa using h)), (fun h => by first | rfl | exact P5.out (by simpa using h)), (fun h => by first | rfl | exact P6.out (by simpa using h)), (fun h => by first | rfl | exact P7.out (by simpa using h)), (fun h => by first | rfl | exact P8.out (by simpa using h)), (fun _ => NewS.mk _ _ _)⟩⟩
            · simp only [List.getElem?_toArray, List.getElem?_cons_zero, List.getElem?_cons_succ, Option.some.injEq] at ho
              subst ho
              have q6 : Ls 6 = true := hafter ⟨6, .data⟩ (by simp) rfl
              have q9 : Ls 9 = true := hafter ⟨9, .data⟩ (by simp) rfl
              obtain rfl := (p6 q6).symm
              obtain ⟨g9, c9, rfl, hc9, hs9⟩ := p9 q9
              have HALL := Lib.hid (HCL.out.all q6 q9)
              have P0 := Lib.hid p0; have P1 := Lib.hid p1; have P2 := Lib.hid p2; have HS := Lib.hid hS; clear hLi hafter hS p0 p1 p2 p3 p4 p5 p6 p7 p8 p9
              have hsW := HS.out.2
              simp only [Act.put, List.setIfInBounds_toArray, List.set_cons_zero, List.set_cons_succ]
              go_wp2_with (at_builtin; refine wpList_append_own_at _ rfl (.tmp 29) (.tmp 32) 31 rfl (w.heap.size + 1) 3 i0 (.int .i64 0) 1 8 slUnder hi hz0 hz1 hz2 rfl (by decide) v0 zs.length (zs.map (Value.int .i64)) rfl (HOW.out.below HS.out.1) ⟨g9, 0, none⟩ 1 c9 [.int .i64 x] rfl rfl (cell_oneN hc9) (by intro u hu; rcases List.mem_cons.1 hu with rfl | hu; (· rfl); (· cases hu)) (by have := HZL.out; unfold maxLen; omega) (by have := HZL.out; omega) (by omega) ?_; intro v9 w9 hm9 hg9 _ hat9; have HA9 := Lib.hid (AppS.mk' HS.out (Ow.push hm9) hg9 hat9); clear hm9 hg9 hat9)
              exact ⟨u23, u24, u25, u26, u27, u28, v0, u30, u31, .slice (some ⟨g9, 0, none⟩) 1 c9, v9, by simp only [Act.put, List.setIfInBounds_toArray, List.set_cons_zero, List.set_cons_succ], .inr (.inl ⟨by simp, by simpa using h11, (by first | exact HCL.out.set 10 (by intro p hp e; simp only [cloP, List.mem_cons, List.not_mem_nil, or_false] at hp; rcases hp with rfl | rfl | rfl | rfl | rfl | rfl <;> first | (exact absurd e (by decide)) | assumption) | exact HCL.out.set' 10 (by intro p hp e; simp only [cloP, List.mem_cons, List.not_mem_nil, or_false] at hp; rcases hp with rfl | rfl | rfl | rfl | rfl | rfl <;> first | (exact absurd e (by decide)) | assumption)), (fun j h3 h9 => by have := HALL.out j h3 h9; simp [this]), HA9.out, (fun h => by first | rfl | exact P0.out (by simpa using h)), (fun h => by first | rfl | exact P1.out (by simpa using h)), (fun h => by first | rfl | exact P2.out (by simpa using h))⟩)⟩
            · exfalso
              simp only [List.getElem?_toArray, List.getElem?_cons_zero, List.getElem?_cons_succ, Option.some.injEq] at ho
              subst ho
              have q10 : Ls 10 = true := hafter ⟨10, .data⟩ (by simp) rfl
              rw [h10] at q10; cases q10
          · obtain ⟨h10, h11, hcl, hall, hA, p0, p1, p2⟩ := hJ
            have HCL := Lib.hid hcl
            have HA := Lib.hid hA
            clear hcl hA
            have HALL := Lib.hid hall
            clear hall
            obtain rfl | rfl | rfl | rfl | rfl | rfl | rfl | rfl | rfl | rfl | rfl | rfl : i = 0 ∨ i = 1 ∨ i = 2 ∨ i = 3 ∨ i = 4 ∨ i = 5 ∨ i = 6 ∨ i = 7 ∨ i = 8 ∨ i = 9 ∨ i = 10 ∨ i = 11 := by omega
            · simp only [List.getElem?_toArray, List.getElem?_cons_zero, Option.some.injEq] at ho
              subst ho
              have P0 := Lib.hid p0; have P1 := Lib.hid p1; have P2 := Lib.hid p2; clear hLi hafter p0 p1 p2
              simp only [Act.put, List.setIfInBounds_toArray, List.set_cons_zero, List.set_cons_succ]
              go_wp2_with fail
              exact ⟨.map (some (w.heap.size)), u24, u25, u26, u27, u28, u29, u30, u31, u32, u33, by simp only [Act.put, List.setIfInBounds_toArray, List.set_cons_zero, List.set_cons_succ], .inr (.inl ⟨by simpa using h10, by simpa using h11, (by first | exact HCL.out.set 0 (by intro p hp e; simp only [cloP, List.mem_cons, List.not_mem_nil, or_false] at hp; rcases hp with rfl | rfl | rfl | rfl | rfl | rfl <;> first | (exact absurd e (by decide)) | assumption) | exact HCL.out.set' 0 (by intro p hp e; simp only [cloP, List.mem_cons, List.not_mem_nil, or_false] at hp; rcases hp with rfl | rfl | rfl | rfl | rfl | rfl <;> first | (exact absurd e (by decide)) | assumption)), (fun j h3 h9 => by have := HALL.out j h3 h9; simp [this]), HA.out, (fun _ => rfl), (fun h => by first | rfl | exact P1.out (by simpa using h)), (fun h => by first | rfl | exact P2.out (by simpa using h))⟩)⟩
            · simp only [List.getElem?_toArray, List.getElem?_cons_zero, List.getElem?_cons_succ, Option.some.injEq] at ho
              subst ho
              have P0 := Lib.hid p0; have P1 := Lib.hid p1; have P2 := Lib.hid p2; clear hLi hafter p0 p1 p2
              simp only [Act.put, List.setIfInBounds_toArray, List.set_cons_zero, List.set_cons_succ]
              go_wp2_with fail
              exact ⟨u23, .pointer (some ⟨wr.heap.size, 2, none⟩), u25, u26, u27, u28, u29, u30, u31, u32, u33, by simp only [Act.put, List.setIfInBounds_toArray, List.set_cons_zero, List.set_cons_succ], .inr (.inl ⟨by simpa using h10, by simpa using h11, (by first | exact HCL.out.set 1 (by intro p hp e; simp only [cloP, List.mem_cons, List.not_mem_nil, or_false] at hp; rcases hp with rfl | rfl | rfl | rfl | rfl | rfl <;> first | (exact absurd e (by decide)) | assumption) | exact HCL.out.set' 1 (by intro p hp e; simp only [cloP, List.mem_cons, List.not_mem_nil, or_false] at hp; rcases hp with rfl | rfl | rfl | rfl | rfl | rfl <;> first | (exact absurd e (by decide)) | assumption)), (fun j h3 h9 => by have := HALL.out j h3 h9; simp [this]), HA.out, (fun h => by first | rfl | exact P0.out (by simpa using h)), (fun _ => rfl), (fun h => by first | rfl | exact P2.out (by simpa using h))⟩)⟩
            · simp only [List.getElem?_toArray, List.getElem?_cons_zero, List.getElem?_cons_succ, Option.some.injEq] at ho
              subst ho
              have q1 : Ls 1 = true := hafter ⟨1, .data⟩ (by simp) rfl
              obtain rfl := p1 (hafter ⟨1, .data⟩ (by simp) rfl)
              have c0 := (HA.out.cell HNE.out hl_P 2).trans k_P_2
              have P0 := Lib.hid p0; have P1 := Lib.hid p1; have P2 := Lib.hid p2; clear hLi hafter p0 p1 p2
              simp only [Act.put, List.setIfInBounds_toArray, List.set_cons_zero, List.set_cons_succ]
              go_wp2_with fail
              exact ⟨u23, .pointer (some ⟨wr.heap.size, 2, none⟩), .int .i64 y, u26, u27, u28, u29, u30, u31, u32, u33, by simp only [Act.put, List.setIfInBounds_toArray, List.set_cons_zero, List.set_cons_succ], .inr (.inl ⟨by simpa using h10, by simpa using h11, (by first | exact HCL.out.set 2 (by intro p hp e; simp only [cloP, List.mem_cons, List.not_mem_nil, or_false] at hp; rcases hp with rfl | rfl | rfl | rfl | rfl | rfl <;> first | (exact absurd e (by decide)) | assumption) | exact HCL.out.set' 2 (by intro p hp e; simp only [cloP, List.mem_cons, List.not_mem_nil, or_false] at hp; rcases hp with rfl | rfl | rfl | rfl | rfl | rfl <;> first | (exact absurd e (by decide)) | assumption)), (fun j h3 h9 => by have := HALL.out j h3 h9; simp [this]), HA.out, (fun h => by first | rfl | exact P0.out (by simpa using h)), (fun h => by first | rfl | exact P1.out (by simpa using h)), (fun _ => rfl)⟩)⟩
            · exfalso; rw [HALL.out 3 (by decide) (by decide)] at hLi; cases hLi
            · exfalso; rw [HALL.out 4 (by decide) (by decide)] at hLi; cases hLi
            · exfalso; rw [HALL.out 5 (by decide) (by decide)] at hLi; cases hLi
            · exfalso; rw [HALL.out 6 (by decide) (by decide)] at hLi; cases hLi
            · exfalso; rw [HALL.out 7 (by decide) (by decide)] at hLi; cases hLi
            · exfalso; rw [HALL.out 8 (by decide) (by decide)] at hLi; cases hLi
            · exfalso; rw [HALL.out 9 (by decide) (by decide)] at hLi; cases hLi
            · exfalso; rw [h10] at hLi; cases hLi
            · simp only [List.getElem?_toArray, List.getElem?_cons_zero, List.getElem?_cons_succ, Option.some.injEq] at ho
              subst ho
              have q0 : Ls 0 = true := hafter ⟨0, .data⟩ (by simp) rfl
              have q2 : Ls 2 = true := hafter ⟨2, .data⟩ (by simp) rfl
              obtain rfl := p0 q0
              obtain rfl := p2 q2
              have HL11 := Lib.hid (show ∀ j, j < 11 → Ls j = true from CloG.low HCL.out HALL.out q0 q2 h10)
              have P1 := Lib.hid p1; clear hLi hafter p0 p1 p2
              simp only [Act.put, List.setIfInBounds_toArray, List.set_cons_zero, List.set_cons_succ]
              go_wp2_with (at_mapUpdate; refine wp_back_g _ rfl _ _ _ rfl HBK.out rfl rfl rfl HA.out.gr HA.out.own (all_app HZ64.out HY64.out) (by have := HZL.out; rw [List.length_append]; simp; omega) (HA.out.loc.imp id .inr) ?_; intro w9 hm9 hg9; have HF9 := Lib.hid (HA.out.fin HNE.out hl_P hnb HOW.out hm9 hg9); clear hm9 hg9)
              exact ⟨.map (some (w.heap.size)), u24, .int .i64 y, u26, u27, u28, u29, u30, u31, u32, u33, by simp only [Act.put, List.setIfInBounds_toArray, List.set_cons_zero, List.set_cons_succ], .inr (.inr ⟨by simp, (fun j hj => by have := HL11.out j hj; simp [this]), HF9.out⟩)⟩
          · obtain ⟨h11, hall, _⟩ := hJ
            exfalso
            rcases Nat.lt_or_ge i 11 with h | h
            · rw [hall i h] at hLi; cases hLi
            · obtain rfl : i = 11 := by omega
              rw [h11] at hLi; cases hLi
        · intro Ls a0 wq hall hJ
          obtain ⟨u23, u24, u25, u26, u27, u28, u29, u30, u31, u32, u33, rfl, hJ | hJ | hJ⟩ := hJ
          · have h11 := hJ.2.1
            rw [hall 11 (by decide)] at h11; cases h11
          · have h11 := hJ.2.1
            rw [hall 11 (by decide)] at h11; cases h11
          · obtain ⟨_, _, hfin⟩ := hJ
            have HFIN := Lib.hid hfin
            clear hfin hall
            have HMG9 := Lib.hid (HFIN.out.mg.congr (g := memF it fm (q + 1)) (fun z _ => memF_yes HY.out HX.out hpos HZ1.out z))
            have HG9 := Lib.hid (HFIN.out.fr w (Nat.le_succ _) HG7.out)
            have hs9 := HFIN.out.size
            clear HFIN HRUN HOW HZ64 HZL HBK HNE
            simp only [Act.put, List.setIfInBounds_toArray, List.set_cons_zero, List.set_cons_succ]
            go_wp2_with fail
            go_roundw
            case rel => exact ⟨q + 1, by omega, by go_num, HMG9.out, HG9.out, by omega⟩
            case measure => simp [intOf]; omega
      · go_wp2_with fail
        go_roundw
        case rel => exact ⟨q + 1, by omega, by go_num, by obtain ⟨D, h1, h2⟩ := HMG1.out.below (bel1 wr _); exact ⟨D, groups_mono h1, fun z hz => by rw [← memF_no (by rw [HY.out]; exact hpos)]; exact h2 z hz⟩, gr_below HGR.out (bel1 _ _), by simp; omega⟩
        case measure => simp [intOf]; omega
    · obtain rfl : q = n := by omega
      obtain ⟨w1, hw1⟩ : ∃ w1, w1 = wr := ⟨_, rfl⟩
      subst hw1
      obtain ⟨val, hmv, hval, hvl, hap⟩ := HMG1.out.vals mtG (by unfold maxLen; omega)
      have HMV := Lib.hid hmv
      have HVAL := Lib.hid (show ∀ x, W64 x → Ow (w.heap.size + 1) 3 w1 (val x) (memF it fm q x) from fun x hx => (hval x hx).1)
      have HAP := Lib.hid hap
      have HB1 := Lib.hid (show Below w.heap.size w w1 from (Below.refl _ w).grown HGR.out (Nat.le_refl _) (fun j hj => by cases hj; exact Nat.le_refl _))
      have hblt := HMG1.out.lt.2
      clear hmv hval hvl hap HMG1 HGR
      obtain ⟨r, hr⟩ : ∃ r, w1.heap.size = r := ⟨_, rfl⟩
      have HVB := Lib.hid (show ∀ x, W64 x → ∀ g, (val x).ownBlock = some g → w.heap.size + 1 ≤ g ∧ g < r from fun x hx g hg => by rw [← hr]; exact (HVAL.out x hx).lt g hg)
      have hbr : w.heap.size < r := by omega
      go_wp2_with (at_range; refine wp_range_v _ rfl _ rfl mtG w.heap.size _ _ rfl HMV.out ?_; intro w2 left0 cnt0 hrg hcn hlf hg2 hs2)
      go_frame
      rw [hr] at hrg hs2
      have HRG := Lib.hid hrg
      have HLF := Lib.hid (show ∀ x, W64 x → left0 x = false → memF it fm q x = [] from fun x hx hl => Classical.byContradiction fun hne => by have := hlf x hx (fun e => hne (by have h := HVAL.out x hx; rw [e] at h; exact ow_len h)); rw [hl] at this; cases this)
      have HB2 := Lib.hid (HB1.out.grown hg2 HB1.out.size (fun j hj => by cases hj))
      have HVAL2 := Lib.hid (show ∀ x, W64 x → left0 x = true → Ow (w.heap.size + 1) 3 w2 (val x) (memF it fm q x) from fun x hx _ => (HVAL.out x hx).grown hg2 (by cases (val x).ownBlock <;> simp))
      clear hrg hlf hg2 HVAL HMV
      rw [hr]
      go_loopw [6] (fun pv wr => ∃ (left : Int → Bool) (cnt : Nat) (Q : List (Int × Int)), Rv Try.prog 3 wr w.heap.size r q val left cnt ∧ Hid (∀ x, W64 x → left x = true → Ow (w.heap.size + 1) 3 wr (val x) (memF it fm q x)) ∧ Hid (FamI it fm q left Q) ∧ Op2 (r + 1) 47 wr pv Q ∧ Q.length + q * cntL fm q left ≤ N2 ∧ r + 1 ≤ wr.heap.size ∧ Below w.heap.size w wr) (fun _ wr => wr.rangeLeft w.heap.size r)
      case atStart => exact ⟨left0, cnt0, [], HRG.out, HVAL2, Lib.hid (FamI.start HLF.out), Op2.nil _ _ _, by rw [← HN2.out, List.length_nil, Nat.zero_add]; exact Nat.mul_le_mul_left _ (cntL_le _ _ _), by omega, HB2.out⟩
      case round =>
        obtain ⟨left, cnt, Q, hrg, HOX, HFI, hop, hql, hrs, hbel⟩ := hrel
        obtain ⟨wj, hwj⟩ : ∃ W, W = wr := ⟨_, rfl⟩
        subst hwj
        have HRG1 := Lib.hid hrg
        have HLE := Lib.hid hrg.left_eq
        have HOP := Lib.hid hop
        have HB3 := Lib.hid hbel
        have hs3 := hbel.size
        have HQL := Lib.hid hql
        have hql2 : Q.length ≤ N2 := by omega
        clear hrg hop hbel hql
        go_wp2_with (at_next; refine wp_next_v _ rfl _ rfl mtG w.heap.size r q cnt val left rfl HRG1.out ?_ ?_)
        · intro hl
          have HL := Lib.hid hl
          clear hl
          obtain ⟨a6, c6, rfl, hp6⟩ := HOP.out.pr
          have HP6 := Lib.hid hp6
          clear hp6
          go_wp2_with fail
          refine (norm_any _ _ _ Q _ HP6.out (by omega)).mono ?_
          rintro e w8 ⟨v, rfl, ho, hb⟩
          have HO := Lib.hid ho
          have HBF := Lib.hid (HB3.out.trans (hb.mono hs3))
          have HE := Lib.hid (HFI.out.end HL.out (fun j hj => (H64.out j hj).2))
          clear ho hb
          go_wp2_with fail
          go_ret
          exact ⟨_, rfl, ⟨_, hs3, by rw [← HE.out]; exact HO.out⟩, HBF.out⟩
        · intro x v w8 cnt8 hx hlx hvx hrg8 hlt hg8 hs8 hen
          have HX64 := Lib.hid hx
          have HLX := Lib.hid hlx
          have HVX := Lib.hid hvx
          have HRG8 := Lib.hid hrg8
          have HB8 := Lib.hid (HB3.out.grown hg8 hs3 (fun j hj => by cases hj; omega))
          have HOP8 := Lib.hid (HOP.out.grown hg8 (own_ne fun g hg => by have := (HOP.out.lt g hg).1; omega))
          have HOX8 := Lib.hid (show ∀ y, W64 y → left y = true → Ow (w.heap.size + 1) 3 w8 (val y) (memF it fm q y) from fun y hy hly => (HOX.out y hy hly).grown hg8 (own_ne fun g hg => by have := (HVB.out y hy g hg).2; omega))
          have HV := Lib.hid (show Ow (w.heap.size + 1) 3 w8 v (memF it fm q x) by rw [← hvx]; exact HOX8.out x hx hlx)
          have HVN := Lib.hid (show ∀ g, v.ownBlock = some g → w.heap.size + 1 ≤ g ∧ g < r by rw [← hvx]; exact HVB.out x hx)
          have hml := memF_len it fm q x
          have HCT := Lib.hid (cntL_step (it := it) (fm := fm) (n := q) hlx)
          clear hx hlx hvx hrg8 hg8 HOX HOP HRG1 HB3
          go_wp2_with fail
          refine (sort_own v _ _ HV.out (by omega)).mono ?_
          rintro e w9 ⟨rfl, ho, hg⟩
          have HO9 := Lib.hid (show Ow (w.heap.size + 1) 3 w9 v (srtL (memF it fm q x)) from ho)
          have HG9 := Lib.hid hg
          clear ho hg hen
          go_wp2_with fail
          refine (compact_own v _ _ HO9.out).mono ?_
          rintro e w10 ⟨v', rfl, hvv, ho, hg⟩
          have HG10 := Lib.hid (HG9.out.trans hg)
          obtain ⟨R, hR⟩ : ∃ R, rise (memF it fm q x) = R := ⟨_, rfl⟩
          have HR := Lib.hid (show R.Pairwise (fun a b => a < b) ∧ ∀ a, a ∈ R ↔ a ∈ memF it fm q x by rw [← hR]; exact rise_spec _)
          have hRl : R.length ≤ (memF it fm q x).length := by rw [← hR]; exact rise_len _
          have HO10 := Lib.hid (show Ow (w.heap.size + 1) 3 w10 v' R by rw [← hR]; exact ho)
          have HVN2 := Lib.hid (show ∀ g, v'.ownBlock = some g → g < r from fun g hg => (HVN.out g (hvv ▸ hg)).2)
          have HOX10 := Lib.hid (fam_rest HOX8.out HG10.out HAP.out HX64.out HVX.out)
          have HRG10 := Lib.hid (HRG8.out.grown HG10.out (nb_ne fun g hg => by have := (HVN.out g hg).1; omega) (nb_ne fun g hg => by have := (HVN.out g hg).2; omega))
          have HOP10 := Lib.hid (HOP8.out.grown HG10.out (op_ne HOP8.out HVN.out))
          have HB10 := Lib.hid (HB8.out.grown HG10.out HB8.out.size (fun j hj => by have := (HVN.out j hj).1; omega))
          have hs10 := HG10.out.size
          clear ho hg hvv hR HO9 HG9 HG10 HOX8 HOP8 HRG8 HB8 HV HVN
          obtain ⟨m, hm⟩ : ∃ m, R.length = m := ⟨_, rfl⟩
          have HM := Lib.hid hm
          rw [hm] at hRl
          have HQB := Lib.hid (show ∀ i, i ≤ m → (Q ++ prs R i).length ≤ N2 from fun i hi => by rw [List.length_append]; have h1 := prs_len R i; have h2 := HQL.out; rw [HCT.out, Nat.mul_add] at h2; rw [hm] at h1; have h3 : i * m ≤ q * (memF it fm q x).length := Nat.mul_le_mul (by omega) hRl; omega)
          rcases HO10.out.open with ⟨hv0, hR0⟩ | ⟨g9, c9, hv9, hgB, hgl, hgc, hgm, hcl⟩
          · subst hv0 hR0
            obtain rfl : 0 = m := hm
            go_wp2_with fail
            go_loopw [6, 47] (fun pv i wr => i = .int .i64 0 ∧ Op2 (r + 1) 47 wr pv Q ∧ w10 = wr) (fun _ _ _ => 0)
            case atStart => exact ⟨rfl, HOP10.out, rfl⟩
            case round =>
              obtain ⟨rfl, hop, rfl⟩ := hrel
              have HOPE := Lib.hid hop
              clear hop
              go_wp2_with fail
              go_roundw
              case rel => exact ⟨_, cnt8, Q, HRG10.out, HOX10, Lib.hid (by have h := HFI.out.step HX64.out HLX.out HR.out.1 HR.out.2; simpa [prs] using h), HOPE.out, by have h2 := HQL.out; rw [HCT.out, Nat.mul_add] at h2; omega, by omega, HB10.out⟩
              case measure => rw [HRG10.out.left_eq, HLE.out]; exact hlt
          · subst hv9
            have HCELL := Lib.hid (show ∀ j, j < m → w10.cell? ⟨g9, j, none⟩ = some (.int .i64 (R.getD j 0)) from fun j hj => (hcl j (by omega)).1)
            unfold maxLen at hgm
            have hgr9 := HVN2.out g9 rfl
            rw [hm] at hgc ⊢
            clear hcl hm HVN2
            go_wp2_with fail
            go_loopw [6, 47] (fun pv i wr => ∃ i' : Nat, i' ≤ m ∧ i = .int .i64 i' ∧ Op2 (r + 1) 47 wr pv (Q ++ prs R i') ∧ Below (r + 1) w10 wr) (fun _ i _ => m - (intOf i).toNat)
            case atStart => exact ⟨0, Nat.zero_le _, rfl, by simpa [prs] using HOP10.out, Below.refl _ _⟩
            case round =>
              obtain ⟨i', hi', rfl, hop, hbe⟩ := hrel
              have HOP3 := Lib.hid hop
              have HBE3 := Lib.hid hbe
              have hsb := hbe.size
              clear hop hbe
              by_cases him : i' < m
              · obtain ⟨a0, ha0⟩ : ∃ a, R.getD i' 0 = a := ⟨_, rfl⟩
                have g5 := (HBE3.out.cell (p := ⟨g9, i', none⟩) (by simp only; omega)).trans (HCELL.out i' him)
                rw [ha0] at g5
                have HA0 := Lib.hid ha0
                have HPS := Lib.hid (prs_succ R i' ha0)
                clear ha0
                have hix0 : (0 : Int) ≤ (i' : Int) := by omega
                have hix1 : (i' : Int) < (m : Int) := by omega
                have wi : IntKind.i64.wrap ((i' : Int) + 1) = ((i' + 1 : Nat) : Int) := by rw [IntKind.wrap_i64]; omega
                have hi1 : ((i' + 1 : Nat) : Int) ≤ (m : Int) := by omega
                have hi2 : (0 : Int) ≤ ((i' + 1 : Nat) : Int) := by omega
                have hi3 : ((i' + 1 : Nat) : Int) ≤ (c9 : Int) := by omega
                have HDL := Lib.hid (show (R.drop (i' + 1)).length = m - (i' + 1) by rw [List.length_drop, HM.out])
                by_cases hlast : i' + 1 = m
                · have HD0 := Lib.hid (show R.drop (i' + 1) = [] from List.drop_eq_nil_of_le (by rw [HM.out]; omega))
                  by_cases hcm : c9 = m
                  · go_wp2_with fail
                    go_loopw [6, 57] (fun pv i wr => i = .int .i64 0 ∧ Op2 (r + 1) 47 wr pv (Q ++ prs R i') ∧ Below (r + 1) w10 wr) (fun _ _ _ => 0)
                    case atStart => exact ⟨rfl, HOP3.out, HBE3.out⟩
                    case round =>
                      obtain ⟨rfl, hop, hbe⟩ := hrel
                      have HOP4 := Lib.hid hop
                      have HBE4 := Lib.hid hbe
                      clear hop hbe
                      go_wp2_with fail
                      go_roundw
                      case rel => exact ⟨i' + 1, by omega, by go_num, by rw [HPS.out, HD0.out]; simpa using HOP4.out, HBE4.out⟩
                      case measure => simp [intOf]; omega
                  · go_wp2_with fail
                    go_loopw [6, 57] (fun pv i wr => i = .int .i64 0 ∧ Op2 (r + 1) 47 wr pv (Q ++ prs R i') ∧ Below (r + 1) w10 wr) (fun _ _ _ => 0)
                    case atStart => exact ⟨rfl, HOP3.out, HBE3.out⟩
                    case round =>
                      obtain ⟨rfl, hop, hbe⟩ := hrel
                      have HOP4 := Lib.hid hop
                      have HBE4 := Lib.hid hbe
                      clear hop hbe
                      go_wp2_with fail
                      go_roundw
                      case rel => exact ⟨i' + 1, by omega, by go_num, by rw [HPS.out, HD0.out]; simpa using HOP4.out, HBE4.out⟩
                      case measure => simp [intOf]; omega
                · go_wp2_with fail
                  go_loopw [6, 57] (fun pv i wr => ∃ j' : Nat, j' ≤ m - (i' + 1) ∧ i = .int .i64 j' ∧ Op2 (r + 1) 47 wr pv (Q ++ prs R i' ++ (((R.drop (i' + 1)).take j').map fun b => (a0, b))) ∧ Below (r + 1) w10 wr) (fun _ i _ => m - (i' + 1) - (intOf i).toNat)
                  case atStart => exact ⟨0, Nat.zero_le _, rfl, by simpa using HOP3.out, HBE3.out⟩
                  case round =>
                    obtain ⟨j', hj', rfl, hop, hbe⟩ := hrel
                    have HBE4 := Lib.hid hbe
                    have hsb4 := hbe.size
                    have hqq : (Q ++ prs R i' ++ (((R.drop (i' + 1)).take j').map fun b => (a0, b))).length ≤ N2 + m := by rw [List.length_append, List.length_map]; have := HQB.out i' (by omega); have := List.length_take_le j' (R.drop (i' + 1)); omega
                    obtain ⟨QQ, hQQ⟩ : ∃ QQ, Q ++ prs R i' ++ (((R.drop (i' + 1)).take j').map fun b => (a0, b)) = QQ := ⟨_, rfl⟩
                    rw [hQQ] at hop hqq
                    have HOP4 := Lib.hid hop
                    have HQQ := Lib.hid hQQ
                    clear hop hbe hQQ
                    by_cases hjm : j' < m - (i' + 1)
                    · obtain ⟨b0, hb0⟩ : ∃ b, R.getD (i' + 1 + j') 0 = b := ⟨_, rfl⟩
                      have g7 := (HBE4.out.cell (p := ⟨g9, i' + 1 + j', none⟩) (by simp only; omega)).trans (HCELL.out (i' + 1 + j') (by omega))
                      rw [hb0] at g7
                      have HTK := Lib.hid (show (R.drop (i' + 1)).take (j' + 1) = (R.drop (i' + 1)).take j' ++ [b0] by rw [take_snoc (show j' < (R.drop (i' + 1)).length by rw [HDL.out]; exact hjm), List.getElem_drop, ← hb0, getD_lt1 (show i' + 1 + j' < R.length by have := HM.out; omega)])
                      clear hb0
                      have hjx0 : (0 : Int) ≤ (j' : Int) := by omega
                      have hjx1 : (j' : Int) < ((m - (i' + 1) : Nat) : Int) := by omega
                      have hjx2 : (j' : Int) < (m : Int) - ((i' : Int) + 1) := by omega
                      go_wp2_with (at_builtin; refine wpList_append_own_at _ rfl (.tmp 61) (.tmp 65) 22 rfl (r + 1) 47 i1 (.agg #[.int .i64 0, .int .i64 0]) 2 16 pairUnder hi1' hy0 hy1 hy2 rfl (by decide) _ QQ.length (QQ.flatMap enc2) rfl (World.ownsRow.alloc HOP4.out _) ⟨wr.heap.size, 0, none⟩ 1 1 [.int .i64 a0, .int .i64 b0] (by first | rfl | simp) rfl (cell_twoP _ _ (by simp) _ _ _) (by intro u hu; rcases List.mem_cons.1 hu with rfl | hu; (· rfl); (· rcases List.mem_cons.1 hu with rfl | hu; (· rfl); (· cases hu))) (by unfold maxLen; omega) (by omega) (by first | omega | (simp; omega)) ?_; intro v11 w11 hm11 hg11 _ hat11; have HO11 := Lib.hid (Op2.push hm11); have HBE11 := Lib.hid ((HBE4.out.alloc (by omega) _).grown hg11 (by simp; omega) (fun j hj => (HOP4.out.lt j hj).1)); clear hm11 hg11 hat11)
                      go_roundw
                      case rel => exact ⟨j' + 1, by omega, by go_num, by rw [HTK.out, List.map_append, ← List.append_assoc, HQQ.out]; exact HO11.out, HBE11.out⟩
                      case measure => simp [intOf]; omega
                    · obtain rfl : j' = m - (i' + 1) := by omega
                      have hjx3 : ¬ ((m - (i' + 1) : Nat) : Int) < (m : Int) - ((i' : Int) + 1) := by omega
                      go_wp2_with fail
                      go_roundw
                      case rel => exact ⟨i' + 1, by omega, by go_num, by rw [HPS.out, ← List.append_assoc]; have h := HQQ.out; rw [List.take_of_length_le (by rw [HDL.out]; exact Nat.le_refl _)] at h; rw [h]; exact HOP4.out, HBE4.out⟩
                      case measure => simp [intOf]; omega
              · obtain rfl : i' = m := by omega
                have HOPE := Lib.hid (show Op2 (r + 1) 47 wr _ (Q ++ prs R R.length) by rw [HM.out]; exact HOP3.out)
                have HRGE := Lib.hid (HRG10.out.belowN HBE3.out ⟨by omega, by omega⟩)
                have HOXE := Lib.hid (show ∀ y, W64 y → (left y && !decide (y = x)) = true → Ow (w.heap.size + 1) 3 wr (val y) (memF it fm q y) from fun y hy hly => (HOX10.out y hy hly).belowN HBE3.out (fun g hg => by have := (HVB.out y hy g hg).2; omega))
                have HBE := Lib.hid (HB10.out.trans (HBE3.out.mono (by omega)))
                go_wp2_with fail
                go_roundw
                case rel => exact ⟨_, cnt8, Q ++ prs R R.length, HRGE.out, HOXE, Lib.hid (HFI.out.step HX64.out HLX.out HR.out.1 HR.out.2), HOPE.out, by rw [List.length_append]; have h1 := prs_len R R.length; have h2 := HQL.out; rw [HCT.out, Nat.mul_add] at h2; rw [HM.out] at h1 ⊢; have h3 : i' * i' ≤ q * (memF it fm q x).length := Nat.mul_le_mul (by omega) hRl; omega, by omega, HBE.out⟩
                case measure => rw [HRGE.out.left_eq, HLE.out]; exact hlt

end Go.Proofs.Ytonnbcongnkcdaa
