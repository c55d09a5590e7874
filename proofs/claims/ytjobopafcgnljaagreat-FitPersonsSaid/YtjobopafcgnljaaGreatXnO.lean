import Derived.Test.YtjobopafcgnljaaGreatAl
import Derived.Test.YtjobopafcgnljaaGreatXnA
import Derived.Test.YtjobopafcgnljaaGreatOrdX
import Derived.Test.YtjobopafcgnljaaGreatLawFO
namespace Go.Proofs.YtjobopafcgnljaaGreat
open Go.RowKit
set_option maxHeartbeats 2000000 in
theorem xorder_err (a : Option Addr) (n cap : Nat) (c : Int) (h0 : c ≠ 0) (w : World) (hk : Calls Tryz.prog 33 #[.slice a n cap] w fun e w' => e = .returned (.int .i64 c) ∧ Below w.heap.size w w') :
  Calls Tryz.prog 15 #[.slice a n cap] w (ErrPost w c) := by
 have z0 : (c == 0) = false := by simpa using h0
 have HK := Lib.hid hk
 clear hk
 go_enter Tryz.func15, Tryz.ntmps15
 go_wp2_with fail
 refine HK.out.mono ?_
 rintro e wa ⟨rfl, hb⟩
 have HB := Lib.hid hb
 clear hb
 go_wp2_with fail
 go_ret2
 exact ⟨rfl, HB.out⟩
def intsX (d : Nat → Nat) (m : Nat) : List Value := (List.range m).map fun i => .int .i64 ((d i : Nat) : Int)
theorem intsX_succ (d : Nat → Nat) (m : Nat) : intsX d m ++ [.int .i64 ((d m : Nat) : Int)] = intsX d (m + 1) := by
 unfold intsX
 rw [List.range_succ, List.map_append]; rfl
def slN : Value → Nat
 | .slice _ k _ => k
 | _ => 0
theorem own_sl {w : World} {B n s : Nat} {e : TypeId} {v : Value} {xs : List Value} (h : w.ownsRow B e s v n xs) : ∃ a c, v = .slice a n c := by
 rcases h.2 with ⟨e1, e2⟩ | ⟨g, cap, cur, e1, _⟩
 ·subst e2; exact ⟨none, 0, e1⟩
 ·exact ⟨_, _, e1⟩
theorem own_set {w : World} {B n s ub o : Nat} {e : TypeId} {v : Value} {xs : List Value} (h : w.ownsRow B e s v n xs) (hub : ub < B) (x : Value) : (w.setCell ⟨ub, o, none⟩ x).ownsRow B e s v n xs := by
 refine ⟨h.1, ?_⟩
 rcases h.2 with e1 | ⟨g, cap, cur, e1, hg, hh, rest⟩
 ·exact .inl e1
 ·exact .inr ⟨g, cap, cur, e1, hg, (Below.heap_setCell w ⟨ub, o, none⟩ x g (show g ≠ ub by omega)).trans hh, rest⟩
theorem own_low {w : World} {B B' n s : Nat} {e : TypeId} {v : Value} {xs : List Value} (h : w.ownsRow B e s v n xs) (hB : B' ≤ B) : w.ownsRow B' e s v n xs := by
 refine ⟨h.1, ?_⟩
 rcases h.2 with e1 | ⟨g, cap, cur, e1, hg, hh, rest⟩
 ·exact .inl e1
 ·exact .inr ⟨g, cap, cur, e1, Nat.le_trans hB hg, hh, rest⟩
theorem own_belX {w w' : World} {B n s : Nat} {e : TypeId} {v : Value} {xs : List Value} (h : w.ownsRow B e s v n xs) (hb : Below w.heap.size w w') : w'.ownsRow B e s v n xs := by
 refine ⟨h.1, ?_⟩
 rcases h.2 with e1 | ⟨g, cap, cur, e1, hg, hh, rest⟩
 ·exact .inl e1
 ·exact .inr ⟨g, cap, cur, e1, hg, (hb.block g (Array.getElem?_eq_some_iff.1 hh).1).trans hh, rest⟩
theorem own_ints {w : World} {B n : Nat} {a : Option Addr} {c : Nat} {d : Nat → Nat} (h : w.ownsRow B 3 1 (.slice a n c) n (intsX d n)) : n ≤ c ∧ c ≤ maxLen ∧ (0 < n → ∃ g, a = some ⟨g, 0, none⟩ ∧ ∀ i, i < n → w.cell? ⟨g, i, none⟩ = some (.int .i64 ((d i : Nat) : Int))) := by
 rcases h.2 with ⟨e1, e2⟩ | ⟨g, cap, cur, e1, hg, hh, h1, h2, h3, h4⟩
 ·simp only [Value.slice.injEq] at e1
  obtain ⟨rfl, rfl, rfl⟩ := e1
  exact ⟨Nat.le_refl _, Nat.zero_le _, fun h => by omega⟩
 ·simp only [Value.slice.injEq] at e1
  obtain ⟨rfl, _, rfl⟩ := e1
  refine ⟨h1, h2, fun _ => ⟨g, rfl, fun i hi => ?_⟩⟩
  have h5 : cur.toList[i]? = some (.int .i64 ((d i : Nat) : Int)) := by
   have : (cur.toList.take (n * 1))[i]? = some (.int .i64 ((d i : Nat) : Int)) := by rw [h4]; simp [intsX, hi]
   rwa [List.getElem?_take_of_lt (by omega)] at this
  simp [World.cell?, hh]
  simpa using h5
def XOrdPost (w : World) (n : Nat) (d : Nat → Nat) (e : Ending) (w' : World) : Prop :=
 ∃ a c, e = .returned (.tuple #[.slice a n c, .int .i64 0]) ∧ n ≤ c ∧ c ≤ maxLen ∧ (0 < n → ∃ g, a = some ⟨g, 0, none⟩ ∧ ∀ i, i < n → w'.cell? ⟨g, i, none⟩ = some (.int .i64 ((d i : Nat) : Int))) ∧ Below w.heap.size w w'
def OrdA (ub n j : Nat) (W : World) (z0 : Act) (L : Nat → Bool) (z1 : Act) (w : World) : Prop :=
 ∃ u28 u29 u30 u31 u32 u33 u34 u35 u36 u37 u38 u39 u40 u41 u42 u43 u44 u45 u46 u47 u48, z1 = (((((((((((((((((((((z0.put (some 28) u28).put (some 29) u29).put (some 30) u30).put (some 31) u31).put (some 32) u32).put (some 33) u33).put (some 34) u34).put (some 35) u35).put (some 36) u36).put (some 37) u37).put (some 38) u38).put (some 39) u39).put (some 40) u40).put (some 41) u41).put (some 42) u42).put (some 43) u43).put (some 44) u44).put (some 45) u45).put (some 46) u46).put (some 47) u47).put (some 48) u48) ∧ Since W w ∧ (L 0 = true → u28 = .slice (some ⟨ub, 0, none⟩) n n) ∧ (L 1 = true → u29 = .int .i64 j) ∧ (L 2 = true → u30 = .pointer (some ⟨ub, j, none⟩)) ∧ (L 3 = true → u31 = .bool true) ∧ (L 4 = true → u32 = .bool false) ∧ (L 5 = true → u33 = .bool false) ∧ (L 6 = true → u34 = undef) ∧ (L 7 = true → u35 = undef) ∧ (L 8 = true → u36 = undef) ∧ (L 9 = true → u37 = undef) ∧ (L 10 = true → u38 = undef) ∧ (L 11 = true → u39 = undef) ∧ (L 12 = true → u40 = undef) ∧ (L 13 = true → u41 = undef) ∧ (L 14 = true → u42 = undef) ∧ (L 15 = true → u43 = undef) ∧ (L 16 = true → u44 = undef) ∧ (L 17 = true → u45 = undef) ∧ (L 18 = true → u46 = undef) ∧ (L 19 = true → u47 = undef) ∧ (L 20 = true → u48 = .bool false)
def OrdB (ub n j : Nat) (W : World) (z0 : Act) (L : Nat → Bool) (z1 : Act) (w : World) : Prop :=
 ∃ u28 u29 u30 u31 u32 u33 u34 u35 u36 u37 u38 u39 u40 u41 u42 u43 u44 u45 u46 u47 u48, z1 = (((((((((((((((((((((z0.put (some 28) u28).put (some 29) u29).put (some 30) u30).put (some 31) u31).put (some 32) u32).put (some 33) u33).put (some 34) u34).put (some 35) u35).put (some 36) u36).put (some 37) u37).put (some 38) u38).put (some 39) u39).put (some 40) u40).put (some 41) u41).put (some 42) u42).put (some 43) u43).put (some 44) u44).put (some 45) u45).put (some 46) u46).put (some 47) u47).put (some 48) u48) ∧ Since W w ∧ (L 0 = true → u28 = .slice (some ⟨ub, 0, none⟩) n n) ∧ (L 1 = true → u29 = .int .i64 j) ∧ (L 2 = true → u30 = .pointer (some ⟨ub, j, none⟩)) ∧ (L 3 = true → u31 = .bool false) ∧ (L 4 = true → u32 = .bool true) ∧ (L 5 = true → u33 = .bool true) ∧ (L 6 = true → u34 = .int .i64 (-1)) ∧ (L 7 = true → u35 = .bool true) ∧ (L 8 = true → u36 = .bool true) ∧ (L 9 = true → u37 = undef) ∧ (L 10 = true → u38 = undef) ∧ (L 11 = true → u39 = undef) ∧ (L 12 = true → u40 = undef) ∧ (L 13 = true → u41 = undef) ∧ (L 14 = true → u42 = undef) ∧ (L 15 = true → u43 = undef) ∧ (L 16 = true → u44 = undef) ∧ (L 17 = true → u45 = undef) ∧ (L 18 = true → u46 = undef) ∧ (L 19 = true → u47 = .bool true) ∧ (L 20 = true → u48 = .bool true)
def OrdC (ub n j y b off cap : Nat) (κ : Int) (gg sj sy : Bool) (rj tj ry ty : Option Addr) (lj kj mj ej ly ky my ey : Nat) (W : World) (z0 : Act) (L : Nat → Bool) (z1 : Act) (w : World) : Prop :=
 ∃ u28 u29 u30 u31 u32 u33 u34 u35 u36 u37 u38 u39 u40 u41 u42 u43 u44 u45 u46 u47 u48, z1 = (((((((((((((((((((((z0.put (some 28) u28).put (some 29) u29).put (some 30) u30).put (some 31) u31).put (some 32) u32).put (some 33) u33).put (some 34) u34).put (some 35) u35).put (some 36) u36).put (some 37) u37).put (some 38) u38).put (some 39) u39).put (some 40) u40).put (some 41) u41).put (some 42) u42).put (some 43) u43).put (some 44) u44).put (some 45) u45).put (some 46) u46).put (some 47) u47).put (some 48) u48) ∧ Since W w ∧ (L 0 = true → u28 = .slice (some ⟨ub, 0, none⟩) n n) ∧ (L 1 = true → u29 = .int .i64 j) ∧ (L 2 = true → u30 = .pointer (some ⟨ub, j, none⟩)) ∧ (L 3 = true → u31 = .bool false) ∧ (L 4 = true → u32 = .bool true) ∧ (L 5 = true → u33 = .bool true) ∧ (L 6 = true → u34 = .int .i64 y) ∧ (L 7 = true → u35 = .bool false) ∧ (L 8 = true → u36 = .bool false) ∧ (L 9 = true → u37 = .slice (some ⟨b, off, none⟩) n cap) ∧ (L 10 = true → u38 = .int .i64 j) ∧ (L 11 = true → u39 = .pointer (some ⟨b, off + j * 3, none⟩)) ∧ (L 12 = true → u40 = .agg #[.bool sj, .slice rj lj kj, .slice tj mj ej]) ∧ (L 13 = true → u41 = .slice (some ⟨b, off, none⟩) n cap) ∧ (L 14 = true → u42 = .int .i64 y) ∧ (L 15 = true → u43 = .pointer (some ⟨b, off + y * 3, none⟩)) ∧ (L 16 = true → u44 = .agg #[.bool sy, .slice ry ly ky, .slice ty my ey]) ∧ (L 17 = true → u45 = .int .i64 κ) ∧ (L 18 = true → u46 = .bool gg) ∧ (L 19 = true → u47 = .bool gg) ∧ (L 20 = true → u48 = .bool gg)
set_option maxHeartbeats 8000000 in
set_option maxRecDepth 20000 in
theorem xorder_ok {N : Nat} (a : Option Addr) (n cap : Nat) (q : Nat → Rat) (L : Nat) (w : World) (hN : N ≤ w.heap.size) (h : Rs N w a n cap q L) (hL : L ≤ 100000) (hc : chkF q n = 0) (d : Nat → Nat) (hpm : Prm n d) (hst : Srt (keyT (gtQ q)) 0 n d) :
  Calls Tryz.prog 15 #[.slice a n cap] w (XOrdPost w n d) := by
 have HC := Lib.hid hc
 obtain ⟨h20, hx⟩ := chkF_ok hc
 have HAw := Lib.hid h
 have bc := h.1
 have bm := h.2.1
 unfold maxLen at bm
 have HPM := Lib.hid hpm
 have HST := Lib.hid hst
 have HO := Lib.hid (gtQ_weak q).ord
 clear hc h hx hpm hst
 obtain ⟨i0, hi, hz0, hz1, hz2⟩ := info_parts Tryz.infoIntF
 have mk2 := fun w => make_boolsF n (by omega) w
 have hN0 := hN
 go_enter Tryz.func15, Tryz.ntmps15
 go_wp2_with fail
 refine (xcheck_any31 (N := N) _ _ _ q L _ hN HAw.out (by omega) 0 HC.out).mono ?_
 rintro e wa ⟨rfl, hb⟩
 have HBa := Lib.hid hb
 have hsa : w.heap.size ≤ wa.heap.size := hb.size
 clear hb hN
 go_wp2_with fail
 obtain ⟨w9, hw9⟩ : ∃ W : World, wa.alloc (.cells (madeCells #[.bool false] n) 4) = W := ⟨_, rfl⟩
 have hs9 : w9.heap.size = wa.heap.size + 1 := by rw [← hw9]; simp
 have HR9 := Lib.hid (show w9.rowIs wa.heap.size 4 n (fun v => .bool (decide (rnk (keyT (gtQ q)) n v < 0))) by rw [← hw9]; exact (World.rowIs_made wa (.bool false) n 4).congr (fun j hj => by simp))
 have HB9 := Lib.hid (show Below w.heap.size w w9 by rw [← hw9]; exact HBa.out.alloc hsa _)
 rw [hw9]
 obtain ⟨ub, hub⟩ : ∃ b, wa.heap.size = b := ⟨_, rfl⟩
 rw [hub] at hs9 hsa HR9
 rw [hub]
 clear hw9 hub
 go_loopw [6] (fun out wr => ∃ m : Nat, m ≤ n ∧ wr.ownsRow w9.heap.size 3 1 out m (intsX d m) ∧ wr.rowIs ub 4 n (fun v => .bool (decide (rnk (keyT (gtQ q)) n v < m))) ∧ Below w.heap.size w wr ∧ w9.heap.size ≤ wr.heap.size) (fun out _ => n - slN out)
 case atStart => exact ⟨0, Nat.zero_le _, ⟨rfl, .inl ⟨rfl, rfl⟩⟩, HR9.out, HB9.out, Nat.le_refl _⟩
 case round =>
  obtain ⟨m, hm, hown, hrow, hbel, hsz⟩ := hrel
  obtain ⟨wo, rfl⟩ : ∃ x : World, x = wr := ⟨_, rfl⟩
  obtain ⟨ao, co, rfl⟩ := own_sl hown
  have HO9 := Lib.hid hown
  have HRW := Lib.hid hrow
  have HBw := Lib.hid hbel
  have hsw : w.heap.size ≤ wo.heap.size := hbel.size
  have hN : N ≤ wo.heap.size := by omega
  have hlro : ub < wo.heap.size := by omega
  clear hown hrow hbel
  by_cases hmn : m < n
  ·have hmz : (m : Int) < (n : Int) := by omega
   go_wp2_with fail
   go_loopw [7, 8] (fun bs i wr => ∃ j : Nat, j ≤ n ∧ i = .int .i64 j ∧ Hid (BestI (keyT (gtQ q)) n m j bs) ∧ Below wo.heap.size wo wr) (fun _ i _ => n - (intOf i).toNat)
   case atStart => exact ⟨0, Nat.zero_le _, rfl, Lib.hid (BestI.start _ _ _), Below.refl _ _⟩
   case round =>
    obtain ⟨j, hj, rfl, HBI, hbel⟩ := hrel
    obtain ⟨wi, rfl⟩ : ∃ x : World, x = wr := ⟨_, rfl⟩
    have HB := Lib.hid hbel
    have hs0 : wo.heap.size ≤ wi.heap.size := hbel.size
    clear hN
    have hN : N ≤ wi.heap.size := by omega
    clear hbel
    by_cases hjn : j < n
    ·have hjz : (j : Int) < (n : Int) := by omega
     have hj0 : (0 : Int) ≤ (j : Int) := by omega
     have hlu : ub < wi.heap.size := by omega
     by_cases hus : rnk (keyT (gtQ q)) n j < m
     ·have gu : wi.cell? ⟨ub, j, none⟩ = some (.bool true) := by have h1 := HRW.out.cell hjn; have h2 := cell_mono h1 HB.out; rw [h2]; simp; omega
      have HUS := Lib.hid hus
      clear hus
      go_wp2_with fail
      refine region_inv2 (by kernel_rfl) (OrdA ub n j (wi)) ?_ ?_ ?_ ?_
      ·exact ⟨u28, u29, u30, u31, u32, u33, u34, u35, u36, u37, u38, u39, u40, u41, u42, u43, u44, u45, u46, u47, u48, by simp only [Act.put, aT, aZ, aS], Since.drawn _, NoR⟩
      ·exact acyc_spec (by kernel_rfl)
      ·intro Ls a0 wq i o ho hLi hafter hJ
       obtain ⟨u28, u29, u30, u31, u32, u33, u34, u35, u36, u37, u38, u39, u40, u41, u42, u43, u44, u45, u46, u47, u48, rfl, hS, p0, p1, p2, p3, p4, p5, p6, p7, p8, p9, p10, p11, p12, p13, p14, p15, p16, p17, p18, p19, p20⟩ := hJ
       have P0 := Lib.hid p0; have P1 := Lib.hid p1; have P2 := Lib.hid p2; have P3 := Lib.hid p3; have P4 := Lib.hid p4; have P5 := Lib.hid p5; have P6 := Lib.hid p6; have P7 := Lib.hid p7; have P8 := Lib.hid p8; have P9 := Lib.hid p9; have P10 := Lib.hid p10; have P11 := Lib.hid p11; have P12 := Lib.hid p12; have P13 := Lib.hid p13; have P14 := Lib.hid p14; have P15 := Lib.hid p15; have P16 := Lib.hid p16; have P17 := Lib.hid p17; have P18 := Lib.hid p18; have P19 := Lib.hid p19; have P20 := Lib.hid p20; have HS := Lib.hid hS; clear hS p0 p1 p2 p3 p4 p5 p6 p7 p8 p9 p10 p11 p12 p13 p14 p15 p16 p17 p18 p19 p20
       have hi : i < 21 := (Array.getElem?_eq_some_iff.1 ho).1
       obtain rfl | rfl | rfl | rfl | rfl | rfl | rfl | rfl | rfl | rfl | rfl | rfl | rfl | rfl | rfl | rfl | rfl | rfl | rfl | rfl | rfl : i = 0 ∨ i = 1 ∨ i = 2 ∨ i = 3 ∨ i = 4 ∨ i = 5 ∨ i = 6 ∨ i = 7 ∨ i = 8 ∨ i = 9 ∨ i = 10 ∨ i = 11 ∨ i = 12 ∨ i = 13 ∨ i = 14 ∨ i = 15 ∨ i = 16 ∨ i = 17 ∨ i = 18 ∨ i = 19 ∨ i = 20 := by omega
       ·simp only [gT, gZ, Option.some.injEq] at ho
        subst ho
        clear hLi hafter
        simp only [Act.put, aT, aZ, aS]
        go_wp2_with fail
        exact ⟨.slice (some ⟨ub, 0, none⟩) n n, u29, u30, u31, u32, u33, u34, u35, u36, u37, u38, u39, u40, u41, u42, u43, u44, u45, u46, u47, u48, by simp only [Act.put, aT, aZ, aS], HS.out, (fun _ => rfl), PvR⟩
       ·simp only [gT, gZ, gS, Option.some.injEq] at ho
        subst ho
        clear hLi hafter
        simp only [Act.put, aT, aZ, aS]
        go_wp2_with fail
        exact ⟨u28, .int .i64 j, u30, u31, u32, u33, u34, u35, u36, u37, u38, u39, u40, u41, u42, u43, u44, u45, u46, u47, u48, by simp only [Act.put, aT, aZ, aS], HS.out, PvA, (fun _ => rfl), PvR⟩
       ·simp only [gT, gZ, gS, Option.some.injEq] at ho
        subst ho
        obtain rfl := P0.out (hafter ⟨0, .data⟩ (by simp) rfl)
        obtain rfl := P1.out (hafter ⟨1, .data⟩ (by simp) rfl)
        clear hLi hafter
        simp only [Act.put, aT, aZ, aS]
        go_wp2_with fail
        exact ⟨.slice (some ⟨ub, 0, none⟩) n n, .int .i64 j, .pointer (some ⟨ub, j, none⟩), u31, u32, u33, u34, u35, u36, u37, u38, u39, u40, u41, u42, u43, u44, u45, u46, u47, u48, by simp only [Act.put, aT, aZ, aS], HS.out, PvA, PvA, (fun _ => rfl), PvR⟩
       ·simp only [gT, gZ, gS, Option.some.injEq] at ho
        subst ho
        obtain rfl := P2.out (hafter ⟨2, .data⟩ (by simp) rfl)
        have c0 := (HS.out.1.cell (p := ⟨ub, j, none⟩) hlu).trans gu
        clear hLi hafter
        simp only [Act.put, aT, aZ, aS]
        go_wp2_with fail
        exact ⟨u28, u29, .pointer (some ⟨ub, j, none⟩), .bool true, u32, u33, u34, u35, u36, u37, u38, u39, u40, u41, u42, u43, u44, u45, u46, u47, u48, by simp only [Act.put, aT, aZ, aS], HS.out, PvA, PvA, PvA, (fun _ => rfl), PvR⟩
       ·simp only [gT, gZ, gS, Option.some.injEq] at ho
        subst ho
        obtain rfl := P3.out (hafter ⟨3, .data⟩ (by simp) rfl)
        clear hLi hafter
        simp only [Act.put, aT, aZ, aS]
        go_wp2_with fail
        exact ⟨u28, u29, u30, .bool true, .bool false, u33, u34, u35, u36, u37, u38, u39, u40, u41, u42, u43, u44, u45, u46, u47, u48, by simp only [Act.put, aT, aZ, aS], HS.out, PvA, PvA, PvA, PvA, (fun _ => rfl), PvR⟩
       ·simp only [gT, gZ, gS, Option.some.injEq] at ho
        subst ho
        obtain rfl := P4.out (hafter ⟨4, .data⟩ (by simp) rfl)
        clear hLi hafter
        simp only [Act.put, aT, aZ, aS]
        go_wp2_with fail
        exact ⟨u28, u29, u30, u31, .bool false, .bool false, u34, u35, u36, u37, u38, u39, u40, u41, u42, u43, u44, u45, u46, u47, u48, by simp only [Act.put, aT, aZ, aS], HS.out, PvA, PvA, PvA, PvA, PvA, (fun _ => rfl), PvR⟩
       ·simp only [gT, gZ, gS, Option.some.injEq] at ho
        subst ho
        obtain rfl := P5.out (hafter ⟨5, .guard⟩ (by simp) rfl)
        clear hLi hafter
        simp only [Act.put, aT, aZ, aS]
        go_wp2_with fail
        exact ⟨u28, u29, u30, u31, u32, .bool false, undef, u35, u36, u37, u38, u39, u40, u41, u42, u43, u44, u45, u46, u47, u48, by simp only [Act.put, aT, aZ, aS], HS.out, PvA, PvA, PvA, PvA, PvA, PvA, (fun _ => rfl), PvR⟩
       ·simp only [gT, gZ, gS, Option.some.injEq] at ho
        subst ho
        obtain rfl := P5.out (hafter ⟨5, .guard⟩ (by simp) rfl)
        clear hLi hafter
        simp only [Act.put, aT, aZ, aS]
        go_wp2_with fail
        exact ⟨u28, u29, u30, u31, u32, .bool false, u34, undef, u36, u37, u38, u39, u40, u41, u42, u43, u44, u45, u46, u47, u48, by simp only [Act.put, aT, aZ, aS], HS.out, PvA, PvA, PvA, PvA, PvA, PvA, PvA, (fun _ => rfl), PvR⟩
       ·simp only [gT, gZ, gS, Option.some.injEq] at ho
        subst ho
        obtain rfl := P5.out (hafter ⟨5, .guard⟩ (by simp) rfl)
        clear hLi hafter
        simp only [Act.put, aT, aZ, aS]
        go_wp2_with fail
        exact ⟨u28, u29, u30, u31, u32, .bool false, u34, u35, undef, u37, u38, u39, u40, u41, u42, u43, u44, u45, u46, u47, u48, by simp only [Act.put, aT, aZ, aS], HS.out, PvA, PvA, PvA, PvA, PvA, PvA, PvA, PvA, (fun _ => rfl), PvR⟩
       ·simp only [gT, gZ, gS, Option.some.injEq] at ho
        subst ho
        obtain rfl := P8.out (hafter ⟨8, .guard⟩ (by simp) rfl)
        clear hLi hafter
        simp only [Act.put, aT, aZ, aS]
        go_wp2_with fail
        exact ⟨u28, u29, u30, u31, u32, u33, u34, u35, undef, undef, u38, u39, u40, u41, u42, u43, u44, u45, u46, u47, u48, by simp only [Act.put, aT, aZ, aS], HS.out, PvA, PvA, PvA, PvA, PvA, PvA, PvA, PvA, PvA, (fun _ => rfl), PvR⟩
       ·simp only [gT, gZ, gS, Option.some.injEq] at ho
        subst ho
        obtain rfl := P8.out (hafter ⟨8, .guard⟩ (by simp) rfl)
        clear hLi hafter
        simp only [Act.put, aT, aZ, aS]
        go_wp2_with fail
        exact ⟨u28, u29, u30, u31, u32, u33, u34, u35, undef, u37, undef, u39, u40, u41, u42, u43, u44, u45, u46, u47, u48, by simp only [Act.put, aT, aZ, aS], HS.out, PvA, PvA, PvA, PvA, PvA, PvA, PvA, PvA, PvA, PvA, (fun _ => rfl), PvR⟩
       ·simp only [gT, gZ, gS, Option.some.injEq] at ho
        subst ho
        obtain rfl := P8.out (hafter ⟨8, .guard⟩ (by simp) rfl)
        clear hLi hafter
        simp only [Act.put, aT, aZ, aS]
        go_wp2_with fail
        exact ⟨u28, u29, u30, u31, u32, u33, u34, u35, undef, u37, u38, undef, u40, u41, u42, u43, u44, u45, u46, u47, u48, by simp only [Act.put, aT, aZ, aS], HS.out, PvA, PvA, PvA, PvA, PvA, PvA, PvA, PvA, PvA, PvA, PvA, (fun _ => rfl), PvR⟩
       ·simp only [gT, gZ, gS, Option.some.injEq] at ho
        subst ho
        obtain rfl := P8.out (hafter ⟨8, .guard⟩ (by simp) rfl)
        clear hLi hafter
        simp only [Act.put, aT, aZ, aS]
        go_wp2_with fail
        exact ⟨u28, u29, u30, u31, u32, u33, u34, u35, undef, u37, u38, u39, undef, u41, u42, u43, u44, u45, u46, u47, u48, by simp only [Act.put, aT, aZ, aS], HS.out, PvA, PvA, PvA, PvA, PvA, PvA, PvA, PvA, PvA, PvA, PvA, PvA, (fun _ => rfl), PvR⟩
       ·simp only [gT, gZ, gS, Option.some.injEq] at ho
        subst ho
        obtain rfl := P8.out (hafter ⟨8, .guard⟩ (by simp) rfl)
        clear hLi hafter
        simp only [Act.put, aT, aZ, aS]
        go_wp2_with fail
        exact ⟨u28, u29, u30, u31, u32, u33, u34, u35, undef, u37, u38, u39, u40, undef, u42, u43, u44, u45, u46, u47, u48, by simp only [Act.put, aT, aZ, aS], HS.out, PvA, PvA, PvA, PvA, PvA, PvA, PvA, PvA, PvA, PvA, PvA, PvA, PvA, (fun _ => rfl), PvR⟩
       ·simp only [gT, gZ, gS, Option.some.injEq] at ho
        subst ho
        obtain rfl := P8.out (hafter ⟨8, .guard⟩ (by simp) rfl)
        clear hLi hafter
        simp only [Act.put, aT, aZ, aS]
        go_wp2_with fail
        exact ⟨u28, u29, u30, u31, u32, u33, u34, u35, undef, u37, u38, u39, u40, u41, undef, u43, u44, u45, u46, u47, u48, by simp only [Act.put, aT, aZ, aS], HS.out, PvA, PvA, PvA, PvA, PvA, PvA, PvA, PvA, PvA, PvA, PvA, PvA, PvA, PvA, (fun _ => rfl), PvR⟩
       ·simp only [gT, gZ, gS, Option.some.injEq] at ho
        subst ho
        obtain rfl := P8.out (hafter ⟨8, .guard⟩ (by simp) rfl)
        clear hLi hafter
        simp only [Act.put, aT, aZ, aS]
        go_wp2_with fail
        exact ⟨u28, u29, u30, u31, u32, u33, u34, u35, undef, u37, u38, u39, u40, u41, u42, undef, u44, u45, u46, u47, u48, by simp only [Act.put, aT, aZ, aS], HS.out, PvA, PvA, PvA, PvA, PvA, PvA, PvA, PvA, PvA, PvA, PvA, PvA, PvA, PvA, PvA, (fun _ => rfl), PvR⟩
       ·simp only [gT, gZ, gS, Option.some.injEq] at ho
        subst ho
        obtain rfl := P8.out (hafter ⟨8, .guard⟩ (by simp) rfl)
        clear hLi hafter
        simp only [Act.put, aT, aZ, aS]
        go_wp2_with fail
        exact ⟨u28, u29, u30, u31, u32, u33, u34, u35, undef, u37, u38, u39, u40, u41, u42, u43, undef, u45, u46, u47, u48, by simp only [Act.put, aT, aZ, aS], HS.out, PvA, PvA, PvA, PvA, PvA, PvA, PvA, PvA, PvA, PvA, PvA, PvA, PvA, PvA, PvA, PvA, (fun _ => rfl), PvR⟩
       ·simp only [gT, gZ, gS, Option.some.injEq] at ho
        subst ho
        obtain rfl := P8.out (hafter ⟨8, .guard⟩ (by simp) rfl)
        clear hLi hafter
        simp only [Act.put, aT, aZ, aS]
        go_wp2_with fail
        exact ⟨u28, u29, u30, u31, u32, u33, u34, u35, undef, u37, u38, u39, u40, u41, u42, u43, u44, undef, u46, u47, u48, by simp only [Act.put, aT, aZ, aS], HS.out, PvA, PvA, PvA, PvA, PvA, PvA, PvA, PvA, PvA, PvA, PvA, PvA, PvA, PvA, PvA, PvA, PvA, (fun _ => rfl), PvR⟩
       ·simp only [gT, gZ, gS, Option.some.injEq] at ho
        subst ho
        obtain rfl := P8.out (hafter ⟨8, .guard⟩ (by simp) rfl)
        clear hLi hafter
        simp only [Act.put, aT, aZ, aS]
        go_wp2_with fail
        exact ⟨u28, u29, u30, u31, u32, u33, u34, u35, undef, u37, u38, u39, u40, u41, u42, u43, u44, u45, undef, u47, u48, by simp only [Act.put, aT, aZ, aS], HS.out, PvA, PvA, PvA, PvA, PvA, PvA, PvA, PvA, PvA, PvA, PvA, PvA, PvA, PvA, PvA, PvA, PvA, PvA, (fun _ => rfl), PvR⟩
       ·simp only [gT, gZ, gS, Option.some.injEq] at ho
        subst ho
        obtain rfl := P5.out (hafter ⟨5, .guard⟩ (by simp) rfl)
        clear hLi hafter
        simp only [Act.put, aT, aZ, aS]
        go_wp2_with fail
        exact ⟨u28, u29, u30, u31, u32, .bool false, u34, u35, u36, u37, u38, u39, u40, u41, u42, u43, u44, u45, u46, undef, u48, by simp only [Act.put, aT, aZ, aS], HS.out, PvA, PvA, PvA, PvA, PvA, PvA, PvA, PvA, PvA, PvA, PvA, PvA, PvA, PvA, PvA, PvA, PvA, PvA, PvA, (fun _ => rfl), PvA⟩
       ·simp only [gT, gZ, gS, Option.some.injEq] at ho
        subst ho
        obtain rfl := P5.out (hafter ⟨5, .data⟩ (by simp) rfl)
        clear hLi hafter
        simp only [Act.put, aT, aZ, aS]
        go_wp2_with fail
        exact ⟨u28, u29, u30, u31, u32, .bool false, u34, u35, u36, u37, u38, u39, u40, u41, u42, u43, u44, u45, u46, u47, .bool false, by simp only [Act.put, aT, aZ, aS], HS.out, PvA, PvA, PvA, PvA, PvA, PvA, PvA, PvA, PvA, PvA, PvA, PvA, PvA, PvA, PvA, PvA, PvA, PvA, PvA, PvA, (fun _ => rfl)⟩
      ·intro Ls a0 wq hall hJ
       obtain ⟨u28, u29, u30, u31, u32, u33, u34, u35, u36, u37, u38, u39, u40, u41, u42, u43, u44, u45, u46, u47, u48, rfl, hS, p0, p1, p2, p3, p4, p5, p6, p7, p8, p9, p10, p11, p12, p13, p14, p15, p16, p17, p18, p19, p20⟩ := hJ
       replace p0 := p0 (hall 0 (by decide))
       replace p1 := p1 (hall 1 (by decide))
       replace p2 := p2 (hall 2 (by decide))
       replace p3 := p3 (hall 3 (by decide))
       replace p4 := p4 (hall 4 (by decide))
       replace p5 := p5 (hall 5 (by decide))
       replace p6 := p6 (hall 6 (by decide))
       replace p7 := p7 (hall 7 (by decide))
       replace p8 := p8 (hall 8 (by decide))
       replace p9 := p9 (hall 9 (by decide))
       replace p10 := p10 (hall 10 (by decide))
       replace p11 := p11 (hall 11 (by decide))
       replace p12 := p12 (hall 12 (by decide))
       replace p13 := p13 (hall 13 (by decide))
       replace p14 := p14 (hall 14 (by decide))
       replace p15 := p15 (hall 15 (by decide))
       replace p16 := p16 (hall 16 (by decide))
       replace p17 := p17 (hall 17 (by decide))
       replace p18 := p18 (hall 18 (by decide))
       replace p19 := p19 (hall 19 (by decide))
       replace p20 := p20 (hall 20 (by decide))
       have HS := Lib.hid hS
       subst p20
       clear hS p0 p1 p2 p3 p4 p5 p6 p7 p8 p9 p10 p11 p12 p13 p14 p15 p16 p17 p18 p19
       simp only [Act.put, aT, aZ, aS]
       go_wp2_with fail
       go_roundw
       case rel => exact ⟨j + 1, by omega, by go_num, Lib.hid (HBI.out.used HUS.out), HB.out.trans (HS.out.1.mono hs0)⟩
       case measure => simp [intOf]; omega
     ·have gu : wi.cell? ⟨ub, j, none⟩ = some (.bool false) := by have h1 := HRW.out.cell hjn; have h2 := cell_mono h1 HB.out; rw [h2]; simp; omega
      rcases HBI.out with ⟨e1, hfirst⟩ | ⟨y, e1, h1, h2, h3⟩
      ·subst e1
       have HUS := Lib.hid hus
       have HF := Lib.hid hfirst
       clear hus hfirst
       go_wp2_with fail
       refine region_inv2 (by kernel_rfl) (OrdB ub n j (wi)) ?_ ?_ ?_ ?_
       ·exact ⟨u28, u29, u30, u31, u32, u33, u34, u35, u36, u37, u38, u39, u40, u41, u42, u43, u44, u45, u46, u47, u48, by simp only [Act.put, aT, aZ, aS], Since.drawn _, NoR⟩
       ·exact acyc_spec (by kernel_rfl)
       ·intro Ls a0 wq i o ho hLi hafter hJ
        obtain ⟨u28, u29, u30, u31, u32, u33, u34, u35, u36, u37, u38, u39, u40, u41, u42, u43, u44, u45, u46, u47, u48, rfl, hS, p0, p1, p2, p3, p4, p5, p6, p7, p8, p9, p10, p11, p12, p13, p14, p15, p16, p17, p18, p19, p20⟩ := hJ
        have P0 := Lib.hid p0; have P1 := Lib.hid p1; have P2 := Lib.hid p2; have P3 := Lib.hid p3; have P4 := Lib.hid p4; have P5 := Lib.hid p5; have P6 := Lib.hid p6; have P7 := Lib.hid p7; have P8 := Lib.hid p8; have P9 := Lib.hid p9; have P10 := Lib.hid p10; have P11 := Lib.hid p11; have P12 := Lib.hid p12; have P13 := Lib.hid p13; have P14 := Lib.hid p14; have P15 := Lib.hid p15; have P16 := Lib.hid p16; have P17 := Lib.hid p17; have P18 := Lib.hid p18; have P19 := Lib.hid p19; have P20 := Lib.hid p20; have HS := Lib.hid hS; clear hS p0 p1 p2 p3 p4 p5 p6 p7 p8 p9 p10 p11 p12 p13 p14 p15 p16 p17 p18 p19 p20
        have hi : i < 21 := (Array.getElem?_eq_some_iff.1 ho).1
        obtain rfl | rfl | rfl | rfl | rfl | rfl | rfl | rfl | rfl | rfl | rfl | rfl | rfl | rfl | rfl | rfl | rfl | rfl | rfl | rfl | rfl : i = 0 ∨ i = 1 ∨ i = 2 ∨ i = 3 ∨ i = 4 ∨ i = 5 ∨ i = 6 ∨ i = 7 ∨ i = 8 ∨ i = 9 ∨ i = 10 ∨ i = 11 ∨ i = 12 ∨ i = 13 ∨ i = 14 ∨ i = 15 ∨ i = 16 ∨ i = 17 ∨ i = 18 ∨ i = 19 ∨ i = 20 := by omega
        ·simp only [gT, gZ, Option.some.injEq] at ho
         subst ho
         clear hLi hafter
         simp only [Act.put, aT, aZ, aS]
         go_wp2_with fail
         exact ⟨.slice (some ⟨ub, 0, none⟩) n n, u29, u30, u31, u32, u33, u34, u35, u36, u37, u38, u39, u40, u41, u42, u43, u44, u45, u46, u47, u48, by simp only [Act.put, aT, aZ, aS], HS.out, (fun _ => rfl), PvR⟩
        ·simp only [gT, gZ, gS, Option.some.injEq] at ho
         subst ho
         clear hLi hafter
         simp only [Act.put, aT, aZ, aS]
         go_wp2_with fail
         exact ⟨u28, .int .i64 j, u30, u31, u32, u33, u34, u35, u36, u37, u38, u39, u40, u41, u42, u43, u44, u45, u46, u47, u48, by simp only [Act.put, aT, aZ, aS], HS.out, PvA, (fun _ => rfl), PvR⟩
        ·simp only [gT, gZ, gS, Option.some.injEq] at ho
         subst ho
         obtain rfl := P0.out (hafter ⟨0, .data⟩ (by simp) rfl)
         obtain rfl := P1.out (hafter ⟨1, .data⟩ (by simp) rfl)
         clear hLi hafter
         simp only [Act.put, aT, aZ, aS]
         go_wp2_with fail
         exact ⟨.slice (some ⟨ub, 0, none⟩) n n, .int .i64 j, .pointer (some ⟨ub, j, none⟩), u31, u32, u33, u34, u35, u36, u37, u38, u39, u40, u41, u42, u43, u44, u45, u46, u47, u48, by simp only [Act.put, aT, aZ, aS], HS.out, PvA, PvA, (fun _ => rfl), PvR⟩
        ·simp only [gT, gZ, gS, Option.some.injEq] at ho
         subst ho
         obtain rfl := P2.out (hafter ⟨2, .data⟩ (by simp) rfl)
         have c0 := (HS.out.1.cell (p := ⟨ub, j, none⟩) hlu).trans gu
         clear hLi hafter
         simp only [Act.put, aT, aZ, aS]
         go_wp2_with fail
         exact ⟨u28, u29, .pointer (some ⟨ub, j, none⟩), .bool false, u32, u33, u34, u35, u36, u37, u38, u39, u40, u41, u42, u43, u44, u45, u46, u47, u48, by simp only [Act.put, aT, aZ, aS], HS.out, PvA, PvA, PvA, (fun _ => rfl), PvR⟩
        ·simp only [gT, gZ, gS, Option.some.injEq] at ho
         subst ho
         obtain rfl := P3.out (hafter ⟨3, .data⟩ (by simp) rfl)
         clear hLi hafter
         simp only [Act.put, aT, aZ, aS]
         go_wp2_with fail
         exact ⟨u28, u29, u30, .bool false, .bool true, u33, u34, u35, u36, u37, u38, u39, u40, u41, u42, u43, u44, u45, u46, u47, u48, by simp only [Act.put, aT, aZ, aS], HS.out, PvA, PvA, PvA, PvA, (fun _ => rfl), PvR⟩
        ·simp only [gT, gZ, gS, Option.some.injEq] at ho
         subst ho
         obtain rfl := P4.out (hafter ⟨4, .data⟩ (by simp) rfl)
         clear hLi hafter
         simp only [Act.put, aT, aZ, aS]
         go_wp2_with fail
         exact ⟨u28, u29, u30, u31, .bool true, .bool true, u34, u35, u36, u37, u38, u39, u40, u41, u42, u43, u44, u45, u46, u47, u48, by simp only [Act.put, aT, aZ, aS], HS.out, PvA, PvA, PvA, PvA, PvA, (fun _ => rfl), PvR⟩
        ·simp only [gT, gZ, gS, Option.some.injEq] at ho
         subst ho
         obtain rfl := P5.out (hafter ⟨5, .guard⟩ (by simp) rfl)
         clear hLi hafter
         simp only [Act.put, aT, aZ, aS]
         go_wp2_with fail
         exact ⟨u28, u29, u30, u31, u32, .bool true, .int .i64 (-1), u35, u36, u37, u38, u39, u40, u41, u42, u43, u44, u45, u46, u47, u48, by simp only [Act.put, aT, aZ, aS], HS.out, PvA, PvA, PvA, PvA, PvA, PvA, (fun _ => rfl), PvR⟩
        ·simp only [gT, gZ, gS, Option.some.injEq] at ho
         subst ho
         obtain rfl := P5.out (hafter ⟨5, .guard⟩ (by simp) rfl)
         obtain rfl := P6.out (hafter ⟨6, .data⟩ (by simp) rfl)
         clear hLi hafter
         simp only [Act.put, aT, aZ, aS]
         go_wp2_with fail
         exact ⟨u28, u29, u30, u31, u32, .bool true, .int .i64 (-1), .bool true, u36, u37, u38, u39, u40, u41, u42, u43, u44, u45, u46, u47, u48, by simp only [Act.put, aT, aZ, aS], HS.out, PvA, PvA, PvA, PvA, PvA, PvA, PvA, (fun _ => rfl), PvR⟩
        ·simp only [gT, gZ, gS, Option.some.injEq] at ho
         subst ho
         obtain rfl := P5.out (hafter ⟨5, .guard⟩ (by simp) rfl)
         obtain rfl := P7.out (hafter ⟨7, .data⟩ (by simp) rfl)
         clear hLi hafter
         simp only [Act.put, aT, aZ, aS]
         go_wp2_with fail
         exact ⟨u28, u29, u30, u31, u32, .bool true, u34, .bool true, .bool true, u37, u38, u39, u40, u41, u42, u43, u44, u45, u46, u47, u48, by simp only [Act.put, aT, aZ, aS], HS.out, PvA, PvA, PvA, PvA, PvA, PvA, PvA, PvA, (fun _ => rfl), PvR⟩
        ·simp only [gT, gZ, gS, Option.some.injEq] at ho
         subst ho
         obtain rfl := P8.out (hafter ⟨8, .guard⟩ (by simp) rfl)
         clear hLi hafter
         simp only [Act.put, aT, aZ, aS]
         go_wp2_with fail
         exact ⟨u28, u29, u30, u31, u32, u33, u34, u35, .bool true, undef, u38, u39, u40, u41, u42, u43, u44, u45, u46, u47, u48, by simp only [Act.put, aT, aZ, aS], HS.out, PvA, PvA, PvA, PvA, PvA, PvA, PvA, PvA, PvA, (fun _ => rfl), PvR⟩
        ·simp only [gT, gZ, gS, Option.some.injEq] at ho
         subst ho
         obtain rfl := P8.out (hafter ⟨8, .guard⟩ (by simp) rfl)
         clear hLi hafter
         simp only [Act.put, aT, aZ, aS]
         go_wp2_with fail
         exact ⟨u28, u29, u30, u31, u32, u33, u34, u35, .bool true, u37, undef, u39, u40, u41, u42, u43, u44, u45, u46, u47, u48, by simp only [Act.put, aT, aZ, aS], HS.out, PvA, PvA, PvA, PvA, PvA, PvA, PvA, PvA, PvA, PvA, (fun _ => rfl), PvR⟩
        ·simp only [gT, gZ, gS, Option.some.injEq] at ho
         subst ho
         obtain rfl := P8.out (hafter ⟨8, .guard⟩ (by simp) rfl)
         clear hLi hafter
         simp only [Act.put, aT, aZ, aS]
         go_wp2_with fail
         exact ⟨u28, u29, u30, u31, u32, u33, u34, u35, .bool true, u37, u38, undef, u40, u41, u42, u43, u44, u45, u46, u47, u48, by simp only [Act.put, aT, aZ, aS], HS.out, PvA, PvA, PvA, PvA, PvA, PvA, PvA, PvA, PvA, PvA, PvA, (fun _ => rfl), PvR⟩
        ·simp only [gT, gZ, gS, Option.some.injEq] at ho
         subst ho
         obtain rfl := P8.out (hafter ⟨8, .guard⟩ (by simp) rfl)
         clear hLi hafter
         simp only [Act.put, aT, aZ, aS]
         go_wp2_with fail
         exact ⟨u28, u29, u30, u31, u32, u33, u34, u35, .bool true, u37, u38, u39, undef, u41, u42, u43, u44, u45, u46, u47, u48, by simp only [Act.put, aT, aZ, aS], HS.out, PvA, PvA, PvA, PvA, PvA, PvA, PvA, PvA, PvA, PvA, PvA, PvA, (fun _ => rfl), PvR⟩
        ·simp only [gT, gZ, gS, Option.some.injEq] at ho
         subst ho
         obtain rfl := P8.out (hafter ⟨8, .guard⟩ (by simp) rfl)
         clear hLi hafter
         simp only [Act.put, aT, aZ, aS]
         go_wp2_with fail
         exact ⟨u28, u29, u30, u31, u32, u33, u34, u35, .bool true, u37, u38, u39, u40, undef, u42, u43, u44, u45, u46, u47, u48, by simp only [Act.put, aT, aZ, aS], HS.out, PvA, PvA, PvA, PvA, PvA, PvA, PvA, PvA, PvA, PvA, PvA, PvA, PvA, (fun _ => rfl), PvR⟩
        ·simp only [gT, gZ, gS, Option.some.injEq] at ho
         subst ho
         obtain rfl := P8.out (hafter ⟨8, .guard⟩ (by simp) rfl)
         clear hLi hafter
         simp only [Act.put, aT, aZ, aS]
         go_wp2_with fail
         exact ⟨u28, u29, u30, u31, u32, u33, u34, u35, .bool true, u37, u38, u39, u40, u41, undef, u43, u44, u45, u46, u47, u48, by simp only [Act.put, aT, aZ, aS], HS.out, PvA, PvA, PvA, PvA, PvA, PvA, PvA, PvA, PvA, PvA, PvA, PvA, PvA, PvA, (fun _ => rfl), PvR⟩
        ·simp only [gT, gZ, gS, Option.some.injEq] at ho
         subst ho
         obtain rfl := P8.out (hafter ⟨8, .guard⟩ (by simp) rfl)
         clear hLi hafter
         simp only [Act.put, aT, aZ, aS]
         go_wp2_with fail
         exact ⟨u28, u29, u30, u31, u32, u33, u34, u35, .bool true, u37, u38, u39, u40, u41, u42, undef, u44, u45, u46, u47, u48, by simp only [Act.put, aT, aZ, aS], HS.out, PvA, PvA, PvA, PvA, PvA, PvA, PvA, PvA, PvA, PvA, PvA, PvA, PvA, PvA, PvA, (fun _ => rfl), PvR⟩
        ·simp only [gT, gZ, gS, Option.some.injEq] at ho
         subst ho
         obtain rfl := P8.out (hafter ⟨8, .guard⟩ (by simp) rfl)
         clear hLi hafter
         simp only [Act.put, aT, aZ, aS]
         go_wp2_with fail
         exact ⟨u28, u29, u30, u31, u32, u33, u34, u35, .bool true, u37, u38, u39, u40, u41, u42, u43, undef, u45, u46, u47, u48, by simp only [Act.put, aT, aZ, aS], HS.out, PvA, PvA, PvA, PvA, PvA, PvA, PvA, PvA, PvA, PvA, PvA, PvA, PvA, PvA, PvA, PvA, (fun _ => rfl), PvR⟩
        ·simp only [gT, gZ, gS, Option.some.injEq] at ho
         subst ho
         obtain rfl := P8.out (hafter ⟨8, .guard⟩ (by simp) rfl)
         clear hLi hafter
         simp only [Act.put, aT, aZ, aS]
         go_wp2_with fail
         exact ⟨u28, u29, u30, u31, u32, u33, u34, u35, .bool true, u37, u38, u39, u40, u41, u42, u43, u44, undef, u46, u47, u48, by simp only [Act.put, aT, aZ, aS], HS.out, PvA, PvA, PvA, PvA, PvA, PvA, PvA, PvA, PvA, PvA, PvA, PvA, PvA, PvA, PvA, PvA, PvA, (fun _ => rfl), PvR⟩
        ·simp only [gT, gZ, gS, Option.some.injEq] at ho
         subst ho
         obtain rfl := P8.out (hafter ⟨8, .guard⟩ (by simp) rfl)
         clear hLi hafter
         simp only [Act.put, aT, aZ, aS]
         go_wp2_with fail
         exact ⟨u28, u29, u30, u31, u32, u33, u34, u35, .bool true, u37, u38, u39, u40, u41, u42, u43, u44, u45, undef, u47, u48, by simp only [Act.put, aT, aZ, aS], HS.out, PvA, PvA, PvA, PvA, PvA, PvA, PvA, PvA, PvA, PvA, PvA, PvA, PvA, PvA, PvA, PvA, PvA, PvA, (fun _ => rfl), PvR⟩
        ·simp only [gT, gZ, gS, Option.some.injEq] at ho
         subst ho
         obtain rfl := P5.out (hafter ⟨5, .guard⟩ (by simp) rfl)
         obtain rfl := P8.out (hafter ⟨8, .data⟩ (by simp) rfl)
         clear hLi hafter
         simp only [Act.put, aT, aZ, aS]
         go_wp2_with fail
         exact ⟨u28, u29, u30, u31, u32, .bool true, u34, u35, .bool true, u37, u38, u39, u40, u41, u42, u43, u44, u45, u46, .bool true, u48, by simp only [Act.put, aT, aZ, aS], HS.out, PvA, PvA, PvA, PvA, PvA, PvA, PvA, PvA, PvA, PvA, PvA, PvA, PvA, PvA, PvA, PvA, PvA, PvA, PvA, (fun _ => rfl), PvA⟩
        ·simp only [gT, gZ, gS, Option.some.injEq] at ho
         subst ho
         obtain rfl := P5.out (hafter ⟨5, .data⟩ (by simp) rfl)
         obtain rfl := P19.out (hafter ⟨19, .data⟩ (by simp) rfl)
         clear hLi hafter
         simp only [Act.put, aT, aZ, aS]
         go_wp2_with fail
         exact ⟨u28, u29, u30, u31, u32, .bool true, u34, u35, u36, u37, u38, u39, u40, u41, u42, u43, u44, u45, u46, .bool true, .bool true, by simp only [Act.put, aT, aZ, aS], HS.out, PvA, PvA, PvA, PvA, PvA, PvA, PvA, PvA, PvA, PvA, PvA, PvA, PvA, PvA, PvA, PvA, PvA, PvA, PvA, PvA, (fun _ => rfl)⟩
       ·intro Ls a0 wq hall hJ
        obtain ⟨u28, u29, u30, u31, u32, u33, u34, u35, u36, u37, u38, u39, u40, u41, u42, u43, u44, u45, u46, u47, u48, rfl, hS, p0, p1, p2, p3, p4, p5, p6, p7, p8, p9, p10, p11, p12, p13, p14, p15, p16, p17, p18, p19, p20⟩ := hJ
        replace p0 := p0 (hall 0 (by decide))
        replace p1 := p1 (hall 1 (by decide))
        replace p2 := p2 (hall 2 (by decide))
        replace p3 := p3 (hall 3 (by decide))
        replace p4 := p4 (hall 4 (by decide))
        replace p5 := p5 (hall 5 (by decide))
        replace p6 := p6 (hall 6 (by decide))
        replace p7 := p7 (hall 7 (by decide))
        replace p8 := p8 (hall 8 (by decide))
        replace p9 := p9 (hall 9 (by decide))
        replace p10 := p10 (hall 10 (by decide))
        replace p11 := p11 (hall 11 (by decide))
        replace p12 := p12 (hall 12 (by decide))
        replace p13 := p13 (hall 13 (by decide))
        replace p14 := p14 (hall 14 (by decide))
        replace p15 := p15 (hall 15 (by decide))
        replace p16 := p16 (hall 16 (by decide))
        replace p17 := p17 (hall 17 (by decide))
        replace p18 := p18 (hall 18 (by decide))
        replace p19 := p19 (hall 19 (by decide))
        replace p20 := p20 (hall 20 (by decide))
        have HS := Lib.hid hS
        subst p20
        clear hS p0 p1 p2 p3 p4 p5 p6 p7 p8 p9 p10 p11 p12 p13 p14 p15 p16 p17 p18 p19
        simp only [Act.put, aT, aZ, aS]
        go_wp2_with fail
        go_roundw
        case rel => exact ⟨j + 1, by omega, by go_num, Lib.hid (BestI.first HF.out (by have := HUS.out; omega)), HB.out.trans (HS.out.1.mono hs0)⟩
        case measure => simp [intOf]; omega
      ·subst e1
       have HUS := Lib.hid hus
       have HF := Lib.hid (And.intro h2 h3)
       clear hus h2 h3
       have HAi := Lib.hid (HAw.out.below (HBw.out.trans (HB.out.mono hsw)))
       obtain ⟨b, off, rfl, ho⟩ := HAi.out.2.2 (by omega)
       obtain ⟨sj, rj, lj, kj, tj, mj, ej, g0, g1, g2, hjt⟩ := ho j hjn
       obtain ⟨sy, ry, ly, ky, ty, my, ey, g3, g4, g5, hyt⟩ := ho y (by omega)
       have HJ := Lib.hid hjt
       have HY := Lib.hid hyt
       have hlb : b < wi.heap.size := World.block_lt_of_cell? wi _ g0
       clear ho hjt hyt HAi
       have hyz : (y : Int) < (n : Int) := by omega
       have hy0 : (0 : Int) ≤ (y : Int) := by omega
       have hyn : decide ((y : Int) < 0) = false := by simp
       obtain ⟨κ, hκ⟩ : ∃ κ, cmpQ (q j) (q y) = κ := ⟨_, rfl⟩
       have HK := Lib.hid hκ
       obtain ⟨gg, hgg⟩ : ∃ g, decide (q y < q j) = g := ⟨_, rfl⟩
       have d1 : decide (0 < κ) = gg := by rw [← hκ]; exact cmp_gtF _ _ _ hgg
       have HGG := Lib.hid hgg
       clear hκ hgg
       go_wp2_with fail
       refine region_inv2 (by kernel_rfl) (OrdC ub n j y b off cap κ gg sj sy rj tj ry ty lj kj mj ej ly ky my ey (wi)) ?_ ?_ ?_ ?_
       ·exact ⟨u28, u29, u30, u31, u32, u33, u34, u35, u36, u37, u38, u39, u40, u41, u42, u43, u44, u45, u46, u47, u48, by simp only [Act.put, aT, aZ, aS], Since.drawn _, NoR⟩
       ·exact acyc_spec (by kernel_rfl)
       ·intro Ls a0 wq i o ho hLi hafter hJ
        obtain ⟨u28, u29, u30, u31, u32, u33, u34, u35, u36, u37, u38, u39, u40, u41, u42, u43, u44, u45, u46, u47, u48, rfl, hS, p0, p1, p2, p3, p4, p5, p6, p7, p8, p9, p10, p11, p12, p13, p14, p15, p16, p17, p18, p19, p20⟩ := hJ
        have P0 := Lib.hid p0; have P1 := Lib.hid p1; have P2 := Lib.hid p2; have P3 := Lib.hid p3; have P4 := Lib.hid p4; have P5 := Lib.hid p5; have P6 := Lib.hid p6; have P7 := Lib.hid p7; have P8 := Lib.hid p8; have P9 := Lib.hid p9; have P10 := Lib.hid p10; have P11 := Lib.hid p11; have P12 := Lib.hid p12; have P13 := Lib.hid p13; have P14 := Lib.hid p14; have P15 := Lib.hid p15; have P16 := Lib.hid p16; have P17 := Lib.hid p17; have P18 := Lib.hid p18; have P19 := Lib.hid p19; have P20 := Lib.hid p20; have HS := Lib.hid hS; clear hS p0 p1 p2 p3 p4 p5 p6 p7 p8 p9 p10 p11 p12 p13 p14 p15 p16 p17 p18 p19 p20
        have hi : i < 21 := (Array.getElem?_eq_some_iff.1 ho).1
        obtain rfl | rfl | rfl | rfl | rfl | rfl | rfl | rfl | rfl | rfl | rfl | rfl | rfl | rfl | rfl | rfl | rfl | rfl | rfl | rfl | rfl : i = 0 ∨ i = 1 ∨ i = 2 ∨ i = 3 ∨ i = 4 ∨ i = 5 ∨ i = 6 ∨ i = 7 ∨ i = 8 ∨ i = 9 ∨ i = 10 ∨ i = 11 ∨ i = 12 ∨ i = 13 ∨ i = 14 ∨ i = 15 ∨ i = 16 ∨ i = 17 ∨ i = 18 ∨ i = 19 ∨ i = 20 := by omega
        ·simp only [gT, gZ, Option.some.injEq] at ho
         subst ho
         clear hLi hafter
         simp only [Act.put, aT, aZ, aS]
         go_wp2_with fail
         exact ⟨.slice (some ⟨ub, 0, none⟩) n n, u29, u30, u31, u32, u33, u34, u35, u36, u37, u38, u39, u40, u41, u42, u43, u44, u45, u46, u47, u48, by simp only [Act.put, aT, aZ, aS], HS.out, (fun _ => rfl), PvR⟩
        ·simp only [gT, gZ, gS, Option.some.injEq] at ho
         subst ho
         clear hLi hafter
         simp only [Act.put, aT, aZ, aS]
         go_wp2_with fail
         exact ⟨u28, .int .i64 j, u30, u31, u32, u33, u34, u35, u36, u37, u38, u39, u40, u41, u42, u43, u44, u45, u46, u47, u48, by simp only [Act.put, aT, aZ, aS], HS.out, PvA, (fun _ => rfl), PvR⟩
        ·simp only [gT, gZ, gS, Option.some.injEq] at ho
         subst ho
         obtain rfl := P0.out (hafter ⟨0, .data⟩ (by simp) rfl)
         obtain rfl := P1.out (hafter ⟨1, .data⟩ (by simp) rfl)
         clear hLi hafter
         simp only [Act.put, aT, aZ, aS]
         go_wp2_with fail
         exact ⟨.slice (some ⟨ub, 0, none⟩) n n, .int .i64 j, .pointer (some ⟨ub, j, none⟩), u31, u32, u33, u34, u35, u36, u37, u38, u39, u40, u41, u42, u43, u44, u45, u46, u47, u48, by simp only [Act.put, aT, aZ, aS], HS.out, PvA, PvA, (fun _ => rfl), PvR⟩
        ·simp only [gT, gZ, gS, Option.some.injEq] at ho
         subst ho
         obtain rfl := P2.out (hafter ⟨2, .data⟩ (by simp) rfl)
         have c0 := (HS.out.1.cell (p := ⟨ub, j, none⟩) hlu).trans gu
         clear hLi hafter
         simp only [Act.put, aT, aZ, aS]
         go_wp2_with fail
         exact ⟨u28, u29, .pointer (some ⟨ub, j, none⟩), .bool false, u32, u33, u34, u35, u36, u37, u38, u39, u40, u41, u42, u43, u44, u45, u46, u47, u48, by simp only [Act.put, aT, aZ, aS], HS.out, PvA, PvA, PvA, (fun _ => rfl), PvR⟩
        ·simp only [gT, gZ, gS, Option.some.injEq] at ho
         subst ho
         obtain rfl := P3.out (hafter ⟨3, .data⟩ (by simp) rfl)
         clear hLi hafter
         simp only [Act.put, aT, aZ, aS]
         go_wp2_with fail
         exact ⟨u28, u29, u30, .bool false, .bool true, u33, u34, u35, u36, u37, u38, u39, u40, u41, u42, u43, u44, u45, u46, u47, u48, by simp only [Act.put, aT, aZ, aS], HS.out, PvA, PvA, PvA, PvA, (fun _ => rfl), PvR⟩
        ·simp only [gT, gZ, gS, Option.some.injEq] at ho
         subst ho
         obtain rfl := P4.out (hafter ⟨4, .data⟩ (by simp) rfl)
         clear hLi hafter
         simp only [Act.put, aT, aZ, aS]
         go_wp2_with fail
         exact ⟨u28, u29, u30, u31, .bool true, .bool true, u34, u35, u36, u37, u38, u39, u40, u41, u42, u43, u44, u45, u46, u47, u48, by simp only [Act.put, aT, aZ, aS], HS.out, PvA, PvA, PvA, PvA, PvA, (fun _ => rfl), PvR⟩
        ·simp only [gT, gZ, gS, Option.some.injEq] at ho
         subst ho
         obtain rfl := P5.out (hafter ⟨5, .guard⟩ (by simp) rfl)
         clear hLi hafter
         simp only [Act.put, aT, aZ, aS]
         go_wp2_with fail
         exact ⟨u28, u29, u30, u31, u32, .bool true, .int .i64 y, u35, u36, u37, u38, u39, u40, u41, u42, u43, u44, u45, u46, u47, u48, by simp only [Act.put, aT, aZ, aS], HS.out, PvA, PvA, PvA, PvA, PvA, PvA, (fun _ => rfl), PvR⟩
        ·simp only [gT, gZ, gS, Option.some.injEq] at ho
         subst ho
         obtain rfl := P5.out (hafter ⟨5, .guard⟩ (by simp) rfl)
         obtain rfl := P6.out (hafter ⟨6, .data⟩ (by simp) rfl)
         clear hLi hafter
         simp only [Act.put, aT, aZ, aS]
         go_wp2_with fail
         exact ⟨u28, u29, u30, u31, u32, .bool true, .int .i64 y, .bool false, u36, u37, u38, u39, u40, u41, u42, u43, u44, u45, u46, u47, u48, by simp only [Act.put, aT, aZ, aS], HS.out, PvA, PvA, PvA, PvA, PvA, PvA, PvA, (fun _ => rfl), PvR⟩
        ·simp only [gT, gZ, gS, Option.some.injEq] at ho
         subst ho
         obtain rfl := P5.out (hafter ⟨5, .guard⟩ (by simp) rfl)
         obtain rfl := P7.out (hafter ⟨7, .data⟩ (by simp) rfl)
         clear hLi hafter
         simp only [Act.put, aT, aZ, aS]
         go_wp2_with fail
         exact ⟨u28, u29, u30, u31, u32, .bool true, u34, .bool false, .bool false, u37, u38, u39, u40, u41, u42, u43, u44, u45, u46, u47, u48, by simp only [Act.put, aT, aZ, aS], HS.out, PvA, PvA, PvA, PvA, PvA, PvA, PvA, PvA, (fun _ => rfl), PvR⟩
        ·simp only [gT, gZ, gS, Option.some.injEq] at ho
         subst ho
         obtain rfl := P8.out (hafter ⟨8, .guard⟩ (by simp) rfl)
         clear hLi hafter
         simp only [Act.put, aT, aZ, aS]
         go_wp2_with fail
         exact ⟨u28, u29, u30, u31, u32, u33, u34, u35, .bool false, .slice (some ⟨b, off, none⟩) n cap, u38, u39, u40, u41, u42, u43, u44, u45, u46, u47, u48, by simp only [Act.put, aT, aZ, aS], HS.out, PvA, PvA, PvA, PvA, PvA, PvA, PvA, PvA, PvA, (fun _ => rfl), PvR⟩
        ·simp only [gT, gZ, gS, Option.some.injEq] at ho
         subst ho
         obtain rfl := P8.out (hafter ⟨8, .guard⟩ (by simp) rfl)
         clear hLi hafter
         simp only [Act.put, aT, aZ, aS]
         go_wp2_with fail
         exact ⟨u28, u29, u30, u31, u32, u33, u34, u35, .bool false, u37, .int .i64 j, u39, u40, u41, u42, u43, u44, u45, u46, u47, u48, by simp only [Act.put, aT, aZ, aS], HS.out, PvA, PvA, PvA, PvA, PvA, PvA, PvA, PvA, PvA, PvA, (fun _ => rfl), PvR⟩
        ·simp only [gT, gZ, gS, Option.some.injEq] at ho
         subst ho
         obtain rfl := P8.out (hafter ⟨8, .guard⟩ (by simp) rfl)
         obtain rfl := P9.out (hafter ⟨9, .data⟩ (by simp) rfl)
         obtain rfl := P10.out (hafter ⟨10, .data⟩ (by simp) rfl)
         clear hLi hafter
         simp only [Act.put, aT, aZ, aS]
         go_wp2_with fail
         exact ⟨u28, u29, u30, u31, u32, u33, u34, u35, .bool false, .slice (some ⟨b, off, none⟩) n cap, .int .i64 j, .pointer (some ⟨b, off + j * 3, none⟩), u40, u41, u42, u43, u44, u45, u46, u47, u48, by simp only [Act.put, aT, aZ, aS], HS.out, PvA, PvA, PvA, PvA, PvA, PvA, PvA, PvA, PvA, PvA, PvA, (fun _ => rfl), PvR⟩
        ·simp only [gT, gZ, gS, Option.some.injEq] at ho
         subst ho
         obtain rfl := P8.out (hafter ⟨8, .guard⟩ (by simp) rfl)
         obtain rfl := P11.out (hafter ⟨11, .data⟩ (by simp) rfl)
         have c0 := (HS.out.1.cell (p := ⟨b, off + j * 3, none⟩) hlb).trans g0
         have c1 := (HS.out.1.cell (p := ⟨b, off + j * 3 + 1, none⟩) hlb).trans g1
         have c2 := (HS.out.1.cell (p := ⟨b, off + j * 3 + 2, none⟩) hlb).trans g2
         clear hLi hafter
         simp only [Act.put, aT, aZ, aS]
         go_wp2_with fail
         exact ⟨u28, u29, u30, u31, u32, u33, u34, u35, .bool false, u37, u38, .pointer (some ⟨b, off + j * 3, none⟩), .agg #[.bool sj, .slice rj lj kj, .slice tj mj ej], u41, u42, u43, u44, u45, u46, u47, u48, by simp only [Act.put, aT, aZ, aS], HS.out, PvA, PvA, PvA, PvA, PvA, PvA, PvA, PvA, PvA, PvA, PvA, PvA, (fun _ => rfl), PvR⟩
        ·simp only [gT, gZ, gS, Option.some.injEq] at ho
         subst ho
         obtain rfl := P8.out (hafter ⟨8, .guard⟩ (by simp) rfl)
         clear hLi hafter
         simp only [Act.put, aT, aZ, aS]
         go_wp2_with fail
         exact ⟨u28, u29, u30, u31, u32, u33, u34, u35, .bool false, u37, u38, u39, u40, .slice (some ⟨b, off, none⟩) n cap, u42, u43, u44, u45, u46, u47, u48, by simp only [Act.put, aT, aZ, aS], HS.out, PvA, PvA, PvA, PvA, PvA, PvA, PvA, PvA, PvA, PvA, PvA, PvA, PvA, (fun _ => rfl), PvR⟩
        ·simp only [gT, gZ, gS, Option.some.injEq] at ho
         subst ho
         obtain rfl := P8.out (hafter ⟨8, .guard⟩ (by simp) rfl)
         clear hLi hafter
         simp only [Act.put, aT, aZ, aS]
         go_wp2_with fail
         exact ⟨u28, u29, u30, u31, u32, u33, u34, u35, .bool false, u37, u38, u39, u40, u41, .int .i64 y, u43, u44, u45, u46, u47, u48, by simp only [Act.put, aT, aZ, aS], HS.out, PvA, PvA, PvA, PvA, PvA, PvA, PvA, PvA, PvA, PvA, PvA, PvA, PvA, PvA, (fun _ => rfl), PvR⟩
        ·simp only [gT, gZ, gS, Option.some.injEq] at ho
         subst ho
         obtain rfl := P8.out (hafter ⟨8, .guard⟩ (by simp) rfl)
         obtain rfl := P13.out (hafter ⟨13, .data⟩ (by simp) rfl)
         obtain rfl := P14.out (hafter ⟨14, .data⟩ (by simp) rfl)
         clear hLi hafter
         simp only [Act.put, aT, aZ, aS]
         go_wp2_with fail
         exact ⟨u28, u29, u30, u31, u32, u33, u34, u35, .bool false, u37, u38, u39, u40, .slice (some ⟨b, off, none⟩) n cap, .int .i64 y, .pointer (some ⟨b, off + y * 3, none⟩), u44, u45, u46, u47, u48, by simp only [Act.put, aT, aZ, aS], HS.out, PvA, PvA, PvA, PvA, PvA, PvA, PvA, PvA, PvA, PvA, PvA, PvA, PvA, PvA, PvA, (fun _ => rfl), PvR⟩
        ·simp only [gT, gZ, gS, Option.some.injEq] at ho
         subst ho
         obtain rfl := P8.out (hafter ⟨8, .guard⟩ (by simp) rfl)
         obtain rfl := P15.out (hafter ⟨15, .data⟩ (by simp) rfl)
         have c0 := (HS.out.1.cell (p := ⟨b, off + y * 3, none⟩) hlb).trans g3
         have c1 := (HS.out.1.cell (p := ⟨b, off + y * 3 + 1, none⟩) hlb).trans g4
         have c2 := (HS.out.1.cell (p := ⟨b, off + y * 3 + 2, none⟩) hlb).trans g5
         clear hLi hafter
         simp only [Act.put, aT, aZ, aS]
         go_wp2_with fail
         exact ⟨u28, u29, u30, u31, u32, u33, u34, u35, .bool false, u37, u38, u39, u40, u41, u42, .pointer (some ⟨b, off + y * 3, none⟩), .agg #[.bool sy, .slice ry ly ky, .slice ty my ey], u45, u46, u47, u48, by simp only [Act.put, aT, aZ, aS], HS.out, PvA, PvA, PvA, PvA, PvA, PvA, PvA, PvA, PvA, PvA, PvA, PvA, PvA, PvA, PvA, PvA, (fun _ => rfl), PvR⟩
        ·simp only [gT, gZ, gS, Option.some.injEq] at ho
         subst ho
         obtain rfl := P8.out (hafter ⟨8, .guard⟩ (by simp) rfl)
         obtain rfl := P12.out (hafter ⟨12, .data⟩ (by simp) rfl)
         obtain rfl := P16.out (hafter ⟨16, .data⟩ (by simp) rfl)
         clear hLi hafter
         simp only [Act.put, aT, aZ, aS]
         go_wp2_with fail
         refine (xrcmp_any (N := N) _ _ _ _ _ _ _ _ _ _ _ _ _ _ L L (q j) (q y) _ (by have := HS.out.2; omega) (HJ.out.below HS.out.1) (HY.out.below HS.out.1) (by omega) (by omega)).mono ?_
         rw [HK.out]
         rintro e wn ⟨rfl, hb⟩
         have Hb := Lib.hid hb
         clear hb
         go_wp2_with fail
         exact ⟨u28, u29, u30, u31, u32, u33, u34, u35, .bool false, u37, u38, u39, .agg #[.bool sj, .slice rj lj kj, .slice tj mj ej], u41, u42, u43, .agg #[.bool sy, .slice ry ly ky, .slice ty my ey], .int .i64 κ, u46, u47, u48, by simp only [Act.put, aT, aZ, aS], HS.out.below Hb.out, PvA, PvA, PvA, PvA, PvA, PvA, PvA, PvA, PvA, PvA, PvA, PvA, PvA, PvA, PvA, PvA, PvA, (fun _ => rfl), PvR⟩
        ·simp only [gT, gZ, gS, Option.some.injEq] at ho
         subst ho
         obtain rfl := P8.out (hafter ⟨8, .guard⟩ (by simp) rfl)
         obtain rfl := P17.out (hafter ⟨17, .data⟩ (by simp) rfl)
         clear hLi hafter
         simp only [Act.put, aT, aZ, aS]
         go_wp2_with fail
         exact ⟨u28, u29, u30, u31, u32, u33, u34, u35, .bool false, u37, u38, u39, u40, u41, u42, u43, u44, .int .i64 κ, .bool gg, u47, u48, by simp only [Act.put, aT, aZ, aS], HS.out, PvA, PvA, PvA, PvA, PvA, PvA, PvA, PvA, PvA, PvA, PvA, PvA, PvA, PvA, PvA, PvA, PvA, PvA, (fun _ => rfl), PvR⟩
        ·simp only [gT, gZ, gS, Option.some.injEq] at ho
         subst ho
         obtain rfl := P5.out (hafter ⟨5, .guard⟩ (by simp) rfl)
         obtain rfl := P8.out (hafter ⟨8, .data⟩ (by simp) rfl)
         obtain rfl := P18.out (hafter ⟨18, .data⟩ (by simp) rfl)
         clear hLi hafter
         simp only [Act.put, aT, aZ, aS]
         go_wp2_with fail
         exact ⟨u28, u29, u30, u31, u32, .bool true, u34, u35, .bool false, u37, u38, u39, u40, u41, u42, u43, u44, u45, .bool gg, .bool gg, u48, by simp only [Act.put, aT, aZ, aS], HS.out, PvA, PvA, PvA, PvA, PvA, PvA, PvA, PvA, PvA, PvA, PvA, PvA, PvA, PvA, PvA, PvA, PvA, PvA, PvA, (fun _ => rfl), PvA⟩
        ·simp only [gT, gZ, gS, Option.some.injEq] at ho
         subst ho
         obtain rfl := P5.out (hafter ⟨5, .data⟩ (by simp) rfl)
         obtain rfl := P19.out (hafter ⟨19, .data⟩ (by simp) rfl)
         clear hLi hafter
         simp only [Act.put, aT, aZ, aS]
         go_wp2_with fail
         exact ⟨u28, u29, u30, u31, u32, .bool true, u34, u35, u36, u37, u38, u39, u40, u41, u42, u43, u44, u45, u46, .bool gg, .bool gg, by simp only [Act.put, aT, aZ, aS], HS.out, PvA, PvA, PvA, PvA, PvA, PvA, PvA, PvA, PvA, PvA, PvA, PvA, PvA, PvA, PvA, PvA, PvA, PvA, PvA, PvA, (fun _ => rfl)⟩
       ·intro Ls a0 wq hall hJ
        obtain ⟨u28, u29, u30, u31, u32, u33, u34, u35, u36, u37, u38, u39, u40, u41, u42, u43, u44, u45, u46, u47, u48, rfl, hS, p0, p1, p2, p3, p4, p5, p6, p7, p8, p9, p10, p11, p12, p13, p14, p15, p16, p17, p18, p19, p20⟩ := hJ
        replace p0 := p0 (hall 0 (by decide))
        replace p1 := p1 (hall 1 (by decide))
        replace p2 := p2 (hall 2 (by decide))
        replace p3 := p3 (hall 3 (by decide))
        replace p4 := p4 (hall 4 (by decide))
        replace p5 := p5 (hall 5 (by decide))
        replace p6 := p6 (hall 6 (by decide))
        replace p7 := p7 (hall 7 (by decide))
        replace p8 := p8 (hall 8 (by decide))
        replace p9 := p9 (hall 9 (by decide))
        replace p10 := p10 (hall 10 (by decide))
        replace p11 := p11 (hall 11 (by decide))
        replace p12 := p12 (hall 12 (by decide))
        replace p13 := p13 (hall 13 (by decide))
        replace p14 := p14 (hall 14 (by decide))
        replace p15 := p15 (hall 15 (by decide))
        replace p16 := p16 (hall 16 (by decide))
        replace p17 := p17 (hall 17 (by decide))
        replace p18 := p18 (hall 18 (by decide))
        replace p19 := p19 (hall 19 (by decide))
        replace p20 := p20 (hall 20 (by decide))
        have HS := Lib.hid hS
        subst p20
        clear hS p0 p1 p2 p3 p4 p5 p6 p7 p8 p9 p10 p11 p12 p13 p14 p15 p16 p17 p18 p19
        simp only [Act.put, aT, aZ, aS]
        cases gg
        ·go_wp2_with fail
         go_roundw
         case rel => exact ⟨j + 1, by omega, by go_num, Lib.hid (BestI.keepY h1 HF.out.1 HF.out.2 (Nat.le_of_lt (rnk_ltX HO.out HPM.out HST.out (by omega) hjn (gt_T2 (of_decide_eq_false HGG.out) h1)))), HB.out.trans (HS.out.1.mono hs0)⟩
         case measure => simp [intOf]; omega
        ·go_wp2_with fail
         go_roundw
         case rel => exact ⟨j + 1, by omega, by go_num, Lib.hid (BestI.newY HF.out.2 (rnk_ltX HO.out HPM.out HST.out hjn (by omega) (gt_T (of_decide_eq_true HGG.out))) (by have := HUS.out; omega)), HB.out.trans (HS.out.1.mono hs0)⟩
         case measure => simp [intOf]; omega
    ·obtain rfl : n = j := by omega
     have e1 := BestI.done HO.out HPM.out HST.out hmn HBI.out
     subst e1
     obtain ⟨x, hx⟩ : ∃ x, d m = x := ⟨_, rfl⟩
     have hxn : x < n := by rw [← hx]; exact HPM.out.lt m hmn
     rw [hx]
     have HX := Lib.hid hx
     clear hx
     have hxz : (x : Int) < (n : Int) := by omega
     have hx0 : (0 : Int) ≤ (x : Int) := by omega
     have HRi := Lib.hid (World.rowIs.of_block HRW.out (HB.out.block ub (by omega)))
     have HOi := Lib.hid (own_belX HO9.out HB.out)
     have HO5 := Lib.hid (own_set HOi.out (show ub < w9.heap.size by omega) (.bool true) (o := x))
     have HO6 := Lib.hid (own_low HO5.out (show w.heap.size ≤ w9.heap.size by omega))
     have hcx := HRi.out.cell hxn
     have hfz := HRi.out.frozen
     have hsz9 : w9.heap.size ≤ wi.heap.size := by omega
     go_wp2_with (at_builtin; refine wpList_append_own_at _ rfl (.tmp 53) (.tmp 55) 23 rfl w9.heap.size 3 i0 (.int .i64 0) 1 8 Tryz.underIntsF hi hz0 hz1 hz2 rfl (by decide) _ m (intsX d m) rfl (World.ownsRow.alloc HO5.out _) ⟨wi.heap.size, 0, none⟩ 1 1 [.int .i64 x] (by first | rfl | simp) rfl (fun j u hj => by have h := cell_one_new (wi.setCell ⟨ub, x, none⟩ (.bool true)) (.int .i64 (x : Int)) 3 j u hj; rwa [show (wi.setCell ⟨ub, x, none⟩ (.bool true)).heap.size = wi.heap.size by simp] at h) (by intro u hu; simp at hu; subst hu; rfl) (by unfold maxLen; omega) (by omega) (by simp; omega) ?_; intro v1 w1 ho1 hg1 _ _; have HO1 := Lib.hid ho1; have HG1 := Lib.hid hg1; clear ho1 hg1)
     rw [show ([.int .i64 (x : Int)] : List Value) = [.int .i64 ((d m : Nat) : Int)] by rw [HX.out], intsX_succ] at HO1
     have HR1 := Lib.hid (show (((wi.setCell ⟨ub, x, none⟩ (.bool true)).alloc (.cells #[.int .i64 x] 3))).rowIs ub 4 n (fun v => .bool (decide (rnk (keyT (gtQ q)) n v < m + 1))) from ((World.rowIs.set HRi.out x (.bool true)).congr (fun j hj => by rw [rnk_stepT HO.out HPM.out HST.out hmn hj, HX.out]; by_cases e : j = x; (· rw [if_pos e, if_pos e]); (· rw [if_neg e, if_neg e]))).alloc _)
     obtain ⟨a1, c1, rfl⟩ := own_sl HO1.out
     go_roundw
     case rel => exact ⟨m + 1, by omega, HO1.out, HR1.out.of_block (HG1.out.block ub (by simp; omega) (fun e => by have := HO5.out.lt ub e.symm; omega)), own_bel (World.ownsRow.alloc HO6.out _) (((HBw.out.trans (HB.out.mono hsw)).setCell (by omega) _).alloc (by simp; omega) _) (by simp; omega) HG1.out, by have := HG1.out.size; simp at this; omega⟩
     case measure => simp [slN]; omega
  ·obtain rfl : m = n := by omega
   have HE := Lib.hid (own_ints HO9.out)
   go_wp2_with fail
   go_ret2
   exact ⟨_, _, rfl, HE.out.1, HE.out.2.1, HE.out.2.2, HBw.out⟩
end Go.Proofs.YtjobopafcgnljaaGreat
