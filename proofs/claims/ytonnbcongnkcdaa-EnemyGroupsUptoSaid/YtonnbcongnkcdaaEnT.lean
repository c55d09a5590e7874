/- slices.DeleteFunc at a slice of pairs of the call's own, as Remove uses it; enemy.Remove. Condition (Remove): a list of at most 2^43 - 2 elements. -/
import Derived.Test.YtonnbcongnkcdaaEnL
namespace Go.Proofs.Ytonnbcongnkcdaa
open Go.RowKit

set_option maxHeartbeats 4000000 in
theorem remfn_any (x y u v : Int) (gg : Nat) (w : World) (h0 : w.cell? ⟨gg, 0, none⟩ = some (.int .i64 u)) (h1 : w.cell? ⟨gg, 1, none⟩ = some (.int .i64 v)) (c : Bool) (hc : decide ((x, y) = (u, v)) = c) :
    Calls Try.prog 38 #[.agg #[.int .i64 x, .int .i64 y], .pointer (some ⟨gg, 0, none⟩)] w fun e w' => e = .returned (.bool c) ∧ Below w.heap.size w w' := by
  have hl := World.block_lt_of_cell? w _ h0
  simp only at hl
  have HB := Lib.hid (Below.refl w.heap.size w)
  by_cases e1 : x = u
  · subst e1
    by_cases e2 : y = v
    · subst e2
      obtain rfl : true = c := by rw [← hc]; simp
      clear hc
      go_enter Try.func38, Try.ntmps38
      go_wp2_with fail
      go_ret
      exact ⟨rfl, by (repeat' (first | with_reducible exact Below.refl _ _ | (with_reducible refine Below.alloc ?_ ?_ _; rotate_left; (focus (first | omega | (simp; done) | (simp; omega)))) | with_reducible apply Below.drew | (with_reducible refine Below.setCell ?_ ?_ _; rotate_left; (focus (first | omega | (simp; done) | (simp; omega))))))⟩
    · have hb2 : (y == v) = false := by simpa using e2
      obtain rfl : false = c := by rw [← hc]; simp [e2]
      clear hc e2
      go_enter Try.func38, Try.ntmps38
      go_wp2_with fail
      go_ret
      exact ⟨rfl, by (repeat' (first | with_reducible exact Below.refl _ _ | (with_reducible refine Below.alloc ?_ ?_ _; rotate_left; (focus (first | omega | (simp; done) | (simp; omega)))) | with_reducible apply Below.drew | (with_reducible refine Below.setCell ?_ ?_ _; rotate_left; (focus (first | omega | (simp; done) | (simp; omega))))))⟩
  · have hb1 : (x == u) = false := by simpa using e1
    obtain rfl : false = c := by rw [← hc]; simp [e1]
    clear hc e1
    go_enter Try.func38, Try.ntmps38
    go_wp2_with fail
    go_ret
    exact ⟨rfl, by (repeat' (first | with_reducible exact Below.refl _ _ | (with_reducible refine Below.alloc ?_ ?_ _; rotate_left; (focus (first | omega | (simp; done) | (simp; omega)))) | with_reducible apply Below.drew | (with_reducible refine Below.setCell ?_ ?_ _; rotate_left; (focus (first | omega | (simp; done) | (simp; omega))))))⟩

set_option maxHeartbeats 4000000 in
theorem indexP_any {B : Nat} (g cap n : Nat) (L : List (Int × Int)) (u v : Int) (gg : Nat) (w : World) (hq : Oq B 47 w g cap n L) (h0 : w.cell? ⟨gg, 0, none⟩ = some (.int .i64 u)) (h1 : w.cell? ⟨gg, 1, none⟩ = some (.int .i64 v)) (hb : n ≤ 9223372036854775807)
    (k : Nat) (hk : k ≤ n) (hall : ∀ j, j < k → L.toArray[j]! ≠ (u, v)) (hhit : k < n → L.toArray[k]! = (u, v)) (c : Int) (hc : (if k < n then (k : Int) else -1) = c) :
    Calls Try.prog 48 #[.slice (some ⟨g, 0, none⟩) n cap, .func (.func 38) #[] #[.pointer (some ⟨gg, 0, none⟩)]] w fun e w' => e = .returned (.int .i64 c) ∧ Below w.heap.size w w' := by
  have HQ := Lib.hid hq
  have HALL := Lib.hid hall
  have HHIT := Lib.hid hhit
  have HCC := Lib.hid hc
  have hl := World.block_lt_of_cell? w _ h0
  simp only at hl
  clear hq hall hhit hc
  have eg : ∀ args w, (callFunc 38 args).run Try.prog w = .ok (.enter 38 args) w := by intro args w; rfl
  go_enter Try.func48, Try.ntmps48
  go_wp2_with fail
  go_loopw [5, 8] (fun _ i wr => ∃ j : Nat, j ≤ k ∧ i = .int .i64 j ∧ Below w.heap.size w wr) (fun _ i _ => n - (intOf i).toNat)
  case atStart => exact ⟨0, Nat.zero_le _, rfl, Below.refl _ _⟩
  case round =>
    obtain ⟨j, hj, rfl, hbel⟩ := hrel
    have HB := Lib.hid hbel
    have hs0 := hbel.size
    by_cases hjn : j < n
    · obtain ⟨x, y, exy⟩ : ∃ x y, L.toArray[j]! = (x, y) := ⟨_, _, rfl⟩
      obtain ⟨g0, g1⟩ := HQ.out.cell hjn exy
      replace g0 := cell_mono g0 hbel
      replace g1 := cell_mono g1 hbel
      have c0 := cell_mono h0 hbel
      have c1 := cell_mono h1 hbel
      have HXY := Lib.hid exy
      have hix0 : (0 : Int) ≤ (j : Int) := by omega
      have hix1 : (j : Int) < (n : Int) := by omega
      clear exy hbel
      by_cases hjk : j < k
      · have HC := Lib.hid (show decide ((x, y) = (u, v)) = false from decide_eq_false (by rw [← HXY.out]; exact HALL.out j hjk))
        go_wp2_with (go_at_fn 38; refine (remfn_any x y u v gg _ c0 c1 false HC.out).mono ?_; rintro e w2 ⟨rfl, hb⟩; have HB2 := Lib.hid hb; clear hb)
        go_roundw
        case rel => exact ⟨j + 1, by omega, by go_num, HB.out.trans (HB2.out.mono hs0)⟩
        case measure => simp [intOf]; omega
      · obtain rfl : j = k := by omega
        have HC := Lib.hid (show decide ((x, y) = (u, v)) = true from decide_eq_true (by rw [← HXY.out]; exact HHIT.out hjn))
        obtain rfl : (j : Int) = c := by rw [← HCC.out, if_pos hjn]
        go_wp2_with (go_at_fn 38; refine (remfn_any x y u v gg _ c0 c1 true HC.out).mono ?_; rintro e w2 ⟨rfl, hb⟩; have HB2 := Lib.hid hb; clear hb)
        go_ret
        exact ⟨rfl, HB.out.trans (HB2.out.mono hs0)⟩
    · obtain rfl : j = n := by omega
      obtain rfl : -1 = c := by rw [← HCC.out, if_neg (by omega)]
      clear hbel
      go_wp2_with fail
      go_ret
      exact ⟨rfl, HB.out⟩

set_option maxHeartbeats 4000000 in
theorem indexP_nil (lb : Array Value) (w : World) : Calls Try.prog 48 #[.slice none 0 0, .func (.func 38) #[] lb] w fun e w' => e = .returned (.int .i64 (-1)) ∧ w' = w := by
  go_enter Try.func48, Try.ntmps48
  go_wp2_with fail
  go_loopw [5, 8] (fun _ i wr => i = .int .i64 0 ∧ wr = w) (fun _ _ _ => 0)
  case atStart => exact ⟨rfl, rfl⟩
  case round =>
    obtain ⟨rfl, rfl⟩ := hrel
    go_wp2_with fail
    go_ret
    exact ⟨rfl, rfl⟩
theorem first_at (P : Nat → Prop) : ∀ n, ∃ k, k ≤ n ∧ (∀ j, j < k → ¬ P j) ∧ (k < n → P k)
  | 0 => ⟨0, Nat.le_refl _, fun j hj => absurd hj (Nat.not_lt_zero _), fun h => absurd h (Nat.not_lt_zero _)⟩
  | n + 1 => by
    obtain ⟨k, hk, h1, h2⟩ := first_at P n
    rcases Nat.lt_or_ge k n with h | h
    · exact ⟨k, by omega, h1, fun _ => h2 h⟩
    · obtain rfl : k = n := by omega
      by_cases hP : P k
      · exact ⟨k, by omega, h1, fun _ => hP⟩
      · exact ⟨k + 1, Nat.le_refl _, fun j hj => by
          by_cases e : j = k
          · subst e; exact hP
          · exact h1 j (by omega), fun h => absurd h (Nat.lt_irrefl _)⟩
theorem arr_get {zs : List (Int × Int)} {j : Nat} (h : j < zs.length) : zs.toArray[j]! = zs[j] := by simp [h]
theorem remF_none {zs : List (Int × Int)} {g : Int × Int} : ∀ k, k ≤ zs.length → (∀ j, j < k → zs.toArray[j]! ≠ g) → remF (zs.take k) g = zs.take k
  | 0, _, _ => by simp [remF]
  | k + 1, hk, h => by
    have h1 := h k (by omega)
    rw [arr_get (show k < zs.length by omega)] at h1
    rw [remF_snoc (show k < zs.length by omega), if_neg h1, remF_none k (by omega) (fun j hj => h j (by omega)), ← take_snoc]
theorem Oq.below {B : Nat} {E : TypeId} {w w' : World} {g cap n : Nat} {L : List (Int × Int)} (h : Oq B E w g cap n L) (hb : Below w.heap.size w w') : Oq B E w' g cap n L := ⟨h.1, h.2.kept (row := none) ⟨hb.os, hb.tape, hb.output, hb.size, fun k hk _ => hb.block k hk⟩ (by simp [Value.ownBlock])⟩
theorem gr_below {w wr w' : World} {row : Option Nat} (h : w.grownBy wr row) (hb : Below wr.heap.size wr w') : w.grownBy w' row :=
  ⟨hb.os.trans h.os, hb.tape.trans h.tape, hb.output.trans h.output, Nat.le_trans h.size hb.size, fun k hk hne => (hb.block k (Nat.lt_of_lt_of_le hk h.size)).trans (h.block k hk hne)⟩
theorem gr_cell {w wr : World} {row : Option Nat} (h : w.grownBy wr row) {g : Nat} (hl : g < w.heap.size) (hne : some g ≠ row) {k : Nat} {x : Value} (hc : w.cell? ⟨g, k, none⟩ = some x) : wr.cell? ⟨g, k, none⟩ = some x := by
  have := h.block g hl hne
  simp only [World.cell?, this] at hc ⊢
  exact hc
theorem take_set_snoc {L : List (Int × Int)} {k : Nat} {x : Int × Int} (h : k < L.length) : (L.set k x).take (k + 1) = L.take k ++ [x] := by
  rw [take_snoc (by simpa using h), List.take_set, List.set_eq_of_length_le (by simp; omega)]
  simp
theorem arr_set {L : List (Int × Int)} {k j : Nat} {x : Int × Int} (h : k < j) : (L.set k x).toArray[j]! = L.toArray[j]! := by
  have : k ≠ j := by omega
  simp [this]
theorem del_fin {B : Nat} {E : TypeId} {w : World} {g cap kk : Nat} {L R : List (Int × Int)} (ht : L.take kk = R) (hk : kk ≤ L.length) (h : w.ownsRow B E 2 (.slice (some ⟨g, 0, none⟩) kk cap) kk ((L.flatMap enc2).take (kk * 2))) : Op2 B E w (.slice (some ⟨g, 0, none⟩) kk cap) R := by
  subst ht
  unfold Op2
  rw [List.length_take, Nat.min_eq_left hk, ← flat_take]
  exact h
set_option maxRecDepth 20000 in
set_option maxHeartbeats 8000000 in
theorem deleteP_own {B : Nat} (s : Value) (zs : List (Int × Int)) (u v : Int) (gg : Nat) (w : World) (h : Op2 B 47 w s zs) (h0 : w.cell? ⟨gg, 0, none⟩ = some (.int .i64 u)) (h1 : w.cell? ⟨gg, 1, none⟩ = some (.int .i64 v)) (hB : gg < B) :
    Calls Try.prog 37 #[s, .func (.func 38) #[] #[.pointer (some ⟨gg, 0, none⟩)]] w fun e w' => ∃ s', e = .returned s' ∧ Op2 B 47 w' s' (remF zs (u, v)) ∧ w.grownBy w' s.ownBlock := by
  rcases h.open with ⟨rfl, rfl⟩ | ⟨g, cap, rfl, hb, hg, hc, hm, _⟩
  · have HH := Lib.hid h
    clear h
    go_enter Try.func37, Try.ntmps37
    go_wp2_with fail
    refine (indexP_nil _ _).mono ?_
    rintro e w2 ⟨rfl, rfl⟩
    go_wp2_with fail
    go_ret
    exact ⟨_, rfl, HH.out, gr_refl _ _⟩
  · have hq : Oq B 47 w g cap zs.length zs := ⟨rfl, h⟩
    obtain ⟨n, hn⟩ : ∃ n, zs.length = n := ⟨_, rfl⟩
    rw [hn] at hq hc ⊢
    have HQ := Lib.hid hq
    have HN := Lib.hid hn
    unfold maxLen at hm
    have hgl := World.block_lt_of_cell? w _ h0
    simp only at hgl
    have hgne : gg < g := by omega
    obtain ⟨k, hk, hall, hhit⟩ := first_at (fun j => zs.toArray[j]! = (u, v)) n
    have HALL := Lib.hid hall
    have HHIT := Lib.hid hhit
    clear h hq hn hall hhit
    by_cases hkn : k < n
    · go_enter Try.func37, Try.ntmps37
      go_wp2_with fail
      refine (indexP_any g cap _ zs u v gg _ HQ.out h0 h1 (by omega) k hk HALL.out HHIT.out (k : Int) ?_).mono ?_
      · simp [hkn]
      rintro e w2 ⟨rfl, hb2⟩
      have HB2 := Lib.hid hb2
      have hs2 := hb2.size
      clear hb2
      replace HQ := Lib.hid (HQ.out.below HB2.out)
      replace h0 := cell_mono h0 HB2.out
      replace h1 := cell_mono h1 HB2.out
      have hk1 : ¬ (k : Int) = -1 := by omega
      have hk2 : ((k : Int) == -1) = false := by simp
      have wk : IntKind.i64.wrap ((k : Int) + 1) = ((k + 1 : Nat) : Int) := by rw [IntKind.wrap_i64]; omega
      go_wp2_with fail
      go_loopw [5, 6] (fun s5 s6 wr => ∃ (kk jj : Nat) (L : List (Int × Int)), s5 = .int .i64 kk ∧ s6 = .int .i64 jj ∧ kk < jj ∧ jj ≤ n ∧ Hid (L.take kk = remF (zs.take jj) (u, v)) ∧ Hid (∀ j, jj ≤ j → j < n → L.toArray[j]! = zs.toArray[j]!) ∧ Oq B 47 wr g cap n L ∧ w2.grownBy wr (some g)) (fun _ s6 _ => n - (intOf s6).toNat)
      case atStart => exact ⟨k, k + 1, zs, rfl, by go_num, Nat.lt_succ_self _, by omega, Lib.hid (by rw [remF_snoc (show k < zs.length by have := HN.out; omega), ← arr_get (show k < zs.length by have := HN.out; omega), if_pos (HHIT.out hkn), remF_none k (by have := HN.out; omega) HALL.out]), Lib.hid (fun _ _ _ => rfl), HQ.out, gr_refl _ _⟩
      case round =>
        obtain ⟨kk, jj, L, rfl, rfl, hlt, hle, HT, HHI, hq3, hgr3⟩ := hrel
        have HQ3 := Lib.hid hq3
        have HG3 := Lib.hid hgr3
        clear hq3 hgr3
        by_cases hjn : jj < n
        · obtain ⟨x, y, exy⟩ : ∃ x y, zs.toArray[jj]! = (x, y) := ⟨_, _, rfl⟩
          obtain ⟨g0, g1⟩ := HQ3.out.cell hjn (x := x) (y := y) (by rw [HHI.out jj (Nat.le_refl _) hjn]; exact exy)
          have c0 := gr_cell HG3.out (by omega) (by simp; omega) h0
          have c1 := gr_cell HG3.out (by omega) (by simp; omega) h1
          have HXY := Lib.hid exy
          have hix0 : (0 : Int) ≤ (jj : Int) := by omega
          have hix1 : (jj : Int) < (n : Int) := by omega
          clear exy
          go_wp2_with fail
          refine calls_name fun W3 hW => ?_
          have HBw := Lib.hid (show Below wr.heap.size wr W3 by rw [← hW]; (repeat' (first | with_reducible exact Below.refl _ _ | (with_reducible refine Below.alloc ?_ ?_ _; rotate_left; (focus (first | omega | (simp; done) | (simp; omega)))) | with_reducible apply Below.drew | (with_reducible refine Below.setCell ?_ ?_ _; rotate_left; (focus (first | omega | (simp; done) | (simp; omega)))))))
          have hP0 : W3.cell? ⟨wr.heap.size, 0, none⟩ = some (.int .i64 x) := by rw [← hW]; first | (go_simp; done) | (simp; done) | (simp [go_sem]; done)
          have hP1 : W3.cell? ⟨wr.heap.size, 1, none⟩ = some (.int .i64 y) := by rw [← hW]; first | (go_simp; done) | (simp; done) | (simp [go_sem]; done)
          have hs3 : wr.heap.size < W3.heap.size := by rw [← hW]; simp
          clear hW
          obtain ⟨cc, hcc⟩ : ∃ cc, decide ((x, y) = (u, v)) = cc := ⟨_, rfl⟩
          have HC := Lib.hid hcc
          clear hcc
          refine (remfn_any x y u v gg _ (cell_mono c0 HBw.out) (cell_mono c1 HBw.out) cc HC.out).mono ?_
          rintro e w3 ⟨rfl, hb⟩
          replace HQ3 := Lib.hid ((HQ3.out.below HBw.out).below hb)
          replace HG3 := Lib.hid (gr_below (gr_below HG3.out HBw.out) hb)
          replace hP0 := (hb.cell (p := ⟨wr.heap.size, 0, none⟩) hs3).trans hP0
          replace hP1 := (hb.cell (p := ⟨wr.heap.size, 1, none⟩) hs3).trans hP1
          clear hb g0 g1 c0 c1 HBw
          have fz := own_frozen HQ3.out.2
          cases cc
          · have hcc := HC.out
            have hjz : jj < zs.length := by have := HN.out; omega
            have HSN := Lib.hid (remF_snoc (g := (u, v)) hjz)
            rw [← arr_get hjz, HXY.out] at HSN
            have hne : ¬ (x, y) = (u, v) := of_decide_eq_false hcc
            rw [if_neg hne] at HSN
            clear hcc hne
            obtain ⟨o1, o2, eo⟩ : ∃ a b, L.toArray[kk]! = (a, b) := ⟨_, _, rfl⟩
            obtain ⟨g4, g5⟩ := HQ3.out.cell (show kk < n by omega) (x := o1) (y := o2) eo
            clear eo
            have kk0 : (0 : Int) ≤ (kk : Int) := by omega
            have kk1 : (kk : Int) < (n : Int) := by omega
            go_wp2_with fail
            go_roundw
            case rel => exact ⟨kk + 1, jj + 1, L.set kk (x, y), by go_num, by go_num, by omega, by omega, Lib.hid (by rw [HSN.out, ← HT.out]; exact take_set_snoc (by have := HQ3.out.1; omega)), Lib.hid (fun j h1 h2 => by rw [arr_set (by omega)]; exact HHI.out j (by omega) h2), by first | exact HQ3.out.set _ _ _ | exact (HQ3.out.drewN 1).set _ _ _ | exact (HQ3.out.drewN _).set _ _ _, by first | exact gr_set (gr_set HG3.out _ _) _ _ | exact gr_set (gr_set (gr_drewN HG3.out 1) _ _) _ _ | exact gr_set (gr_set (gr_drewN HG3.out _) _ _) _ _⟩
            case measure => simp [intOf]; omega
          · have hcc := HC.out
            have hjz : jj < zs.length := by have := HN.out; omega
            have HSN := Lib.hid (remF_snoc (g := (u, v)) hjz)
            rw [← arr_get hjz, HXY.out] at HSN
            have he : (x, y) = (u, v) := of_decide_eq_true hcc
            rw [if_pos he] at HSN
            clear hcc he
            go_wp2_with fail
            go_roundw
            case rel => exact ⟨kk, jj + 1, L, rfl, by go_num, by omega, by omega, Lib.hid (by rw [HSN.out]; exact HT.out), Lib.hid (fun j h1 h2 => HHI.out j (by omega) h2), HQ3.out, HG3.out⟩
            case measure => simp [intOf]; omega
        · obtain rfl : jj = n := by omega
          have HFIN := Lib.hid (show L.take kk = remF zs (u, v) by rw [HT.out, List.take_of_length_le (by rw [HN.out]; exact Nat.le_refl _)])
          have hkn3 : kk < jj := hlt
          have fz := own_frozen HQ3.out.2
          have hcl : ∀ ty, (Builtin.clear_ #[22] ty #[.slice (some ⟨g, kk * 2, none⟩) (jj - kk) (cap - kk)]).run Try.prog wr = .ok (.tuple #[]) (wr.setCells g (kk * 2) (List.replicate ((jj - kk) * 2) (.int .i64 0))) := fun ty => clear_two wr _ _ ty pairUnder pairZero g (kk * 2) (jj - kk) (cap - kk) (by omega) (fun j hj => own_some HQ3.out.2 (by omega)) (fun j hj => fz _)
          have HCUT := Lib.hid (own_setCells (List.replicate ((jj - kk) * 2) (.int .i64 0)) (kk * 2) wr (Nat.le_refl _) (own_cut HQ3.out.2 (show kk ≤ jj by omega)))
          have hkc2 : (kk : Int) ≤ (cap : Int) := by omega
          have hkn4 : (kk : Int) ≤ (jj : Int) := by omega
          have kk0 : (0 : Int) ≤ (kk : Int) := by omega
          go_wp2_with fail
          go_ret
          exact ⟨_, rfl, del_fin HFIN.out (by have := HQ3.out.1; omega) HCUT.out.1, gr_trans (gr_below (gr_refl _ _) HB2.out) (gr_trans HG3.out HCUT.out.2)⟩
    · obtain rfl : k = n := by omega
      go_enter Try.func37, Try.ntmps37
      go_wp2_with fail
      refine (indexP_any g cap _ zs u v gg _ HQ.out h0 h1 (by omega) k hk HALL.out HHIT.out (-1 : Int) ?_).mono ?_
      · simp [hkn]
      rintro e w2 ⟨rfl, hb2⟩
      have HB2 := Lib.hid hb2
      have hs2 := hb2.size
      clear hb2
      go_wp2_with fail
      go_ret
      exact ⟨_, rfl, by rw [show remF zs (u, v) = zs by have := remF_none (zs := zs) (g := (u, v)) k (by rw [HN.out]; exact Nat.le_refl _) HALL.out; rw [List.take_of_length_le (by rw [HN.out]; exact Nat.le_refl _)] at this; exact this]; exact (HQ.out.below HB2.out).op2, gr_below (gr_refl _ _) HB2.out⟩

set_option maxRecDepth 20000 in
set_option maxHeartbeats 4000000 in
theorem remove_any (a : Option Addr) (n cap : Nat) (L : List (Int × Int)) (x y : Int) (w : World) (h : Pr w a n cap L) (hn : n ≤ 8796093022206) :
    Calls Try.prog 16 #[.slice a n cap, .int .i64 x, .int .i64 y] w (RemP w L x y) := by
  have HPL := Lib.hid h
  have hLn := h.1
  have HLN := Lib.hid hLn
  clear h hLn
  obtain ⟨cA, hcA⟩ : ∃ c, areP L x y = c := ⟨_, rfl⟩
  have HCA := Lib.hid hcA
  clear hcA
  go_enter Try.func16, Try.ntmps16
  go_wp2_with fail
  refine (are_any _ _ _ L x y _ HPL.out cA HCA.out).mono ?_
  rintro e w1 ⟨rfl, hb⟩
  have HB := Lib.hid hb
  have hs1 := hb.size
  clear hb
  cases cA
  · go_wp2_with fail
    go_ret2
    unfold RemP
    refine ⟨6, _, (show (if areP L x y = true then 0 else 6) = 6 from ?_), rfl, fun h => absurd h (by decide), fun _ => rfl, HB.out⟩
    rw [HCA.out]; rfl
  · obtain ⟨u, v, huv⟩ : ∃ u v, ordP x y = (u, v) := ⟨_, _, rfl⟩
    have HUV := Lib.hid huv
    clear huv
    go_wp2_with fail
    refine (ord_any x y u v _ HUV.out).mono ?_
    rintro e w2 ⟨rfl, hb⟩
    have HB2 := Lib.hid (HB.out.trans (hb.mono hs1))
    have hs2 := HB2.out.size
    clear hb HB
    go_wp2_with fail
    refine calls_name fun W3 hW => ?_
    have HBw := Lib.hid (show Below w2.heap.size w2 W3 by rw [← hW]; (repeat' (first | with_reducible exact Below.refl _ _ | (with_reducible refine Below.alloc ?_ ?_ _; rotate_left; (focus (first | omega | (simp; done) | (simp; omega)))) | with_reducible apply Below.drew | (with_reducible refine Below.setCell ?_ ?_ _; rotate_left; (focus (first | omega | (simp; done) | (simp; omega)))))))
    have hP0 : W3.cell? ⟨w2.heap.size, 0, none⟩ = some (.int .i64 u) := by rw [← hW]; first | (go_simp; done) | (simp; done) | (simp [go_sem]; done)
    have hP1 : W3.cell? ⟨w2.heap.size, 1, none⟩ = some (.int .i64 v) := by rw [← hW]; first | (go_simp; done) | (simp; done) | (simp [go_sem]; done)
    have hs3 : w2.heap.size < W3.heap.size := by rw [← hW]; simp
    clear hW
    refine (norm_any _ _ _ L _ (HPL.out.below (HB2.out.trans (HBw.out.mono hs2))) (by omega)).mono ?_
    rintro e w4 ⟨s4, rfl, ho, hb⟩
    have HO := Lib.hid ho
    have HB4 := Lib.hid ((HB2.out.trans (HBw.out.mono hs2)).trans (hb.mono (by omega)))
    replace hP0 := (hb.cell (p := ⟨w2.heap.size, 0, none⟩) hs3).trans hP0
    replace hP1 := (hb.cell (p := ⟨w2.heap.size, 1, none⟩) hs3).trans hP1
    have hs4 := hb.size
    clear ho hb
    go_wp2_with fail
    refine (deleteP_own s4 (normR L) u v w2.heap.size _ HO.out hP0 hP1 hs3).mono ?_
    rintro e w5 ⟨s5, rfl, ho, hg⟩
    have HO5 := Lib.hid ho
    have HB5 := Lib.hid (HB4.out.grown hg (by omega) (fun j hj => by have := (HO.out.lt j hj).1; omega))
    clear ho hg
    go_wp2_with fail
    go_ret2
    unfold RemP
    refine ⟨0, _, (show (if areP L x y = true then 0 else 6) = 0 from ?_), rfl, fun _ => ?_, fun h => absurd rfl h, HB5.out⟩
    · rw [HCA.out]; rfl
    · rw [HUV.out]; exact ⟨_, by omega, HO5.out⟩

end Go.Proofs.Ytonnbcongnkcdaa
