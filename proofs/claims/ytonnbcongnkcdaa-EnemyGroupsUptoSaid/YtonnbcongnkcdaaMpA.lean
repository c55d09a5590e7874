/- Maps keyed by int that a call makes, as functions on the integers: what a look-up, a store, a deletion and a range do. Over any program. No condition. -/
import Derived.Test.YtonnbcongnkcdaaProg
import Derived.Maps.OwnSet
import Derived.Maps.RangeWalk
import Derived.WalkKit
import Derived.Below
namespace Go.Proofs.Ytonnbcongnkcdaa
open Go Go.Maps Go.RowKit

def W64 (x : Int) : Prop := -9223372036854775808 ≤ x ∧ x ≤ 9223372036854775807
theorem W64.wf {x : Int} (h : W64 x) : (Lit.int .i64 x).wf = true := by
  obtain ⟨h1, h2⟩ := h
  simp [Lit.wf, IntKind.min, IntKind.max, IntKind.bits, IntKind.signed]
  omega
theorem W64.of {x : Int} (h : (Lit.int .i64 x).wf = true) : W64 x := by
  simp [Lit.wf, IntKind.min, IntKind.max, IntKind.bits, IntKind.signed] at h
  unfold W64
  omega

/-- the types of a map: its key is int, its element E -/
structure MT (P : Program) (T K E : TypeId) (d : TypeDesc) (z : Value) : Prop where
  map : P.underlying T = some (.map K E)
  key : P.underlying K = some (.int .i64)
  elem : P.underlying E = some d
  zero : ∀ w, (zeroValue E).run P w = .ok z w

section
variable {P : Program} {T K E : TypeId}

/-- block b is a map of at most n entries; at each key it reads as the number f says -/
def Mi (P : Program) (K E : TypeId) (w : World) (b n : Nat) (f : Int → Int) : Prop :=
  ∃ D : DataW Unit, w.ownsMap P K (plainElem P E) b n D ∧ ∀ x, W64 x → D.atKey (.int .i64 x) (.lit (.int .i64 0)) = .lit (.int .i64 (f x))
/-- .. as the truth value f says -/
def Mb (P : Program) (K E : TypeId) (w : World) (b n : Nat) (f : Int → Bool) : Prop :=
  ∃ D : DataW Unit, w.ownsMap P K (plainElem P E) b n D ∧ ∀ x, W64 x → D.atKey (.int .i64 x) (.lit (.bool false)) = .lit (.bool (f x))

theorem ownsMap_heap {w w' : World} {R : Value → Option (DataW Unit × List MemPlace)} {b n : Nat} {D : DataW Unit} (h : w.ownsMap P K R b n D) (e : w'.heap[b]? = w.heap[b]?) : w'.ownsMap P K R b n D := by
  obtain ⟨es, clock, hb, F, hs, hD⟩ := h
  exact ⟨es, clock, e.trans hb, F, hs, hD⟩
theorem Mi.lt {w : World} {b n : Nat} {f : Int → Int} (h : Mi P K E w b n f) : b < w.heap.size := by obtain ⟨D, h, _⟩ := h; exact h.lt
theorem Mb.lt {w : World} {b n : Nat} {f : Int → Bool} (h : Mb P K E w b n f) : b < w.heap.size := by obtain ⟨D, h, _⟩ := h; exact h.lt
theorem Mi.heap {w w' : World} {b n : Nat} {f : Int → Int} (h : Mi P K E w b n f) (e : w'.heap[b]? = w.heap[b]?) : Mi P K E w' b n f := by
  obtain ⟨D, h, g⟩ := h; exact ⟨D, ownsMap_heap h e, g⟩
theorem Mb.heap {w w' : World} {b n : Nat} {f : Int → Bool} (h : Mb P K E w b n f) (e : w'.heap[b]? = w.heap[b]?) : Mb P K E w' b n f := by
  obtain ⟨D, h, g⟩ := h; exact ⟨D, ownsMap_heap h e, g⟩
theorem Mi.below {w w' : World} {b n : Nat} {f : Int → Int} (h : Mi P K E w b n f) (hb : Below w.heap.size w w') : Mi P K E w' b n f := h.heap (hb.block b h.lt)
theorem Mb.below {w w' : World} {b n : Nat} {f : Int → Bool} (h : Mb P K E w b n f) (hb : Below w.heap.size w w') : Mb P K E w' b n f := h.heap (hb.block b h.lt)
theorem Mi.grown {w w' : World} {b n : Nat} {f : Int → Int} {row : Option Nat} (h : Mi P K E w b n f) (hg : w.grownBy w' row) (hne : some b ≠ row) : Mi P K E w' b n f := h.heap (hg.block b h.lt hne)
theorem Mb.grown {w w' : World} {b n : Nat} {f : Int → Bool} {row : Option Nat} (h : Mb P K E w b n f) (hg : w.grownBy w' row) (hne : some b ≠ row) : Mb P K E w' b n f := h.heap (hg.block b h.lt hne)
theorem Mi.setCell {w : World} {b n : Nat} {f : Int → Int} (h : Mi P K E w b n f) {a : Addr} (ha : b ≠ a.block) (u : Value) : Mi P K E (w.setCell a u) b n f := h.heap (Below.heap_setCell w a u b ha)
theorem Mb.setCell {w : World} {b n : Nat} {f : Int → Bool} (h : Mb P K E w b n f) {a : Addr} (ha : b ≠ a.block) (u : Value) : Mb P K E (w.setCell a u) b n f := h.heap (Below.heap_setCell w a u b ha)
theorem Mi.congr {w : World} {b n n' : Nat} {f g : Int → Int} (h : Mi P K E w b n f) (hn : n ≤ n') (e : ∀ x, W64 x → f x = g x) : Mi P K E w b n' g := by
  obtain ⟨D, h, k⟩ := h; exact ⟨D, h.mono hn, fun x hx => by rw [k x hx, e x hx]⟩
theorem Mb.congr {w : World} {b n n' : Nat} {f g : Int → Bool} (h : Mb P K E w b n f) (hn : n ≤ n') (e : ∀ x, W64 x → f x = g x) : Mb P K E w b n' g := by
  obtain ⟨D, h, k⟩ := h; exact ⟨D, h.mono hn, fun x hx => by rw [k x hx, e x hx]⟩
theorem Mi.made (w : World) : Mi P K E (w.alloc (.map #[] 0)) w.heap.size 0 (fun _ => 0) := ⟨.map [], World.ownsMap_made _ _ _ _, fun _ _ => rfl⟩
theorem Mb.made (w : World) : Mb P K E (w.alloc (.map #[] 0)) w.heap.size 0 (fun _ => false) := ⟨.map [], World.ownsMap_made _ _ _ _, fun _ _ => rfl⟩

variable {ops : Array Oper} {rest : List Oper} {o : Oper} {a : Act} {Q : Exit → Act → World → Prop}

theorem Mi.look {w : World} {b n : Nat} {f : Int → Int} (U : MT P T K E (.int .i64) (.int .i64 0)) (h : Mi P K E w b n f) {x v : Int} (hx : W64 x) (hv : f x = v) : (Instr.lookup T (.map (some b)) (.int .i64 x) false).run P w = .ok (.int .i64 v) w := by
  obtain ⟨D, h, k⟩ := h
  obtain ⟨c, hrun, hat, _⟩ := h.lookup_int (int_keyed U.key) U.map U.elem (U.zero w) (keyOf_int_mk U.key hx.wf)
  rw [k x hx, hv] at hat
  simp at hat
  rw [hrun, hat]
theorem plainElem_bool_inv {P : Program} {e : TypeId} (he : P.underlying e = some .bool) {v : Value} {z : DataW Unit × List MemPlace} (h : plainElem P e v = some z) : ∃ x, v = .bool x ∧ z = (.lit (.bool x), []) := by
  unfold plainElem at h
  rw [he] at h
  cases v <;> simp at h
  exact ⟨_, rfl, h.symm⟩
theorem Mb.look {w : World} {b n : Nat} {f : Int → Bool} (U : MT P T K E .bool (.bool false)) (h : Mb P K E w b n f) {x : Int} {v : Bool} (hx : W64 x) (hv : f x = v) : (Instr.lookup T (.map (some b)) (.int .i64 x) false).run P w = .ok (.bool v) w := by
  obtain ⟨D, h, k⟩ := h
  obtain ⟨v', ps, hrun, hat⟩ := h.lookup (int_keyed U.key) U.map (U.zero w) (plainElem_bool U.elem false) (keyOf_int_mk U.key hx.wf)
  obtain ⟨y, rfl, e⟩ := plainElem_bool_inv U.elem hat
  simp only [Prod.mk.injEq] at e
  rw [k x hx, hv] at e
  simp at e
  rw [hrun, e.1]
theorem wp_look_i (w : World) (hg : o.guard = none) (m x : Operand) (hop : o.op = Op.lookup T m x false) (U : MT P T K E (.int .i64) (.int .i64 0)) (b n : Nat) (f : Int → Int)
    (hm : a.eval m = .map (some b)) (h : Mi P K E w b n f) (key v : Int) (hx : a.eval x = .int .i64 key) (hk : W64 key) (hv : f key = v)
    (hK : wpList P ops Q rest (a.put o.dst (.int .i64 v)) w) : wpList P ops Q (o :: rest) a w := by
  refine wpList_plain hg fun K' hK' => ?_
  have hrun := h.look U hk hv
  unfold Oper.wp
  simp [execOp, hop, hm, hx, hrun, Result.andThen]
  exact hK' _ _ hK
theorem wp_look_b (w : World) (hg : o.guard = none) (m x : Operand) (hop : o.op = Op.lookup T m x false) (U : MT P T K E .bool (.bool false)) (b n : Nat) (f : Int → Bool)
    (hm : a.eval m = .map (some b)) (h : Mb P K E w b n f) (key : Int) (v : Bool) (hx : a.eval x = .int .i64 key) (hk : W64 key) (hv : f key = v)
    (hK : wpList P ops Q rest (a.put o.dst (.bool v)) w) : wpList P ops Q (o :: rest) a w := by
  refine wpList_plain hg fun K' hK' => ?_
  have hrun := h.look U hk hv
  unfold Oper.wp
  simp [execOp, hop, hm, hx, hrun, Result.andThen]
  exact hK' _ _ hK

theorem key_isKey {x : Int} : WideAt.IsKeyLit (.int .i64 x) := trivial
/-- the numbers' map with one entry changed -/
def upI (f : Int → Int) (x v : Int) : Int → Int := fun y => if y = x then v else f y
def upB (f : Int → Bool) (x : Int) (v : Bool) : Int → Bool := fun y => if y = x then v else f y

theorem wp_put_i (w : World) (hg : o.guard = none) (m x v : Operand) (hop : o.op = Op.mapUpdate T m x v) (U : MT P T K E (.int .i64) (.int .i64 0)) (b n : Nat) (f : Int → Int)
    (hm : a.eval m = .map (some b)) (h : Mi P K E w b n f) (hn : n < maxLen) (key y : Int) (hx : a.eval x = .int .i64 key) (hk : W64 key) (hv : a.eval v = .int .i64 y) (hy : W64 y)
    (hK : ∀ w', Mi P K E w' b (n + 1) (upI f key y) → w.grownBy w' (some b) → wpList P ops Q rest (a.put o.dst undef) w') : wpList P ops Q (o :: rest) a w := by
  obtain ⟨D, h, k⟩ := h
  refine wpList_mapUpdate_own w hg m x v T hop K E (int_keyed U.key) U.map _ b n D hm h hn _ _ _ hx hv (keyOf_int_mk U.key hk.wf) _ [] (plainElem_int U.elem hy.wf) fun w' hw hgr => hK w' ⟨_, hw, fun z hz => ?_⟩ hgr
  unfold upI
  by_cases e : z = key
  · subst e; rw [atKey_put_same h.isMap key_isKey, if_pos rfl]
  · rw [atKey_put_other (by simpa using e), k z hz, if_neg e]
theorem wp_put_b (w : World) (hg : o.guard = none) (m x v : Operand) (hop : o.op = Op.mapUpdate T m x v) (U : MT P T K E .bool (.bool false)) (b n : Nat) (f : Int → Bool)
    (hm : a.eval m = .map (some b)) (h : Mb P K E w b n f) (hn : n < maxLen) (key : Int) (y : Bool) (hx : a.eval x = .int .i64 key) (hk : W64 key) (hv : a.eval v = .bool y)
    (hK : ∀ w', Mb P K E w' b (n + 1) (upB f key y) → w.grownBy w' (some b) → wpList P ops Q rest (a.put o.dst undef) w') : wpList P ops Q (o :: rest) a w := by
  obtain ⟨D, h, k⟩ := h
  refine wpList_mapUpdate_own w hg m x v T hop K E (int_keyed U.key) U.map _ b n D hm h hn _ _ _ hx hv (keyOf_int_mk U.key hk.wf) _ [] (plainElem_bool U.elem y) fun w' hw hgr => hK w' ⟨_, hw, fun z hz => ?_⟩ hgr
  unfold upB
  by_cases e : z = key
  · subst e; rw [atKey_put_same h.isMap key_isKey, if_pos rfl]
  · rw [atKey_put_other (by simpa using e), k z hz, if_neg e]
theorem wp_del_b (w : World) (hg : o.guard = none) (m x : Operand) (hop : o.op = Op.call { callee := Callee.builtin Builtin.delete, args := #[m, x], argTypes := #[T, K] }) (U : MT P T K E .bool (.bool false)) (b n : Nat) (f : Int → Bool)
    (hm : a.eval m = .map (some b)) (h : Mb P K E w b n f) (key : Int) (hx : a.eval x = .int .i64 key) (hk : W64 key)
    (hK : ∀ w', Mb P K E w' b n (upB f key false) → w.grownBy w' (some b) → wpList P ops Q rest (a.put o.dst (.tuple #[])) w') : wpList P ops Q (o :: rest) a w := by
  obtain ⟨D, h, k⟩ := h
  refine wpList_delete_own w hg m x T K hop E (int_keyed U.key) U.map _ b n D hm h _ _ hx (keyOf_int_mk U.key hk.wf) fun w' hw hgr => hK w' ⟨_, hw, fun z hz => ?_⟩ hgr.grown
  unfold upB
  by_cases e : z = key
  · subst e; rw [atKey_del_same, if_pos rfl]
  · rw [atKey_del_other (by simpa using e), k z hz, if_neg e]

/-- block b is a map that reads as f; block r an iterator over it; left: which keys are still to come -/
def Rg (P : Program) (K E : TypeId) (w : World) (b r n : Nat) (f : Int → Int) (left : Int → Bool) (cnt : Nat) : Prop :=
  ∃ (D : DataW Unit) (lf : Lit → Bool), w.ranges P K (plainElem P E) b r n D lf cnt ∧ (∀ x, W64 x → D.atKey (.int .i64 x) (.lit (.int .i64 0)) = .lit (.int .i64 (f x))) ∧ ∀ x, W64 x → lf (.int .i64 x) = left x
theorem Rg.heap {w w' : World} {b r n cnt : Nat} {f : Int → Int} {left : Int → Bool} (h : Rg P K E w b r n f left cnt) (row : Option Nat) (hg : w.grownBy w' row) (h1 : some b ≠ row) (h2 : some r ≠ row) : Rg P K E w' b r n f left cnt := by
  obtain ⟨D, lf, h, k, l⟩ := h
  exact ⟨D, lf, h.kept hg h1 h2, k, l⟩
theorem wp_range (w : World) (hg : o.guard = none) (m : Operand) (hop : o.op = Op.range T m) (U : MT P T K E (.int .i64) (.int .i64 0)) (b n : Nat) (f : Int → Int)
    (hm : a.eval m = .map (some b)) (h : Mi P K E w b n f)
    (hK : ∀ w' left cnt, Rg P K E w' b w.heap.size n f left cnt → cnt ≤ n → (∀ x, W64 x → f x ≠ 0 → left x = true) → w.grownBy w' none → w'.heap.size = w.heap.size + 1 → wpList P ops Q rest (a.put o.dst (.pointer (some ⟨w.heap.size, 0, none⟩))) w') : wpList P ops Q (o :: rest) a w := by
  obtain ⟨D, h, k⟩ := h
  refine wpList_range_own w hg m T hop K E (int_keyed U.key) U.map _ b n D hm h fun w' hr hgr hs => hK w' (fun x => Maps.has D (.int .i64 x)) (Maps.size D) ⟨D, _, hr, k, fun _ _ => rfl⟩ h.size_le (fun x hx hf => ?_) hgr hs
  by_cases e : Maps.has D (.int .i64 x) = true
  · exact e
  · have h1 := k x hx
    rw [atKey_of_not_has (by simpa using e)] at h1
    simp at h1
    exact absurd h1.symm hf
theorem wp_next (w : World) (hg : o.guard = none) (it : Operand) (hop : o.op = Op.next it false) (U : MT P T K E (.int .i64) (.int .i64 0)) (b r n cnt : Nat) (f : Int → Int) (left : Int → Bool)
    (hit : a.eval it = .pointer (some ⟨r, 0, none⟩)) (h : Rg P K E w b r n f left cnt)
    (hDone : (∀ x, W64 x → left x = false) → wpList P ops Q rest (a.put o.dst (.tuple #[.bool false])) w)
    (hMore : ∀ x c w' cnt', W64 x → W64 c → left x = true → f x = c → Rg P K E w' b r n f (fun z => left z && !decide (z = x)) cnt' → cnt' < cnt → w.grownBy w' (some r) → w'.heap.size = w.heap.size → (Instr.entry (.pointer (some ⟨r, 0, none⟩))).run P w' = .ok (.tuple #[.int .i64 x, .int .i64 c]) w' → wpList P ops Q rest (a.put o.dst (.tuple #[.bool true, .int .i64 x, .int .i64 c])) w') : wpList P ops Q (o :: rest) a w := by
  obtain ⟨D, lf, h, k, l⟩ := h
  refine wpList_next_ranges_ii w hg it hop K E .i64 .i64 (int_keyed U.key) U.key U.elem b r n D lf cnt hit h (fun _ hl => hDone fun x hx => by rw [← l x hx]; exact hl _) fun x c w' cnt' hwx hwc hlx hat hrg hlt hgr hsz hen => ?_
  have hx := W64.of hwx
  refine hMore x c w' cnt' hx (W64.of hwc) (by rw [← l x hx]; exact hlx) (by have h1 := k x hx; rw [hat] at h1; simpa using h1.symm) ⟨D, _, hrg, k, fun z hz => ?_⟩ hlt hgr hsz hen
  rw [l z hz]
  by_cases e : z = x
  · subst e; simp [Lit.sameKey]
  · have : Lit.sameKey (.int .i64 z) (.int .i64 x) = false := sameKey_ne (by simpa using e)
    simp [this, e]
end
end Go.Proofs.Ytonnbcongnkcdaa
