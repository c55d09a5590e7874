/- Short names of what the walks use often. No condition. -/
import Derived.Test.YtonnbcongnkcdaaJoR1
namespace Go.Proofs.Ytonnbcongnkcdaa
open Go.RowKit

theorem hid_ap {a b : Prop} (h : Hid (a → b)) (ha : a) : b := h.out ha
/-- what stood before an operation stands behind it -/
theorem PvA {b : Bool} {Q : Prop} (h : b = true → Q := by intro h; first | rfl | exact hid_ap (by assumption) (by simpa using h)) : b = true → Q := h
/-- all of what stood before -/
theorem PvR {Q : Prop} (h : Q := by (repeat' (with_reducible apply And.intro)) <;> exact PvA) : Q := h
/-- nothing is done yet -/
theorem NoR {Q : Prop} (h : Q := by (repeat' (with_reducible apply And.intro)) <;> (intro h; cases h)) : Q := h
theorem OmT {P : Prop} (h : P := by first | omega | (simp; done) | (simp; omega)) : P := h
theorem CeA {P : Prop} (h : P := by first | (go_simp; done) | (simp; done) | (simp [go_sem]; done)) : P := h
theorem gT {α : Type} (l : List α) (i : Nat) : l.toArray[i]? = l[i]? := List.getElem?_toArray ..
theorem gZ {α : Type} (a : α) (l : List α) : (a :: l)[0]? = some a := rfl
theorem gS {α : Type} (a : α) (l : List α) (i : Nat) : (a :: l)[i + 1]? = l[i]? := rfl
theorem aT {α : Type} (l : List α) (i : Nat) (a : α) : l.toArray.setIfInBounds i a = (l.set i a).toArray := List.setIfInBounds_toArray ..
theorem aZ {α : Type} (a b : α) (l : List α) : (a :: l).set 0 b = b :: l := rfl
theorem aS {α : Type} (a b : α) (l : List α) (i : Nat) : (a :: l).set (i + 1) b = a :: l.set i b := rfl

end Go.Proofs.Ytonnbcongnkcdaa
