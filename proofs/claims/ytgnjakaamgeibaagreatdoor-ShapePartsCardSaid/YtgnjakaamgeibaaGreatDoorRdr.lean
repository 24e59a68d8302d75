/-
  The reader of a pattern's written form: peek, fail, number, braces, count. Conditions: the reader lies in memory, its string is short.
-/
import Derived.Test.YtgnjakaamgeibaaGreatDoorPcs
import Derived.Deep.QuietTactic
import Derived.Deep.Cut
import Derived.WalkSmall
import Derived.BigQuiet
namespace Go.Proofs.YtgnjakaamgeibaaGreatDoor
open Go.RowKit Go.Shelf
attribute [local go_sem] Oper.semAt_some
theorem frm_at {w w' : World} {x j : Nat} {v : Value} (h : Frm (fun k => k = x) w w') : Frm (fun k => k = x) w (w'.setCell ⟨x, j, none⟩ v) := h.setCell (p := ⟨x, j, none⟩) (.inl rfl) v
theorem frm_no {w w' : World} {x : Nat} (h : Frm (fun _ => False) w w') : Frm (fun k => k = x) w w' := h.mono fun _ h => h.elim
theorem pk_drop {s : ByteArray} {i : Nat} (h : i < s.size) : s.data.toList.drop i = s[i] :: s.data.toList.drop (i + 1) := by
  have j3 : i < s.data.toList.length := by rw [size_list]; exact h
  rw [List.drop_eq_getElem_cons j3]; rfl
end Go.Proofs.YtgnjakaamgeibaaGreatDoor
