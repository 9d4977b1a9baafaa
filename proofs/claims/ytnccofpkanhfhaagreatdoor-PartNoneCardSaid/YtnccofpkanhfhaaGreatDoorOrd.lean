/-
  'x > y' on strings, as 'y < x': the form in which the printed texts have it.
-/
import Derived.WalkKit
import Derived.Sort.Walk0
namespace Go.Proofs.YtnccofpkanhfhaaGreatDoor.Tab
open Go.Sort
theorem gtr_less (x y : List UInt8) : (!(Op.bytesLess x y || x == y)) = Op.bytesLess y x := by
  rw [bytesLess_eq, bytesLess_eq]
  rcases Decidable.em (x < y) with h | h
  · simp [h, List.lt_asymm h]
  · rcases Decidable.em (x = y) with e | e
    · subst e; simp [List.lt_irrefl]
    · have h2 : y < x := by
        rcases Decidable.em (y < x) with h3 | h3
        · exact h3
        · exact absurd (List.le_antisymm (List.not_lt.1 h3) (List.not_lt.1 h)) e
      simp [h, h2, e]
theorem run_gtr (t : TypeId) (a b : ByteArray) : binOp .gtr t (.string a) (.string b) = pure (.bool (Op.bytesLess b.toList a.toList)) := by
  have h := gtr_less a.toList b.toList
  rw [← h]
  simp [binOp, Op.stringOp]
end Go.Proofs.YtnccofpkanhfhaaGreatDoor.Tab
