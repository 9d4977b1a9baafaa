/-
  A slice of strings that came in, opened.
-/
import Derived.Test.YtnccofpkanhfhaaOpen
set_option linter.unusedVariables false
namespace Go.Proofs.Ytnccofpkanhfhaa.Open
open Go.RowKit Go.ChangeShapes Go.WideShapes Go.Proofs.YtnccofpkanhfhaaW.PrintWords
theorem opens_strings {P : Program} {t : TypeId} (ht : P.underlying t = some .string) : Opens P t (fun (a : ByteArray) cs => ∀ w, Kd.string.K w a cs) (fun a => a.size ≤ 140737488351232) := by
  intro H enc w base sp held fuel cs x h hl
  obtain ⟨a, ha, hq⟩ := opens_string ht enc w base sp held fuel cs x h hl
  exact ⟨a, fun w => ha, hq⟩
instance : Inhabited ByteArray := ⟨ByteArray.empty⟩
end Go.Proofs.Ytnccofpkanhfhaa.Open
