/-
  Rows of counters that came in, opened.
-/
import Derived.Test.YtnccofpkanhfhaaOpen
import Derived.Test.YtnccofpkanhfhaaRh
set_option linter.unusedVariables false
set_option linter.unusedSimpArgs false
namespace Go.Proofs.Ytnccofpkanhfhaa.Open
open Go.RowKit Go.ChangeShapes Go.WideShapes Go.ChangeAt Go.Proofs.YtnccofpkanhfhaaW.PrintWords Go.Proofs.Ytnccofpkanhfhaa.R
instance : Inhabited S28 := ⟨z28⟩
theorem opens_counter : Opens Try.prog 28 (fun (a : S28) cs => ∀ w, Kd.K k28 w a cs) (fun a => a.f0.size ≤ 140737488351232 ∧ (Lit.int .i64 a.f1).wf = true) := by
  intro H enc w base sp held fuel cs x h hl
  obtain ⟨y0, y1, n, rfl, hlen, h0, h1⟩ := trod_struct2 Try.underlying28 h
  rw [show Try.prog.cellsOf 28 = 2 by kernel_rfl] at hlen
  obtain ⟨c0, c1, rfl⟩ := len2 hlen
  obtain ⟨s, e0, hy0, _⟩ := DataW.trod_string Try.underlying9 h0
  obtain ⟨v, e1, hy1, hw⟩ := DataW.trod_int Try.underlying2 h1
  rw [show Try.prog.cellsOf 9 = 1 by kernel_rfl] at e0
  rw [show Try.prog.cellsOf 2 = 1 by kernel_rfl] at e1
  obtain rfl : c0 = .string s := (List.cons.inj (show [c0] = [.string s] from e0)).1
  obtain rfl : c1 = .int .i64 v := (List.cons.inj (show [c1] = [.int .i64 v] from e1)).1
  subst hy0 hy1
  refine ⟨⟨s, v⟩, fun w => k28_mk w ⟨s, v⟩, ?_, hw⟩
  have := hl s.data.toList.length (by simp [DataW.weights, DataW.weightsEach, Try.underlying28])
  rwa [Array.length_toList] at this
end Go.Proofs.Ytnccofpkanhfhaa.Open
