/-
  Steps of a store that came in, opened.
-/
import Derived.Test.YtnccofpkanhfhaaOpen
import Derived.Test.YtnccofpkanhfhaaRh
import Derived.ChangeArms
set_option linter.unusedVariables false
set_option linter.unusedSimpArgs false
namespace Go.Proofs.Ytnccofpkanhfhaa.Open
open Go.RowKit Go.ChangeShapes Go.WideShapes Go.ChangeAt Go.Proofs.YtnccofpkanhfhaaW.PrintWords Go.Proofs.Ytnccofpkanhfhaa.R
instance : Inhabited S50 := ⟨z50⟩
set_option maxRecDepth 100000 in
theorem opens_kv : Opens Try.prog 50 (fun (a : S50) cs => ∀ w, Kd.K k50 w a cs) (fun a => (Lit.int .i64 a.f0).wf = true ∧ a.f1.size ≤ 140737488351232 ∧ a.f2.size ≤ 140737488351232) := by
  intro H enc w base sp held fuel cs x h hl
  obtain ⟨xs, n, _, rfl, hlen, hxs, hf⟩ := DataW.trod_struct Try.underlying50 h
  obtain ⟨y0, y1, y2, rfl⟩ := len3 (show xs.length = 3 from hxs)
  rw [show Try.prog.cellsOf 50 = 3 by kernel_rfl] at hlen
  obtain ⟨c0, c1, c2, rfl⟩ := len3 hlen
  have h0 := hf 0 _ rfl
  obtain ⟨s0, e0, hy0, w0⟩ := DataW.trod_int Try.underlying3 h0
  rw [show Try.prog.cellsOf _ = 1 by kernel_rfl] at e0
  obtain rfl : c0 = .int .i64 s0 := (List.cons.inj (show [c0] = [.int .i64 s0] from e0)).1
  have h1 := hf 1 _ rfl
  obtain ⟨s1, e1, hy1, _⟩ := DataW.trod_string Try.underlying9 h1
  rw [show Try.prog.cellsOf _ = 1 by kernel_rfl] at e1
  obtain rfl : c1 = .string s1 := (List.cons.inj (show [c1] = [.string s1] from e1)).1
  have h2 := hf 2 _ rfl
  obtain ⟨s2, e2, hy2, _⟩ := DataW.trod_string Try.underlying9 h2
  rw [show Try.prog.cellsOf _ = 1 by kernel_rfl] at e2
  obtain rfl : c2 = .string s2 := (List.cons.inj (show [c2] = [.string s2] from e2)).1
  subst hy0
  subst hy1
  subst hy2
  clear hf hxs
  have b1 : s1.size ≤ 140737488351232 := by
    have := hl s1.data.toList.length (by simp [DataW.weights, DataW.weightsEach, Try.underlying50])
    rwa [Array.length_toList] at this
  have b2 : s2.size ≤ 140737488351232 := by
    have := hl s2.data.toList.length (by simp [DataW.weights, DataW.weightsEach, Try.underlying50])
    rwa [Array.length_toList] at this
  exact ⟨⟨s0, s1, s2⟩, fun w => k50_mk w ⟨s0, s1, s2⟩, w0, b1, b2⟩
end Go.Proofs.Ytnccofpkanhfhaa.Open
