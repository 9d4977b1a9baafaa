/-
  Steps of leases that came in, opened.
-/
import Derived.Test.YtnccofpkanhfhaaOpen
import Derived.Test.YtnccofpkanhfhaaRh
import Derived.ChangeArms
set_option linter.unusedVariables false
set_option linter.unusedSimpArgs false
namespace Go.Proofs.Ytnccofpkanhfhaa.Open
open Go.RowKit Go.ChangeShapes Go.WideShapes Go.ChangeAt Go.Proofs.YtnccofpkanhfhaaW.PrintWords Go.Proofs.Ytnccofpkanhfhaa.R
instance : Inhabited S87 := ⟨z87⟩
set_option maxRecDepth 100000 in
theorem opens_lease : Opens Try.prog 87 (fun (a : S87) cs => ∀ w, Kd.K k87 w a cs) (fun a => (Lit.int .i64 a.f0).wf = true ∧ a.f1.size ≤ 140737488351232 ∧ a.f2.size ≤ 140737488351232 ∧ (Lit.int .i64 a.f3).wf = true ∧ (Lit.int .i64 a.f4).wf = true) := by
  intro H enc w base sp held fuel cs x h hl
  obtain ⟨xs, n, _, rfl, hlen, hxs, hf⟩ := DataW.trod_struct Try.underlying87 h
  obtain ⟨y0, y1, y2, y3, y4, rfl⟩ := len5 (show xs.length = 5 from hxs)
  rw [show Try.prog.cellsOf 87 = 5 by kernel_rfl] at hlen
  obtain ⟨c0, c1, c2, c3, c4, rfl⟩ := len5 hlen
  have h0 := hf 0 _ rfl
  obtain ⟨s0, e0, hy0, w0⟩ := DataW.trod_int Try.underlying3 h0
  rw [show Try.prog.cellsOf _ = 1 by kernel_rfl] at e0
  obtain rfl : c0 = .int .i64 s0 := (List.cons.inj (show [c0] = [.int .i64 s0] from e0)).1
  have h1 := hf 1 _ rfl
  obtain ⟨s1, e1, hy1, _⟩ := DataW.trod_string Try.underlying9 h1
  rw [show Try.prog.cellsOf _ = 1 by kernel_rfl] at e1
  obtain rfl : c1 = .string s1 := (List.cons.inj (show [c1] = [.string s1] from e1)).1
  have h2 := hf 2 _ rfl
  obtain ⟨s2, e2, hy2, _⟩ := DataW.trod_string Try.underlying9 h2
  rw [show Try.prog.cellsOf _ = 1 by kernel_rfl] at e2
  obtain rfl : c2 = .string s2 := (List.cons.inj (show [c2] = [.string s2] from e2)).1
  have h3 := hf 3 _ rfl
  obtain ⟨s3, e3, hy3, w3⟩ := DataW.trod_int Try.underlying3 h3
  rw [show Try.prog.cellsOf _ = 1 by kernel_rfl] at e3
  obtain rfl : c3 = .int .i64 s3 := (List.cons.inj (show [c3] = [.int .i64 s3] from e3)).1
  have h4 := hf 4 _ rfl
  obtain ⟨s4, e4, hy4, w4⟩ := DataW.trod_int Try.underlying3 h4
  rw [show Try.prog.cellsOf _ = 1 by kernel_rfl] at e4
  obtain rfl : c4 = .int .i64 s4 := (List.cons.inj (show [c4] = [.int .i64 s4] from e4)).1
  subst hy0
  subst hy1
  subst hy2
  subst hy3
  subst hy4
  clear hf hxs
  have b1 : s1.size ≤ 140737488351232 := by
    have := hl s1.data.toList.length (by simp [DataW.weights, DataW.weightsEach, Try.underlying87])
    rwa [Array.length_toList] at this
  have b2 : s2.size ≤ 140737488351232 := by
    have := hl s2.data.toList.length (by simp [DataW.weights, DataW.weightsEach, Try.underlying87])
    rwa [Array.length_toList] at this
  exact ⟨⟨s0, s1, s2, s3, s4⟩, fun w => k87_mk w ⟨s0, s1, s2, s3, s4⟩, w0, b1, b2, w3, w4⟩
end Go.Proofs.Ytnccofpkanhfhaa.Open
