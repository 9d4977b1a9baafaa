/-
  A step of chapter 31 that came in, opened.
-/
import Derived.Test.YtnccofpkanhfhaaGreatDoorPartNone
import Derived.Test.YtnccofpkanhfhaaGreatDoorOpen
import Derived.OpenShut
import Derived.ChangeArms
set_option linter.unusedVariables false
set_option linter.unusedSimpArgs false
namespace Go.Proofs.YtnccofpkanhfhaaGreatDoor.Open
open Go.RowKit Go.ChangeShapes Go.WideShapes Go.ChangeAt Go.Proofs.YtnccofpkanhfhaaGreatDoor.Part
theorem len7 {α : Type} : ∀ {l : List α}, l.length = 7 → ∃ c0 c1 c2 c3 c4 c5 c6, l = [c0, c1, c2, c3, c4, c5, c6]
  | [c0, c1, c2, c3, c4, c5, c6], _ => ⟨c0, c1, c2, c3, c4, c5, c6, rfl⟩
def WfA (a : AR) : Prop := a.name.size ≤ 140737488351232 ∧ a.text.size ≤ 140737488351232 ∧ (Lit.int .i64 a.num).wf = true ∧ (Lit.int .u64 a.ticks).wf = true
def WfS (s : SR) : Prop := (Lit.int .i64 s.op).wf = true ∧ WfA s.a ∧ (Lit.int .i64 s.now).wf = true ∧ (Lit.int .i64 s.limit).wf = true
set_option maxRecDepth 100000 in
theorem opens_args : Opens Tryz.prog 35 (fun (a : AR) cs => cs = (cellsA a).toList) WfA := by
  intro H enc w base sp held fuel cs x h hl
  obtain ⟨xs, n, _, rfl, hlen, hxs, hf⟩ := DataW.trod_struct Tryz.underlying35 h
  obtain ⟨y0, y1, y2, y3, rfl⟩ := len4 (show xs.length = 4 from hxs)
  rw [show Tryz.prog.cellsOf 35 = 4 by kernel_rfl] at hlen
  obtain ⟨c0, c1, c2, c3, rfl⟩ := len4 hlen
  have h0 := hf 0 _ rfl
  obtain ⟨s0, e0, hy0, _⟩ := DataW.trod_string Tryz.underlying9 h0
  rw [show Tryz.prog.cellsOf _ = 1 by kernel_rfl] at e0
  obtain rfl : c0 = .string s0 := (List.cons.inj (show [c0] = [.string s0] from e0)).1
  have h1 := hf 1 _ rfl
  obtain ⟨s1, e1, hy1, _⟩ := DataW.trod_string Tryz.underlying9 h1
  rw [show Tryz.prog.cellsOf _ = 1 by kernel_rfl] at e1
  obtain rfl : c1 = .string s1 := (List.cons.inj (show [c1] = [.string s1] from e1)).1
  have h2 := hf 2 _ rfl
  obtain ⟨s2, e2, hy2, w2⟩ := DataW.trod_int Tryz.underlying2 h2
  rw [show Tryz.prog.cellsOf _ = 1 by kernel_rfl] at e2
  obtain rfl : c2 = .int .i64 s2 := (List.cons.inj (show [c2] = [.int .i64 s2] from e2)).1
  have h3 := hf 3 _ rfl
  obtain ⟨s3, e3, hy3, w3⟩ := DataW.trod_int Tryz.underlying33 h3
  rw [show Tryz.prog.cellsOf _ = 1 by kernel_rfl] at e3
  obtain rfl : c3 = .int .u64 s3 := (List.cons.inj (show [c3] = [.int .u64 s3] from e3)).1
  subst hy0
  subst hy1
  subst hy2
  subst hy3
  clear hf hxs
  have b0 : s0.size ≤ 140737488351232 := by
    have := hl s0.data.toList.length (by simp [DataW.weights, DataW.weightsEach, Tryz.underlying35, Tryz.underlying9])
    rwa [Array.length_toList] at this
  have b1 : s1.size ≤ 140737488351232 := by
    have := hl s1.data.toList.length (by simp [DataW.weights, DataW.weightsEach, Tryz.underlying35, Tryz.underlying9])
    rwa [Array.length_toList] at this
  exact ⟨⟨s0, s1, s2, s3⟩, rfl, b0, b1, w2, w3⟩
set_option maxRecDepth 100000 in
theorem opens_step : Opens Tryz.prog 37 (fun (a : SR) cs => cs = (cellsS a).toList) WfS := by
  intro H enc w base sp held fuel cs x h hl
  obtain ⟨xs, n, _, rfl, hlen, hxs, hf⟩ := DataW.trod_struct Tryz.underlying37 h
  obtain ⟨y0, y1, y2, y3, rfl⟩ := len4 (show xs.length = 4 from hxs)
  rw [show Tryz.prog.cellsOf 37 = 7 by kernel_rfl] at hlen
  obtain ⟨c0, c1, c2, c3, c4, c5, c6, rfl⟩ := len7 hlen
  have h0 := hf 0 _ rfl
  obtain ⟨s0, e0, hy0, w0⟩ := DataW.trod_int Tryz.underlying3 h0
  rw [show Tryz.prog.cellsOf _ = 1 by kernel_rfl] at e0
  obtain rfl : c0 = .int .i64 s0 := (List.cons.inj (show [c0] = [.int .i64 s0] from e0)).1
  have h1 := hf 1 _ rfl
  obtain ⟨v, e1, w1⟩ := opens_args _ _ _ _ _ _ _ _ h1 (fun q hq => hl q (by
    simp only [DataW.weights, Tryz.underlying37]
    exact DataW.weights_mem_each (j := 1) rfl rfl q hq))
  rw [show Tryz.prog.cellsOf _ = 4 by kernel_rfl] at e1
  have e1' : [c1, c2, c3, c4] = (cellsA v).toList := e1
  simp only [List.cons.injEq] at e1'
  obtain ⟨rfl, rfl, rfl, rfl, _⟩ := e1'
  have h2 := hf 2 _ rfl
  obtain ⟨s2, e2, hy2, w2⟩ := DataW.trod_int Tryz.underlying3 h2
  rw [show Tryz.prog.cellsOf _ = 1 by kernel_rfl] at e2
  obtain rfl : c5 = .int .i64 s2 := (List.cons.inj (show [c5] = [.int .i64 s2] from e2)).1
  have h3 := hf 3 _ rfl
  obtain ⟨s3, e3, hy3, w3⟩ := DataW.trod_int Tryz.underlying3 h3
  rw [show Tryz.prog.cellsOf _ = 1 by kernel_rfl] at e3
  obtain rfl : c6 = .int .i64 s3 := (List.cons.inj (show [c6] = [.int .i64 s3] from e3)).1
  exact ⟨⟨s0, v, s2, s3⟩, rfl, w0, w1, w2, w3⟩
theorem okWide_struct {P : Program} {w : World} {r : Reach} {base : Nat} {t : TypeId} {v : Value} {fs} (ht : P.underlying t = some (.struct fs)) (h : Value.okWide P w r base t v) : ∃ cs, v = .agg cs ∧ cs.size = P.cellsOf t := by
  simp only [Value.okWide, ht] at h
  obtain ⟨cs, h1, h2, _⟩ := h
  exact ⟨cs, h1, h2⟩
set_option maxRecDepth 100000 in
theorem open_step {H : Type} {enc : TypeId × Value → H} {W : World} {base : Nat} {sp : Nat → Bool} {held : Bool} {v : Value} {r : Reach} {b : Nat} {dat : DataW H} {ps : List MemPlace}
    (hv : Value.okWide Tryz.prog W r b 37 v) (h : DataW.Trod enc Tryz.prog W base sp held 37 v dat ps) (hl : Light Tryz.prog 37 dat) : ∃ o : SR, v = .agg (cellsS o) ∧ WfS o := by
  obtain ⟨cs, rfl, hsz⟩ := okWide_struct Tryz.underlying37 hv
  obtain ⟨fuel, hf⟩ := h
  obtain ⟨o, h1, h2⟩ := opens_step _ _ _ _ _ _ _ _ hf hl
  exact ⟨o, congrArg Value.agg (Array.toList_inj.1 h1), h2⟩
end Go.Proofs.YtnccofpkanhfhaaGreatDoor.Open
