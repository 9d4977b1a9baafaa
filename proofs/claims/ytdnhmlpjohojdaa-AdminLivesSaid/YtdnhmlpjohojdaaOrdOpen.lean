/-
  Orders that came in, opened.
-/
import Derived.Test.YtdnhmlpjohojdaaOpen
import Derived.Test.YtdnhmlpjohojdaaAdmForm
import Derived.OpenShut
import Derived.ChangeArms
set_option linter.unusedVariables false
set_option linter.unusedSimpArgs false
namespace Go.Proofs.Ytdnhmlpjohojdaa.Open
open Go.RowKit Go.ChangeShapes Go.WideShapes Go.ChangeAt Go.Proofs.Ytdnhmlpjohojdaa.Adm
theorem len9 {α : Type} : ∀ {l : List α}, l.length = 9 → ∃ c0 c1 c2 c3 c4 c5 c6 c7 c8, l = [c0, c1, c2, c3, c4, c5, c6, c7, c8]
  | [c0, c1, c2, c3, c4, c5, c6, c7, c8], _ => ⟨c0, c1, c2, c3, c4, c5, c6, c7, c8, rfl⟩
/-- Numbers of a configuration are of their kind. -/
def WfV (v : Fin 9 → Int) : Prop := ∀ x, (Lit.int .i64 (v x)).wf = true
def of9 (a0 a1 a2 a3 a4 a5 a6 a7 a8 : Int) (x : Fin 9) : Int :=
  match x with
  | 0 => a0 | 1 => a1 | 2 => a2 | 3 => a3 | 4 => a4 | 5 => a5 | 6 => a6 | 7 => a7 | 8 => a8
set_option maxRecDepth 100000 in
theorem opens_conf : Opens Try.prog 24 (fun (v : Fin 9 → Int) cs => cs = (cells9 v).toList) WfV := by
  intro H enc w base sp held fuel cs x h hl
  obtain ⟨xs, n, _, rfl, hlen, hxs, hf⟩ := DataW.trod_struct Try.underlying24 h
  obtain ⟨y0, y1, y2, y3, y4, y5, y6, y7, y8, rfl⟩ := len9 (show xs.length = 9 from hxs)
  rw [show Try.prog.cellsOf 24 = 9 by kernel_rfl] at hlen
  obtain ⟨c0, c1, c2, c3, c4, c5, c6, c7, c8, rfl⟩ := len9 hlen
  obtain ⟨a0, e0, _, w0⟩ := DataW.trod_int Try.underlying3 (hf 0 _ rfl)
  rw [show Try.prog.cellsOf _ = 1 by kernel_rfl] at e0
  obtain rfl : c0 = .int .i64 a0 := (List.cons.inj (show [c0] = [.int .i64 a0] from e0)).1
  obtain ⟨a1, e1, _, w1⟩ := DataW.trod_int Try.underlying3 (hf 1 _ rfl)
  rw [show Try.prog.cellsOf _ = 1 by kernel_rfl] at e1
  obtain rfl : c1 = .int .i64 a1 := (List.cons.inj (show [c1] = [.int .i64 a1] from e1)).1
  obtain ⟨a2, e2, _, w2⟩ := DataW.trod_int Try.underlying3 (hf 2 _ rfl)
  rw [show Try.prog.cellsOf _ = 1 by kernel_rfl] at e2
  obtain rfl : c2 = .int .i64 a2 := (List.cons.inj (show [c2] = [.int .i64 a2] from e2)).1
  obtain ⟨a3, e3, _, w3⟩ := DataW.trod_int Try.underlying3 (hf 3 _ rfl)
  rw [show Try.prog.cellsOf _ = 1 by kernel_rfl] at e3
  obtain rfl : c3 = .int .i64 a3 := (List.cons.inj (show [c3] = [.int .i64 a3] from e3)).1
  obtain ⟨a4, e4, _, w4⟩ := DataW.trod_int Try.underlying3 (hf 4 _ rfl)
  rw [show Try.prog.cellsOf _ = 1 by kernel_rfl] at e4
  obtain rfl : c4 = .int .i64 a4 := (List.cons.inj (show [c4] = [.int .i64 a4] from e4)).1
  obtain ⟨a5, e5, _, w5⟩ := DataW.trod_int Try.underlying3 (hf 5 _ rfl)
  rw [show Try.prog.cellsOf _ = 1 by kernel_rfl] at e5
  obtain rfl : c5 = .int .i64 a5 := (List.cons.inj (show [c5] = [.int .i64 a5] from e5)).1
  obtain ⟨a6, e6, _, w6⟩ := DataW.trod_int Try.underlying3 (hf 6 _ rfl)
  rw [show Try.prog.cellsOf _ = 1 by kernel_rfl] at e6
  obtain rfl : c6 = .int .i64 a6 := (List.cons.inj (show [c6] = [.int .i64 a6] from e6)).1
  obtain ⟨a7, e7, _, w7⟩ := DataW.trod_int Try.underlying3 (hf 7 _ rfl)
  rw [show Try.prog.cellsOf _ = 1 by kernel_rfl] at e7
  obtain rfl : c7 = .int .i64 a7 := (List.cons.inj (show [c7] = [.int .i64 a7] from e7)).1
  obtain ⟨a8, e8, _, w8⟩ := DataW.trod_int Try.underlying3 (hf 8 _ rfl)
  rw [show Try.prog.cellsOf _ = 1 by kernel_rfl] at e8
  obtain rfl : c8 = .int .i64 a8 := (List.cons.inj (show [c8] = [.int .i64 a8] from e8)).1
  refine ⟨of9 a0 a1 a2 a3 a4 a5 a6 a7 a8, rfl, fun x => ?_⟩
  match x with
  | 0 => exact w0
  | 1 => exact w1
  | 2 => exact w2
  | 3 => exact w3
  | 4 => exact w4
  | 5 => exact w5
  | 6 => exact w6
  | 7 => exact w7
  | 8 => exact w8
def WfO (o : Order) : Prop := (Lit.int .u64 o.id).wf = true ∧ (Lit.int .i64 o.op).wf = true ∧ (Lit.int .i64 o.owner).wf = true ∧ WfV o.v
set_option maxRecDepth 100000 in
theorem opens_order : Opens Try.prog 26 (fun (o : Order) cs => cs = (cells12 o).toList) WfO := by
  intro H enc w base sp held fuel cs x h hl
  obtain ⟨xs, n, _, rfl, hlen, hxs, hf⟩ := DataW.trod_struct Try.underlying26 h
  obtain ⟨y0, y1, y2, y3, rfl⟩ := len4 (show xs.length = 4 from hxs)
  rw [show Try.prog.cellsOf 26 = 12 by kernel_rfl] at hlen
  obtain ⟨c0, c1, c2, c3, c4, c5, c6, c7, c8, c9, c10, c11, rfl⟩ := len12 hlen
  have h0 := hf 0 _ rfl
  obtain ⟨s0, e0, hy0, w0⟩ := DataW.trod_int Try.underlying22 h0
  rw [show Try.prog.cellsOf _ = 1 by kernel_rfl] at e0
  obtain rfl : c0 = .int .u64 s0 := (List.cons.inj (show [c0] = [.int .u64 s0] from e0)).1
  have h1 := hf 1 _ rfl
  obtain ⟨s1, e1, hy1, w1⟩ := DataW.trod_int Try.underlying3 h1
  rw [show Try.prog.cellsOf _ = 1 by kernel_rfl] at e1
  obtain rfl : c1 = .int .i64 s1 := (List.cons.inj (show [c1] = [.int .i64 s1] from e1)).1
  have h2 := hf 2 _ rfl
  obtain ⟨s2, e2, hy2, w2⟩ := DataW.trod_int Try.underlying3 h2
  rw [show Try.prog.cellsOf _ = 1 by kernel_rfl] at e2
  obtain rfl : c2 = .int .i64 s2 := (List.cons.inj (show [c2] = [.int .i64 s2] from e2)).1
  have h3 := hf 3 _ rfl
  obtain ⟨v, e3, w3⟩ := opens_conf _ _ _ _ _ _ _ _ h3 (fun q hq => hl q (by
    simp only [DataW.weights, Try.underlying26]
    exact DataW.weights_mem_each (j := 3) rfl rfl q hq))
  rw [show Try.prog.cellsOf _ = 9 by kernel_rfl] at e3
  have e3' : [c3, c4, c5, c6, c7, c8, c9, c10, c11] = (cells9 v).toList := e3
  simp only [List.cons.injEq] at e3'
  obtain ⟨rfl, rfl, rfl, rfl, rfl, rfl, rfl, rfl, rfl, _⟩ := e3'
  exact ⟨⟨s0, s1, s2, v⟩, rfl, w0, w1, w2, w3⟩
theorem okWide_struct {P : Program} {w : World} {r : Reach} {base : Nat} {t : TypeId} {v : Value} {fs} (ht : P.underlying t = some (.struct fs)) (h : Value.okWide P w r base t v) : ∃ cs, v = .agg cs ∧ cs.size = P.cellsOf t := by
  simp only [Value.okWide, ht] at h
  obtain ⟨cs, h1, h2, _⟩ := h
  exact ⟨cs, h1, h2⟩
set_option maxRecDepth 100000 in
theorem open_order {H : Type} {enc : TypeId × Value → H} {W : World} {base : Nat} {sp : Nat → Bool} {held : Bool} {v : Value} {r : Reach} {b : Nat} {dat : DataW H} {ps : List MemPlace}
    (hv : Value.okWide Try.prog W r b 26 v) (h : DataW.Trod enc Try.prog W base sp held 26 v dat ps) (hl : Light Try.prog 26 dat) : ∃ o : Order, v = ordV o ∧ WfO o := by
  obtain ⟨cs, rfl, hsz⟩ := okWide_struct Try.underlying26 hv
  obtain ⟨fuel, hf⟩ := h
  obtain ⟨o, h1, h2⟩ := opens_order _ _ _ _ _ _ _ _ hf hl
  exact ⟨o, congrArg Value.agg (Array.toList_inj.1 h1), h2⟩
end Go.Proofs.Ytdnhmlpjohojdaa.Open
