/-
  An array of one-cell elements that came in by value, opened.
-/
import Derived.Test.YtnccofpkanhfhaaOpen
import Derived.OpenShut
set_option linter.unusedVariables false
set_option linter.unusedSimpArgs false
namespace Go.Proofs.Ytnccofpkanhfhaa.Open
open Go.RowKit Go.ChangeShapes Go.WideShapes
theorem okWide_array {P : Program} {w : World} {r : Reach} {base : Nat} {t : TypeId} {v : Value} {n : Nat} {e : TypeId} (ht : P.underlying t = some (.array n e)) (h : Value.okWide P w r base t v) : ∃ cs, v = .agg cs ∧ cs.size = P.cellsOf t := by
  simp only [Value.okWide, ht] at h
  obtain ⟨cs, h1, h2, _⟩ := h
  exact ⟨cs, h1, h2⟩
theorem open_array {α : Type} [Inhabited α] (ve : α → Value) {Q : α → Prop} {P : Program} {t e : TypeId} {n : Nat} (ht : P.underlying t = some (.array n e)) (hn : P.cellsOf t = n) (hc : P.cellsOf e = 1) (ho : Opens P e (fun a cs => cs = [ve a]) Q)
    {H : Type} {enc : TypeId × Value → H} {W : World} {base : Nat} {sp : Nat → Bool} {held : Bool} {v : Value} {r : Reach} {b : Nat} {dat : DataW H} {ps : List MemPlace}
    (hv : Value.okWide P W r b t v) (h : DataW.Trod enc P W base sp held t v dat ps) (hl : Light P t dat) :
    ∃ l : List α, l.length = n ∧ v = .agg (l.map ve).toArray ∧ ∀ x ∈ l, Q x := by
  obtain ⟨cs, rfl, hsz⟩ := okWide_array ht hv
  obtain ⟨fuel, hf⟩ := h
  obtain ⟨xs, m, _, hx, hlen, hxs, hel⟩ := DataW.trod_array ht hf
  simp only [Prod.mk.injEq] at hx
  obtain ⟨rfl, rfl⟩ := hx
  have hcs : (Value.agg cs).cells.toList = cs.toList := rfl
  rw [hcs] at hel hlen
  have hch : ∀ i, i < n → ∃ x : α, Q x ∧ (cs.toList.drop i).take 1 = [ve x] := by
    intro i hi
    have h1 := hel i hi
    rw [hc, Nat.mul_one] at h1
    have hxi : i < xs.length := by omega
    rw [List.getElem?_eq_getElem hxi] at h1
    obtain ⟨x, h3, h4⟩ := ho _ _ _ _ _ _ _ _ h1 (fun q hq => hl q (by
      simp only [DataW.weights, ht]
      exact weights_all (d := xs[i].1) (List.mem_map.2 ⟨_, List.getElem_mem hxi, rfl⟩) q hq))
    exact ⟨x, h4, h3⟩
  obtain ⟨f, hfx⟩ := Deep.choose_lt hch
  refine ⟨(List.range n).map f, by simp, ?_, ?_⟩
  · congr 1
    apply Array.toList_inj.1
    show cs.toList = ((List.range n).map f).map ve
    apply List.ext_getElem
    · rw [hlen, hn]; simp
    · intro i h1 h2
      have hi : i < n := by rw [hlen, hn] at h1; exact h1
      have := (hfx i hi).2
      rw [List.drop_eq_getElem_cons h1] at this
      simp only [List.take_succ_cons, List.take_zero, List.cons.injEq, and_true] at this
      rw [this]
      simp
  · intro x hx
    obtain ⟨i, hi, rfl⟩ := List.mem_map.1 hx
    exact (hfx i (List.mem_range.1 hi)).1
end Go.Proofs.Ytnccofpkanhfhaa.Open
