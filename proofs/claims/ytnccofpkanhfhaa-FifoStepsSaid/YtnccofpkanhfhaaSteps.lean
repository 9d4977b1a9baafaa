/-
  concourselaw26.Much, for the steps of queues.
-/
import Derived.Test.YtnccofpkanhfhaaPure
import Derived.Test.YtnccofpkanhfhaaR26
set_option linter.unusedVariables false
set_option linter.unusedSimpArgs false
namespace Go.Proofs.Ytnccofpkanhfhaa.Steps
open Go.RowKit Go.Proofs.Ytnccofpkanhfhaa.Tab Go.Proofs.Ytnccofpkanhfhaa.Pure Go.Proofs.Ytnccofpkanhfhaa.R Go.Proofs.YtnccofpkanhfhaaW.PrintWords Go.Proofs.YtnccofpkanhfhaaW.PrintMore
abbrev Step := S50
theorem rd_step (l : List Step) (i : Int) : rd_T50 l i = l.getD i.toNat z50 := rfl
theorem drop_at {α : Type} (l : List α) (x : α) {i : Nat} (h : i < l.length) : l.drop i = l.getD i x :: l.drop (i + 1) := by
  rw [List.drop_eq_getElem_cons h]
  simp [List.getD_eq_getElem?_getD, List.getElem?_eq_getElem h]
theorem much_loop (l : List Step) (hs : ∀ x ∈ l, x.f1.size ≤ 140737488351232 ∧ x.f2.size ≤ 140737488351232) (hl : l.length ≤ 140737488351232) (d : Nat) : ∀ (n : Int) (i : Nat) (k : Nat), 0 ≤ n → n ≤ 1048576 → i ≤ l.length → l.length - i = d → d < k →
    ∃ r, concourselaw26_Much.l0 k l n i = some r ∧ (r = false → l.length ≤ 200 ∧ n ≤ 20000 ∧ ∀ x ∈ l.drop i, x.f1.size ≤ 20000 ∧ x.f2.size ≤ 20000) := by
  induction d with
  | zero =>
    intro n i k h0 h1 hi hd hk
    obtain ⟨k, rfl⟩ : ∃ m, k = m + 1 := ⟨k - 1, by omega⟩
    simp only [concourselaw26_Much.l0]
    rw [if_neg (by omega), List.drop_eq_nil_of_le (by omega)]
    by_cases h80 : (l.length : Int) > 200
    · rw [if_pos h80]
      exact ⟨true, rfl, fun h => by cases h⟩
    · rw [if_neg h80]
      exact ⟨_, rfl, fun h => ⟨by omega, by simpa using h, by simp⟩⟩
  | succ d ih =>
    intro n i k h0 h1 hi hd hk
    obtain ⟨k, rfl⟩ : ∃ m, k = m + 1 := ⟨k - 1, by omega⟩
    have hlt : i < l.length := by omega
    have hx : l.getD i z50 = l[i] := by simp [List.getD_eq_getElem?_getD, List.getElem?_eq_getElem hlt]
    have hsz := hs _ (List.getElem_mem hlt)
    rw [drop_at l z50 hlt, hx]
    simp only [concourselaw26_Much.l0]
    rw [if_pos (by omega), if_pos (by omega), rd_step, Int.toNat_natCast, hx, w64 (x := (i : Int) + 1) (by omega) (by omega), w64 (x := n + (l[i].f1.size : Int)) (by omega) (by omega), w64 (x := n + (l[i].f1.size : Int) + _) (by omega) (by omega)]
    obtain ⟨r, hr, hf⟩ := ih (mn (n + (l[i].f1.size : Int) + (l[i].f2.size : Int)) 1048576) (i + 1) k (by unfold mn; split <;> omega) (by unfold mn; split <;> omega) (by omega) (by omega) (by omega)
    refine ⟨r, hr, fun h => ?_⟩
    obtain ⟨h2, h3, h4⟩ := hf h
    have h5 : n + (l[i].f1.size : Int) + (l[i].f2.size : Int) ≤ 20000 := by unfold mn at h3; split at h3 <;> omega
    refine ⟨h2, by omega, fun x hx => ?_⟩
    rcases List.mem_cons.1 hx with rfl | hx
    · omega
    · exact h4 x hx
theorem much_ok (l : List Step) (hs : ∀ x ∈ l, x.f1.size ≤ 140737488351232 ∧ x.f2.size ≤ 140737488351232) (hl : l.length ≤ 140737488351232) :
    ∃ r, concourselaw26_Much.f (l.length + 1) l = some r ∧ (r = false → l.length ≤ 200 ∧ ∀ x ∈ l, x.f1.size ≤ 20000 ∧ x.f2.size ≤ 20000) := by
  obtain ⟨r, h1, h2⟩ := much_loop l hs hl l.length 0 0 (l.length + 1) (by omega) (by omega) (by omega) (by omega) (by omega)
  refine ⟨r, h1, fun h => ?_⟩
  have := h2 h
  simp only [List.drop_zero] at this
  exact ⟨this.1, this.2.2⟩
end Go.Proofs.Ytnccofpkanhfhaa.Steps
