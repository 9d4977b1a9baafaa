/-
  Queues, in plain Lean: what the document's functions answer of rows.
-/
import Derived.Test.YtnccofpkanhfhaaCounterPure
import Derived.Test.YtnccofpkanhfhaaFifoSt
import Derived.Test.YtnccofpkanhfhaaRefPop
import Derived.Test.YtnccofpkanhfhaaR43
import Derived.Test.YtnccofpkanhfhaaR49
import Derived.Test.YtnccofpkanhfhaaR51
set_option linter.unusedVariables false
set_option linter.unusedSimpArgs false
set_option linter.unusedSectionVars false
namespace Go.Proofs.Ytnccofpkanhfhaa.Fifo
open Go.RowKit Go.Proofs.Ytnccofpkanhfhaa.Tab Go.Proofs.Ytnccofpkanhfhaa.Pure Go.Proofs.Ytnccofpkanhfhaa.R Go.Proofs.YtnccofpkanhfhaaW.PrintWords Go.Proofs.YtnccofpkanhfhaaW.PrintMore
abbrev Row := S71
abbrev z := z71
abbrev Row27 := S28
theorem rd_eq (l : List Row) (i : Int) : rd_T71 l i = l.getD i.toNat z := rfl
theorem drop_at {α : Type} (l : List α) (x : α) {i : Nat} (h : i < l.length) : l.drop i = l.getD i x :: l.drop (i + 1) := by
  rw [List.drop_eq_getElem_cons h]
  simp [List.getD_eq_getElem?_getD, List.getElem?_eq_getElem h]
def r27 (x : Row) : Row27 := ⟨x.f0, 0⟩
/-- The texts of a name, in a row. -/
def under (R : List Row) (u : ByteArray) : List ByteArray := (R.filter fun x => decide (x.f0 = u)).map fun x => x.f1
def rtot (R : List Row) : Int := (R.map fun x => 16 + (x.f1.size : Int)).sum
def sumN (ns : List ByteArray) : Int := (ns.map fun s => 16 + (s.size : Int)).sum
theorem rtot_nonneg (R : List Row) : 0 ≤ rtot R := by
  unfold rtot
  induction R with
  | nil => exact Int.le_refl _
  | cons t r ih => simp only [List.map_cons, List.sum_cons]; omega
theorem sumN_nonneg (ns : List ByteArray) : 0 ≤ sumN ns := by
  unfold sumN
  induction ns with
  | nil => exact Int.le_refl _
  | cons t r ih => simp only [List.map_cons, List.sum_cons]; omega
section
variable (l : List Row) (ns : List ByteArray) (hn : ns.Pairwise lt) (hm : ∀ x, x ∈ ns ↔ x ∈ l.map (fun x => x.f0)) (hl : l.length ≤ 1000000) (hnl : ns.length ≤ 1000000)
include hn hm hl hnl
theorem names27 : ∃ K, ∀ k, K ≤ k → concourseref27_Names.f k (l.map r27) = some ns := by
  have h := Counter.names_ok (l.map r27) ns hn (fun x => by rw [hm, List.map_map]; exact Iff.rfl) (by rw [List.length_map]; omega) (by omega)
  exact Ev.of (concourseref27_Names.mono (l.map r27)) h
theorem names_loop (K : Nat) (hK : ∀ k, K ≤ k → concourseref27_Names.f k (l.map r27) = some ns) (d : Nat) : ∀ (i k : Nat), l.length - i = d → i ≤ l.length → d + 1 + K ≤ k → concourseref28_Names.l0 k l ((l.take i).map r27) i = some ns := by
  induction d with
  | zero =>
    intro i k hd hi hk
    obtain ⟨k, rfl⟩ : ∃ m, k = m + 1 := ⟨k - 1, by omega⟩
    simp only [concourseref28_Names.l0]
    rw [if_neg (by omega), List.take_of_length_le (by omega), hK k (by omega)]
    rfl
  | succ d ih =>
    intro i k hd hi hk
    obtain ⟨k, rfl⟩ : ∃ m, k = m + 1 := ⟨k - 1, by omega⟩
    have hlt : i < l.length := by omega
    simp only [concourseref28_Names.l0]
    rw [if_pos (by omega), if_pos (by omega), if_pos (by simp; omega), rd_eq, Int.toNat_natCast, w64 (x := (i : Int) + 1) (by omega) (by omega)]
    have := ih (i + 1) k (by omega) (by omega) (by omega)
    rw [List.take_succ_eq_append_getElem hlt, List.map_append] at this
    have e : l.getD i z = l[i] := by simp [List.getD_eq_getElem?_getD, List.getElem?_eq_getElem hlt]
    rw [e]
    exact this
theorem names_ev : ∃ K, ∀ k, K ≤ k → concourseref28_Names.f k l = some ns := by
  obtain ⟨K, hK⟩ := names27 l ns hn hm hl hnl
  exact ⟨l.length + 1 + K, fun k hk => names_loop l ns hn hm hl hnl K hK l.length 0 k (by omega) (by omega) hk⟩
theorem size1_loop (n0 : Int) (h0 : 0 ≤ n0) (hb : n0 + sumN ns ≤ 9223372036854775807) (d : Nat) : ∀ (n : Int) (i k : Nat), ns.length - i = d → i ≤ ns.length → 0 ≤ n → n + sumN (ns.drop i) ≤ 9223372036854775807 → d < k → concourseref28_Size.l1 k n ns i = some (n + sumN (ns.drop i)) := by
  induction d with
  | zero =>
    intro n i k hd hi h0 hn hk
    obtain ⟨k, rfl⟩ : ∃ m, k = m + 1 := ⟨k - 1, by omega⟩
    simp only [concourseref28_Size.l1]
    rw [if_neg (by omega), List.drop_eq_nil_of_le (by omega)]
    simp [sumN]
  | succ d ih =>
    intro n i k hd hi h0 hn hk
    obtain ⟨k, rfl⟩ : ∃ m, k = m + 1 := ⟨k - 1, by omega⟩
    have hlt : i < ns.length := by omega
    have hr : rdOf ByteArray.empty ns i = ns.getD i ByteArray.empty := rfl
    rw [drop_at ns ByteArray.empty hlt] at hn ⊢
    have hnn := sumN_nonneg (ns.drop (i + 1))
    simp only [sumN, List.map_cons, List.sum_cons] at hn hnn ⊢
    simp only [concourseref28_Size.l1]
    rw [if_pos (by omega), if_pos (by omega), hr, w64 (x := (i : Int) + 1) (by omega) (by omega), w64 (x := 16 + _) (by omega) (by omega), w64 (x := n + _) (by omega) (by omega)]
    have := ih (n + (16 + ((ns.getD i ByteArray.empty).size : Int))) (i + 1) k (by omega) (by omega) (by omega) (by simp only [sumN]; omega) (by omega)
    rw [show ((i : Int) + 1) = ((i + 1 : Nat) : Int) by omega, this]
    simp only [sumN]
    congr 1
    omega
theorem size0_loop (K : Nat) (hK : ∀ k, K ≤ k → concourseref28_Names.f k l = some ns) (hb : rtot l + sumN ns ≤ 9223372036854775807) (d : Nat) : ∀ (n : Int) (i k : Nat), l.length - i = d → i ≤ l.length → 0 ≤ n → n + rtot (l.drop i) = rtot l → d + 1 + (K + ns.length + 1) ≤ k → concourseref28_Size.l0 k l n i = some (rtot l + sumN ns) := by
  have hs0 := sumN_nonneg ns
  induction d with
  | zero =>
    intro n i k hd hi h0 hn hk
    obtain ⟨k, rfl⟩ : ∃ m, k = m + 1 := ⟨k - 1, by omega⟩
    simp only [concourseref28_Size.l0]
    rw [if_neg (by omega), hK k (by omega)]
    rw [List.drop_eq_nil_of_le (by omega)] at hn
    simp only [rtot, List.map_nil, List.sum_nil] at hn
    simp only [Option.bind_some]
    have := size1_loop l ns ‹_› hm hl hnl n h0 (by simp only [rtot] at hb ⊢; omega) ns.length n 0 k (by omega) (by omega) h0 (by rw [List.drop_zero]; simp only [rtot] at hb ⊢; omega) (by omega)
    rw [List.drop_zero] at this
    rw [show (0 : Int) = ((0 : Nat) : Int) from rfl, this]
    simp only [rtot]
    congr 1
    omega
  | succ d ih =>
    intro n i k hd hi h0 hn hk
    obtain ⟨k, rfl⟩ : ∃ m, k = m + 1 := ⟨k - 1, by omega⟩
    have hlt : i < l.length := by omega
    rw [drop_at l z hlt] at hn
    have hnn := rtot_nonneg (l.drop (i + 1))
    simp only [rtot, List.map_cons, List.sum_cons] at hn hnn
    simp only [rtot] at hb
    simp only [concourseref28_Size.l0]
    rw [if_pos (by omega), if_pos (by omega), rd_eq, Int.toNat_natCast, w64 (x := (i : Int) + 1) (by omega) (by omega), w64 (x := 16 + _) (by omega) (by omega), w64 (x := n + _) (by omega) (by omega)]
    exact ih (n + (16 + ((l.getD i z).f1.size : Int))) (i + 1) k (by omega) (by omega) (by omega) (by simp only [rtot]; omega) (by omega)
theorem size_ok (hb : rtot l + sumN ns ≤ 9223372036854775807) : ∃ k, concourseref28_Size.f k l = some (rtot l + sumN ns) := by
  obtain ⟨K, hK⟩ := names_ev l ns hn hm hl hnl
  exact ⟨l.length + 1 + (K + ns.length + 1), size0_loop l ns hn hm hl hnl K hK hb l.length 0 0 _ (by omega) (by omega) (Int.le_refl _) (by rw [List.drop_zero]; omega) (Nat.le_refl _)⟩
end
theorem waits_loop (l : List Row) (s : ByteArray) (hl : l.length ≤ 1000000) (d : Nat) : ∀ (n i k : Nat), l.length - i = d → i ≤ l.length → n ≤ i → d < k → concourseref28_Waits.l0 k l s n i = some (((n + (under (l.drop i) s).length : Nat) : Int)) := by
  induction d with
  | zero =>
    intro n i k hd hi hn hk
    obtain ⟨k, rfl⟩ : ∃ m, k = m + 1 := ⟨k - 1, by omega⟩
    simp only [concourseref28_Waits.l0]
    rw [if_neg (by omega), List.drop_eq_nil_of_le (by omega)]
    simp [under]
  | succ d ih =>
    intro n i k hd hi hn hk
    obtain ⟨k, rfl⟩ : ∃ m, k = m + 1 := ⟨k - 1, by omega⟩
    have hlt : i < l.length := by omega
    simp only [concourseref28_Waits.l0]
    rw [if_pos (by omega), if_pos (by omega), rd_eq, Int.toNat_natCast, w64 (x := (i : Int) + 1) (by omega) (by omega), w64 (x := (n : Int) + 1) (by omega) (by omega), drop_at l z hlt]
    simp only [under, List.filter_cons, toList_inj]
    by_cases e : (l.getD i z).f0 = s
    · rw [if_pos e, decide_eq_true e, if_pos rfl]
      have := ih (n + 1) (i + 1) k (by omega) (by omega) (by omega) (by omega)
      rw [show ((n : Int) + 1) = ((n + 1 : Nat) : Int) by omega, show ((i : Int) + 1) = ((i + 1 : Nat) : Int) by omega, this]
      simp only [under, List.map_cons, List.length_cons]
      congr 2
      omega
    · rw [if_neg e, decide_eq_false e]
      simp only [Bool.false_eq_true, if_false]
      exact ih n (i + 1) k (by omega) (by omega) (by omega) (by omega)
theorem waits_ok (l : List Row) (s : ByteArray) (hl : l.length ≤ 1000000) : ∃ k, concourseref28_Waits.f k l s = some ((under l s).length : Int) :=
  ⟨l.length + 1, by
    have := waits_loop l s hl l.length 0 0 _ (by omega) (by omega) (Nat.le_refl _) (Nat.lt_succ_self _)
    rw [List.drop_zero, Nat.zero_add] at this
    exact this⟩
/-! ### what a push, a pop does to the rows -/
theorem under_snoc (R : List Row) (x : Row) (u : ByteArray) : under (R ++ [x]) u = if u = x.f0 then under R u ++ [x.f1] else under R u := by
  unfold under
  rw [List.filter_append, List.map_append, List.filter_cons]
  by_cases e : u = x.f0
  · rw [if_pos e, decide_eq_true e.symm]; rfl
  · rw [if_neg e, decide_eq_false (fun h => e h.symm)]; simp
theorem rtot_snoc (R : List Row) (x : Row) : rtot (R ++ [x]) = rtot R + (16 + x.f1.size) := by simp [rtot]
/-- The first one of a name, or none. -/
theorem first_of (R : List Row) (s : ByteArray) : (∀ i (h : i < R.length), R[i].f0 ≠ s) ∨ ∃ (j : Nat) (h : j < R.length), R[j].f0 = s ∧ ∀ i (h : i < R.length), i < j → R[i].f0 ≠ s := by
  induction R with
  | nil => exact .inl (fun i h => absurd h (by simp))
  | cons x r ih =>
    by_cases e : x.f0 = s
    · exact .inr ⟨0, by simp, e, fun i _ h => absurd h (by omega)⟩
    · rcases ih with h | ⟨j, hj, h1, h2⟩
      · refine .inl (fun i hi => ?_)
        cases i with
        | zero => exact e
        | succ i => exact h i (by simpa using hi)
      · refine .inr ⟨j + 1, by simpa using hj, h1, fun i hi hlt => ?_⟩
        cases i with
        | zero => exact e
        | succ i => exact h2 i (by simpa using hi) (by omega)
theorem under_none {R : List Row} {s : ByteArray} (h : ∀ i (h : i < R.length), R[i].f0 ≠ s) : under R s = [] := by
  unfold under
  rw [List.filter_eq_nil_iff.2]
  · rfl
  · intro x hx
    obtain ⟨i, hi, rfl⟩ := List.mem_iff_getElem.1 hx
    simpa using h i hi
theorem under_split {R : List Row} {j : Nat} (hj : j < R.length) (hno : ∀ i (h : i < R.length), i < j → R[i].f0 ≠ R[j].f0) (u : ByteArray) :
    (under R R[j].f0 = R[j].f1 :: under (R.take j ++ R.drop (j + 1)) R[j].f0) ∧ (u ≠ R[j].f0 → under (R.take j ++ R.drop (j + 1)) u = under R u) := by
  have hs : R = R.take j ++ R[j] :: R.drop (j + 1) := by rw [← List.drop_eq_getElem_cons hj, List.take_append_drop]
  have hs' : ∀ v, under R v = under (R.take j ++ R[j] :: R.drop (j + 1)) v := fun v => congrArg (fun l => under l v) hs
  have ht : under (R.take j) R[j].f0 = [] := under_none (fun i hi => by
    rw [List.length_take] at hi
    rw [List.getElem_take]
    exact hno i (by omega) (by omega))
  have ha : ∀ (a b : List Row) v, under (a ++ b) v = under a v ++ under b v := fun a b v => by unfold under; rw [List.filter_append, List.map_append]
  have hc : ∀ (x : Row) (b : List Row) v, under (x :: b) v = if v = x.f0 then x.f1 :: under b v else under b v := fun x b v => by
    unfold under
    rw [List.filter_cons]
    by_cases e : v = x.f0
    · rw [if_pos e, decide_eq_true e.symm, if_pos rfl]; rfl
    · rw [if_neg e, decide_eq_false (fun h => e h.symm)]; simp
  refine ⟨?_, fun hu => ?_⟩
  · rw [hs', ha, hc, if_pos rfl, ht, ha, ht]; rfl
  · rw [hs' u, ha, ha, hc, if_neg hu]
theorem rtot_split {R : List Row} {j : Nat} (hj : j < R.length) : rtot (R.take j ++ R.drop (j + 1)) = rtot R - (16 + R[j].f1.size) := by
  have hs : R = R.take j ++ R[j] :: R.drop (j + 1) := by rw [← List.drop_eq_getElem_cons hj, List.take_append_drop]
  have e := congrArg rtot hs
  unfold rtot at e ⊢
  rw [List.map_append, List.sum_append, List.map_cons, List.sum_cons] at e
  rw [List.map_append, List.sum_append]
  omega
theorem mem_under (R : List Row) (u : ByteArray) : u ∈ R.map (fun x => x.f0) ↔ under R u ≠ [] := by
  unfold under
  rw [Ne, List.map_eq_nil_iff, List.filter_eq_nil_iff]
  simp only [List.mem_map, decide_eq_true_eq]
  constructor
  · rintro ⟨x, hx, rfl⟩ h
    exact h x hx rfl
  · intro h
    refine Classical.byContradiction fun h' => h (fun x hx e => h' ⟨x, hx, e⟩)
theorem nm_sum (M : Tabl) : nm M = sumN (M.map fun p => p.1) := by unfold nm wt sumN; rw [List.map_map]; rfl
end Go.Proofs.Ytnccofpkanhfhaa.Fifo
