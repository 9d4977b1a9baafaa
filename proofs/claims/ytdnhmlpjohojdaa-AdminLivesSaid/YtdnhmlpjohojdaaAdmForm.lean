/-
  admin.configures, admin.form: by their contracts.
-/
import Derived.Test.YtdnhmlpjohojdaaCheck
import Derived.Outline
set_option linter.unusedVariables false
set_option linter.unusedSimpArgs false
namespace Go.Proofs.Ytdnhmlpjohojdaa.Adm
open Go.RowKit Go.Proofs.Ytdnhmlpjohojdaa.Tab
/-- An order. -/
structure Order where
  id : Int
  op : Int
  owner : Int
  v : Fin 9 → Int
abbrev cells12 (o : Order) : Array Value := #[.int .u64 o.id, .int .i64 o.op, .int .i64 o.owner, .int .i64 (o.v 0), .int .i64 (o.v 1), .int .i64 (o.v 2), .int .i64 (o.v 3), .int .i64 (o.v 4), .int .i64 (o.v 5), .int .i64 (o.v 6), .int .i64 (o.v 7), .int .i64 (o.v 8)]
abbrev ordV (o : Order) : Value := .agg (cells12 o)
def inRange (o : Order) : Prop := 1 ≤ o.op ∧ o.op ≤ 6 ∧ 1 ≤ o.owner ∧ o.owner ≤ 8
instance (o : Order) : Decidable (inRange o) := by unfold inRange; infer_instance
def formB (o : Order) : Bool := decide (inRange o ∧ ((o.op = 1 ∨ o.op = 6) → okB o.v = true))
theorem configures_yes (op : Int) (h : op = 1 ∨ op = 6) (w : World) : Calls Try.prog 27 #[.int .i64 op] w fun e w' => e = .returned (.bool true) ∧ w = w' := by
  rcases h with rfl | rfl
  all_goals
    go_enter Try.func27, Try.ntmps27
    go_wp2
    go_ret
    exact ⟨rfl, rfl⟩
theorem configures_no (op : Int) (h : ¬ (op = 1 ∨ op = 6)) (w : World) : Calls Try.prog 27 #[.int .i64 op] w fun e w' => e = .returned (.bool false) ∧ w = w' := by
  have h1 : (op == 1) = false := beq_eq_false_iff_ne.2 (by omega)
  have h2 : (op == 6) = false := beq_eq_false_iff_ne.2 (by omega)
  clear h
  go_enter Try.func27, Try.ntmps27
  go_wp2
  go_ret
  exact ⟨rfl, rfl⟩
set_option maxRecDepth 100000 in
set_option maxHeartbeats 1000000 in
theorem form_out (o : Order) (h : ¬ inRange o) (w : World) : Calls Try.prog 25 #[ordV o] w fun e w' => e = .returned (.int .i64 1) ∧ Below w.heap.size w w' := by
  have hB : Below w.heap.size w (w.alloc (.cells (cells12 o) 30)) := (Below.refl _ _).alloc (Nat.le_refl _) _
  have HB := Lib.hid hB
  clear hB
  obtain ⟨id, op, owner, v⟩ := o
  unfold inRange at h
  simp only at h HB ⊢
  by_cases h1 : op < 1
  · clear h
    go_enter Try.func25, Try.ntmps25
    go_wp2
    go_ret
    exact ⟨rfl, HB.out⟩
  · by_cases h2 : 6 < op
    · clear h
      go_enter Try.func25, Try.ntmps25
      go_wp2
      go_ret
      exact ⟨rfl, HB.out⟩
    · by_cases h3 : owner < 1
      · clear h
        go_enter Try.func25, Try.ntmps25
        go_wp2
        go_ret
        exact ⟨rfl, HB.out⟩
      · have h4 : 8 < owner := by omega
        clear h
        go_enter Try.func25, Try.ntmps25
        go_wp2
        go_ret
        exact ⟨rfl, HB.out⟩
set_option maxRecDepth 100000 in
set_option maxHeartbeats 1000000 in
theorem form_in (o : Order) (h : inRange o) (w : World) : Calls Try.prog 25 #[ordV o] w fun e w' => e = .returned (.int .i64 (errB (formB o))) ∧ Below w.heap.size w w' := by
  have hB : Below w.heap.size w (w.alloc (.cells (cells12 o) 30)) := (Below.refl _ _).alloc (Nat.le_refl _) _
  have HB := Lib.hid hB
  clear hB
  obtain ⟨h1, h2, h3, h4⟩ := h
  by_cases hc : o.op = 1 ∨ o.op = 6
  · have HF : Hid (formB o = okB o.v) := by
      show formB o = okB o.v
      unfold formB
      rw [Bool.eq_iff_iff, decide_eq_true_iff]
      exact ⟨fun h => h.2 hc, fun h => ⟨⟨h1, h2, h3, h4⟩, fun _ => h⟩⟩
    have HC := Lib.hid (configures_yes o.op hc)
    clear hc
    obtain ⟨id, op, owner, v⟩ := o
    simp only at h1 h2 h3 h4 HF HC HB ⊢
    go_enter Try.func25, Try.ntmps25
    go_wp2_with (first
      | (go_at_call 27; refine (HC.out _).mono ?_; rintro e w' ⟨rfl, rfl⟩)
      | (go_at_call 47; refine (Check_ v _).mono ?_; rintro e w' ⟨rfl, hb⟩))
    go_ret
    exact ⟨by rw [HF.out]; rfl, HB.out.trans (hb.mono (by simp))⟩
  · have HF : Hid (formB o = true) := by
      show formB o = true
      unfold formB
      exact decide_eq_true ⟨⟨h1, h2, h3, h4⟩, fun h => absurd h hc⟩
    have HC := Lib.hid (configures_no o.op hc)
    clear hc
    obtain ⟨id, op, owner, v⟩ := o
    simp only at h1 h2 h3 h4 HF HC HB ⊢
    go_enter Try.func25, Try.ntmps25
    go_wp2_with (first
      | (go_at_call 27; refine (HC.out _).mono ?_; rintro e w' ⟨rfl, rfl⟩))
    go_ret
    exact ⟨by rw [HF.out]; rfl, HB.out⟩
theorem form_ (o : Order) (w : World) : Calls Try.prog 25 #[ordV o] w fun e w' => e = .returned (.int .i64 (errB (formB o))) ∧ Below w.heap.size w w' := by
  by_cases h : inRange o
  · exact form_in o h w
  · have e : formB o = false := decide_eq_false (fun h' => h h'.1)
    rw [e]
    exact form_out o h w
end Go.Proofs.Ytdnhmlpjohojdaa.Adm
