/-
  concourselaw27: the chapter's example, and a book that is not there.
-/
import Derived.Test.YtnccofpkanhfhaaCounter
import Derived.Test.YtnccofpkanhfhaaKeys
set_option linter.unusedVariables false
set_option linter.unusedSimpArgs false
namespace Go.Proofs.Ytnccofpkanhfhaa.Counter
open Go.RowKit Go.Maps Go.WideMaps Go.Proofs.Ytnccofpkanhfhaa.Tab
def sA : ByteArray := ⟨#[97]⟩
theorem ex1 : tput ks [] sA (wrap64 (val [] sA + 5)) = [(sA, 5)] := by kernel_rfl
theorem ex2 : (0 : Int) + grows [] sA = 25 := by kernel_rfl
theorem ex3 : wrap64 (val [(sA, 5)] sA + -7) = -2 := by kernel_rfl
theorem ex4 : (25 : Int) + grows [(sA, 5)] sA = 25 := by kernel_rfl
set_option maxRecDepth 100000 in
set_option maxHeartbeats 1000000 in
theorem awake (w : World) : Calls Try.prog 15 #[] w fun e w' => e = .returned (.bool true) ∧ Below w.heap.size w w' := by
  go_enter Try.func15, Try.ntmps15
  go_wp2_with (go_at_call 16; refine (New _).mono ?_; rintro e w' ⟨rfl, rfl⟩)
  refine (Add (made w 0) sA (by decide) 5 (by decide) (by decide) (by unfold maxLen; decide)).mono ?_
  rintro e w1 ⟨rfl, b, hb, h1, t1⟩
  rw [ex1, ex2] at h1
  have B1 : Below w.heap.size w w1 := ((Below.refl _ w).alloc (Nat.le_refl _) _).trans (t1.under (by simp) (Nat.le_refl _) (fun k hk => by subst hk; rcases hb with hb | ⟨_, hb⟩ <;> simp at hb; omega))
  have hbB : w.heap.size ≤ b := by rcases hb with hb | ⟨_, hb⟩ <;> simp at hb; omega
  clear hb t1
  go_wp2_with fail
  refine (Add h1 sA (by decide) (-7) (by decide) (by decide) (by unfold maxLen; decide)).mono ?_
  rintro e w2 ⟨rfl, b2, hb2, h2, t2⟩
  rw [ex4] at h2
  rw [ex3]
  have B2 : Below w.heap.size w w2 := B1.trans (t2.under B1.size (Nat.le_refl _) (fun k hk => by subst hk; rcases hb2 with hb2 | ⟨hb2, _⟩ <;> simp at hb2; omega))
  clear hb2 t2
  go_wp2_with (go_at_call 22; refine (Size_ h2).mono ?_; rintro e w' ⟨rfl, rfl⟩)
  go_ret
  exact ⟨rfl, B2⟩
theorem grows_nil_list (s : ByteArray) : grows [] s = 24 + s.size := rfl
set_option maxRecDepth 100000 in
set_option maxHeartbeats 1000000 in
theorem CounterNone_walk (w : World) (name : ByteArray) (hs : name.size ≤ 140737488351232) (n : Int) (_ : (Lit.int .i64 n).wf = true) :
    Calls Try.prog 5 #[.string name, .int .i64 n] w fun e w' => e = .returned (.bool true) ∧ Below w.heap.size w w' := by
  have hG := hid (Grows_nil name hs)
  have hM := hid (fun W : World => Grows (made W 0) name hs)
  clear hs
  go_enter Try.func5, Try.ntmps5
  go_wp2_with (first
    | (go_at_call 19; refine (Add_nil _ _ _).mono ?_; rintro e w' ⟨rfl, rfl⟩)
    | (go_at_call 21; refine (Value_nil _ _).mono ?_; rintro e w' ⟨rfl, rfl⟩)
    | (go_at_call 22; refine (Size_nil _).mono ?_; rintro e w' ⟨rfl, rfl⟩))
  refine (hG.out _).mono ?_
  rintro e w' ⟨rfl, rfl⟩
  go_wp2_with (go_at_call 16; refine (New _).mono ?_; rintro e w' ⟨rfl, rfl⟩)
  refine (hM.out _).mono ?_
  rintro e w' ⟨rfl, rfl⟩
  rw [grows_nil_list]
  go_wp2_with (first
    | (go_at_call 24; refine (counter_nil _).mono ?_; rintro e w' ⟨rfl, rfl⟩)
    | (go_at_call 15; refine (awake _).mono ?_; rintro e w' ⟨rfl, hB⟩))
  go_ret
  exact ⟨rfl, ((Below.refl _ _).alloc (Nat.le_refl _) _).trans (hB.mono (by simp))⟩
end Go.Proofs.Ytnccofpkanhfhaa.Counter
