/-
  concourselaw29: the chapter's example.
-/
import Derived.Test.YtnccofpkanhfhaaLeasePure
set_option linter.unusedVariables false
set_option linter.unusedSimpArgs false
namespace Go.Proofs.Ytnccofpkanhfhaa.Lease
open Go.RowKit Go.Maps Go.WideMaps Go.Proofs.Ytnccofpkanhfhaa.Tab
def sX : ByteArray := ⟨#[120]⟩
def sU : ByteArray := ⟨#[117]⟩
theorem ex1 : tput ks [] sX (sU, till 5 10) = [(sX, (sU, 15))] := by kernel_rfl
theorem ex2 : (0 : Int) + grows [] sX sU = 26 := by kernel_rfl
theorem ex3 : val [(sX, (sU, 15))] sX = (sU, 15) := by kernel_rfl
theorem ex4 : (tlook ks [(sX, (sU, (15 : Int)))] sX).isSome = true := by kernel_rfl
theorem ex6 : sU.toList = [117] := by kernel_rfl
theorem ex5 : val [] sX = (⟨#[]⟩, 0) := by kernel_rfl
set_option maxRecDepth 100000 in
set_option maxHeartbeats 1000000 in
theorem awake (w : World) : Calls Try.prog 53 #[] w fun e w' => e = .returned (.bool true) ∧ Below w.heap.size w w' := by
  go_enter Try.func53, Try.ntmps53
  go_wp2_with (go_at_call 54; refine (New _).mono ?_; rintro e w' ⟨rfl, rfl⟩)
  refine (Take (made w 0) sX sU (by decide) (by decide) (.inl ex5) 5 10 (by decide) (by decide) (by unfold maxLen; decide)).mono ?_
  rintro e w1 ⟨rfl, b, hb, h1, t1⟩
  rw [ex1, ex2] at h1
  have B1 : Below w.heap.size w w1 := ((Below.refl _ w).alloc (Nat.le_refl _) _).trans (t1.under (by simp) (Nat.le_refl _) (fun k hk => by subst hk; rcases hb with hb | ⟨_, hb⟩ <;> simp at hb; omega))
  clear hb t1
  go_wp2_with fail
  refine (Holder_ h1 sX (by decide)).mono ?_
  rintro e w2 ⟨rfl, b2⟩
  rw [ex3, ex4]
  have h6 := ex6
  replace h1 := h1.below b2
  replace B1 : Below w.heap.size w w2 := B1.trans (b2.mono B1.size)
  clear b2
  go_wp2_with (go_at_call 64; refine (Size_ h1).mono ?_; rintro e w' ⟨rfl, rfl⟩)
  go_ret
  exact ⟨rfl, B1⟩
end Go.Proofs.Ytnccofpkanhfhaa.Lease
