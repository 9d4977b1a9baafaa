/-
  concourselaw26: the chapter's example, and a store that is not there.
-/
import Derived.Test.YtnccofpkanhfhaaKv
import Derived.Test.YtnccofpkanhfhaaKeys
set_option linter.unusedVariables false
set_option linter.unusedSimpArgs false
namespace Go.Proofs.Ytnccofpkanhfhaa.Kv
open Go.RowKit Go.Maps Go.WideMaps Go.Proofs.Ytnccofpkanhfhaa.Tab
def sA : ByteArray := ⟨#[97]⟩
def sXY : ByteArray := ⟨#[120, 121]⟩
theorem ex1 : tput ks [] sA sXY = [(sA, sXY)] := by kernel_rfl
theorem ex2 : (0 : Int) + grows [] sA sXY = 19 := by kernel_rfl
theorem ex3 : val [(sA, sXY)] sA = sXY := by kernel_rfl
theorem ex4 : (tlook ks [(sA, sXY)] sA).isSome = true := by kernel_rfl
theorem ex6 : sXY.toList = [120, 121] := by kernel_rfl
theorem ex5 : val [] sA = ⟨#[]⟩ := by kernel_rfl
set_option maxRecDepth 100000 in
set_option maxHeartbeats 1000000 in
theorem awake (w : World) : Calls Try.prog 27 #[] w fun e w' => e = .returned (.bool true) ∧ Below w.heap.size w w' := by
  go_enter Try.func27, Try.ntmps27
  go_wp2_with (go_at_call 28; refine (New _).mono ?_; rintro e w' ⟨rfl, rfl⟩)
  refine (Put (made w 0) sA sXY (by decide) (by decide) (by rw [ex5]; decide) (by decide) (by decide) (by unfold maxLen; decide)).mono ?_
  rintro e w1 ⟨rfl, b, hb, h1, t1⟩
  rw [ex1, ex2] at h1
  have B1 : Below w.heap.size w w1 := ((Below.refl _ w).alloc (Nat.le_refl _) _).trans (t1.under (by simp) (Nat.le_refl _) (fun k hk => by subst hk; rcases hb with hb | ⟨_, hb⟩ <;> simp at hb; omega))
  clear hb t1
  go_wp2_with fail
  refine (Get_ h1 sA (by decide)).mono ?_
  rintro e w2 ⟨rfl, b2⟩
  rw [ex3, ex4]
  have h6 := ex6
  replace h1 := h1.below b2
  replace B1 : Below w.heap.size w w2 := B1.trans (b2.mono B1.size)
  clear b2
  go_wp2_with (go_at_call 37; refine (Size_ h1).mono ?_; rintro e w' ⟨rfl, rfl⟩)
  go_ret
  exact ⟨rfl, B1⟩
theorem grows_nil_list (s v : ByteArray) : grows [] s v = 16 + (s.size : Int) + (v.size : Int) := by
  unfold grows has
  rw [if_neg (by simp [tlook])]
  omega
theorem val_nil_list (s : ByteArray) : val [] s = ⟨#[]⟩ := rfl
set_option maxRecDepth 100000 in
set_option maxHeartbeats 1000000 in
theorem KvNone_walk (w : World) (k : ByteArray) (hk : k.size ≤ 140737488351232) (v : ByteArray) (hv : v.size ≤ 140737488351232) :
    Calls Try.prog 8 #[.string k, .string v] w fun e w' => e = .returned (.bool true) ∧ Below w.heap.size w w' := by
  have hG := hid (fun W => Grows_nil k v W hk hv)
  have hM := hid (fun W : World => Grows (made W 0) k v hk hv (by rw [val_nil_list]; decide))
  clear hk hv
  go_enter Try.func8, Try.ntmps8
  go_wp2_with (first
    | (go_at_call 34; refine (Put_nil _ _ _).mono ?_; rintro e w' ⟨rfl, rfl⟩)
    | (go_at_call 29; refine (Get_nil _).mono ?_; rintro e w' ⟨rfl, rfl⟩)
    | (go_at_call 35; refine (Del_nil _ _).mono ?_; rintro e w' ⟨rfl, rfl⟩)
    | (go_at_call 37; refine (Size_nil _).mono ?_; rintro e w' ⟨rfl, rfl⟩))
  refine (hG.out _).mono ?_
  rintro e w' ⟨rfl, rfl⟩
  go_wp2_with (go_at_call 28; refine (New _).mono ?_; rintro e w' ⟨rfl, rfl⟩)
  refine (hM.out _).mono ?_
  rintro e w1 ⟨rfl, hB1⟩
  rw [grows_nil_list]
  go_wp2_with (first
    | (go_at_call 38; refine (kv_nil _).mono ?_; rintro e w' ⟨rfl, rfl⟩)
    | (go_at_call 27; refine (awake _).mono ?_; rintro e w2 ⟨rfl, hB⟩))
  go_ret
  have B0 := ((Below.refl _ _).alloc (Nat.le_refl _) _).trans (hB1.mono (by simp))
  exact ⟨rfl, B0.trans (hB.mono B0.size)⟩
end Go.Proofs.Ytnccofpkanhfhaa.Kv
