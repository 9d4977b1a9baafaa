/-
  admin.Book's All: who lives, rising.
-/
import Derived.Test.YtdnhmlpjohojdaaShelf
import Derived.Test.YtdnhmlpjohojdaaBookDone
import Derived.OwnWalkIn
import Derived.TacticsInMore
set_option linter.unusedVariables false
set_option linter.unusedSimpArgs false
namespace Go.Proofs.Ytdnhmlpjohojdaa.Adm.Bk
open Go.RowKit Go.Maps Go.WideMaps Go.Sort Go.Proofs.Ytdnhmlpjohojdaa.Tab Go.Proofs.Ytdnhmlpjohojdaa.Adm
theorem intKeys_dat (M : Mp) : intKeys (dat ki tenV M) = M.map fun p => p.1 := by
  show (M.map _).map _ = _
  rw [List.map_map]
  rfl
theorem ki_one : OneKey ki := fun a b => ⟨fun h => by simpa [ki, Lit.sameKey] using h, fun h => by subst h; simp [ki, Lit.sameKey]⟩
theorem ki_before {a b : Int} : (ki a).before (ki b) = true ↔ a < b := by simp [ki, Lit.before]
theorem keys_sortI {M : Mp} (hr : Rising ki M) {ss : List Int} (hp : ss.Perm (M.map fun p => p.1)) : ss.mergeSort (fun x y => decide (x ≤ y)) = M.map fun p => p.1 := by
  have h2 : (M.map fun p => p.1).Pairwise (fun a b : Int => a ≤ b) := by
    rw [List.pairwise_map]
    exact hr.imp (fun h => Int.le_of_lt (ki_before.1 h))
  have h1 := List.pairwise_mergeSort (le := fun x y : Int => decide (x ≤ y)) (fun a b c hab hbc => by simp at *; omega) (fun a b => by simp; omega) ss
  exact List.Perm.eq_of_pairwise (le := fun a b : Int => a ≤ b) (fun a b _ _ hab hba => by omega) (h1.imp (fun h => by simpa using h)) h2 ((List.mergeSort_perm ss _).trans hp)
def ownersV (M : Mp) : List Value := M.map fun p => .int .i64 p.1
set_option maxRecDepth 100000 in
set_option maxHeartbeats 1000000 in
theorem All_ {w : World} {bs n : Nat} {mb : Option Nat} {M : Mp} (h : BookAt w bs mb n M) (hn : n ≤ 1048576) :
    Calls Try.prog 24 #[.pointer (some ⟨bs, 0, none⟩)] w fun e w' => ∃ u, e = .returned u ∧ w'.ownsRow w.heap.size 3 1 u M.length (ownersV M) ∧ Below w.heap.size w w' := by
  have c0 := h.c0
  have hrise := Lib.hid (h.map.rising lawB)
  refine (callsIn_wide (n := 6)).1 ?_
  have hfK : Fence.wide.fn 46 := trivial
  have hfS : Fence.wide.fn 45 := trivial
  cases mb with
  | none =>
    have hM : M = [] := h.map
    subst hM
    have cS := Lib.hid (Try.slices_Sorted_keys_nil_45_46 w)
    clear h
    refine callsIn_of_wp Try.func24 rfl trivial ?_ rfl
    simp only [Try.ntmps24, List.size_toArray, List.length_cons, List.length_nil, Nat.reduceAdd, Nat.reduceSub, Array.replicate_succ, Array.replicate_zero, List.push_toArray, List.append_toArray, List.nil_append, List.cons_append]
    gi_wp2_with (first
      | (gi_at_call 46; refine (Try.maps_Keys_46 _ _).mono ?_; rintro e w' ⟨rfl, rfl⟩)
      | (gi_at_call 45; refine cS.out.mono ?_; rintro e w' ⟨v, ss, rfl, rfl, hrow, hnil, hb⟩; obtain rfl : v = .slice none 0 0 := hnil.2 rfl))
    go_ret
    exact ⟨_, rfl, World.ownsRow_nil _ _ _ _, ((Below.refl _ w).alloc (Nat.le_refl _) _).trans (hb.mono (by simp))⟩
  | some b =>
    have hown : w.ownsMap Try.prog 3 heldR b n (dat ki tenV M) := h.map
    have hsz : Maps.size (dat ki tenV M) ≤ n := hown.size_le
    have cS := Lib.hid (Try.slices_Sorted_keys_45_46 b n (dat ki tenV M) heldR w hown (by unfold maxLen; omega) (by omega))
    clear h hown
    refine callsIn_of_wp Try.func24 rfl trivial ?_ rfl
    simp only [Try.ntmps24, List.size_toArray, List.length_cons, List.length_nil, Nat.reduceAdd, Nat.reduceSub, Array.replicate_succ, Array.replicate_zero, List.push_toArray, List.append_toArray, List.nil_append, List.cons_append]
    gi_wp2_with (first
      | (gi_at_call 46; refine (Try.maps_Keys_46 _ _).mono ?_; rintro e w' ⟨rfl, rfl⟩)
      | (gi_at_call 45; refine cS.out.mono ?_; rintro e w' ⟨v, ss, rfl, hS, hrow, hnil, hb⟩))
    go_ret
    rw [intKeys_dat] at hS
    rw [keys_sortI hrise.out hS] at hrow
    have hl : ss.length = M.length := by have := hS.length_eq; simpa using this
    rw [hl] at hrow
    have he : (M.map fun p => p.1).map encZ = ownersV M := by
      unfold ownersV
      rw [List.map_map]
      rfl
    rw [he] at hrow
    exact ⟨v, rfl, ownsRow_base_a hrow (by simp), ((Below.refl _ w).alloc (Nat.le_refl _) _).trans (hb.mono (by simp))⟩
end Go.Proofs.Ytdnhmlpjohojdaa.Adm.Bk
