/-
  concourseref04.Texts: a list of texts and itself are the same.
-/
import Derived.Test.YtnccofpkanhfhaaPure
import Derived.Test.YtnccofpkanhfhaaR23
set_option linter.unusedVariables false
set_option linter.unusedSimpArgs false
namespace Go.Proofs.Ytnccofpkanhfhaa.Texts
open Go.RowKit Go.Proofs.Ytnccofpkanhfhaa.Tab Go.Proofs.Ytnccofpkanhfhaa.Pure Go.Proofs.Ytnccofpkanhfhaa.R Go.Proofs.YtnccofpkanhfhaaW.PrintWords Go.Proofs.YtnccofpkanhfhaaW.PrintMore
theorem texts_loop (ns : List ByteArray) (hn : ns.length ≤ 8796093022207) (d : Nat) : ∀ (i k : Nat), ns.length - i = d → i ≤ ns.length → d < k → concourseref04_Texts.l0 k ns ns i = some true := by
  induction d with
  | zero =>
    intro i k hd hi hk
    obtain ⟨k, rfl⟩ : ∃ m, k = m + 1 := ⟨k - 1, by omega⟩
    simp only [concourseref04_Texts.l0]
    rw [if_neg (by omega)]
  | succ d ih =>
    intro i k hd hi hk
    obtain ⟨k, rfl⟩ : ∃ m, k = m + 1 := ⟨k - 1, by omega⟩
    simp only [concourseref04_Texts.l0]
    rw [if_pos (by omega), if_pos (by omega), if_pos (by omega), if_pos trivial, w64 (x := (i : Int) + 1) (by omega) (by omega)]
    exact ih (i + 1) k (by omega) (by omega) (by omega)
theorem texts_same (ns : List ByteArray) (hn : ns.length ≤ 8796093022207) : concourseref04_Texts.f (ns.length + 1) ns ns = some true := by
  unfold concourseref04_Texts.f
  rw [if_pos rfl]
  exact texts_loop ns hn ns.length 0 _ (by omega) (by omega) (by omega)
/-- Two slices, that hold one list. -/
theorem Texts_same {W : World} {A B : Option Addr} {c d n m : Nat} {ns : List ByteArray} (hA : Kd.C Kd.string W A ns.length ns) (hc : ns.length ≤ c) (hB : Kd.C Kd.string W B ns.length ns) (hd : ns.length ≤ d) (hn : ns.length ≤ 8796093022207) (en : ns.length = n) (em : ns.length = m) :
    Calls Try.prog 23 #[.slice A n c, .slice B m d] W fun e w' => e = .returned (.bool true) ∧ Below W.heap.size W w' := by
  subst en; subst em
  exact (concourseref04_Texts.calls _ A c ns B d ns true W hA hc hB hd (texts_same ns hn)).mono fun e w' ⟨he, hd⟩ => ⟨he, hd.below⟩
end Go.Proofs.Ytnccofpkanhfhaa.Texts
