/-
  A region that draws its order, whose operations only read and whose calls keep a property of the world: walked once, in the order of the text.
-/
import Derived.Deep.Quiet
import Derived.Deep.QuietTactic
import Derived.BigQuiet
import Derived.Below
set_option linter.unusedVariables false
set_option linter.unusedSimpArgs false
namespace Go.Proofs.YtnccofpkanhfhaaGreatDoor.Line
open Go.RowKit
/-- A world of which F holds. -/
structure Cls (F : World → Prop) where
  W : World
  h : F W
variable {P : Program} {F : World → Prop}
theorem wp_region_cls {id : Nat} {Q : Exit → Act → World → Prop} {a : Act} {w : World} {l : List Oper} (hm : P.follows .mixedOrders = true) (hB : Region.lexB .any l.toArray = true) (hF : F w.drew)
    (h : wpQuiet P l.toArray (fun w' => ∃ d : Cls F, w' = d.W) (fun a' => ∀ W', F W' → Q .normal a' W') l a) : (Code.region id l.toArray true).wp P Q a w := by
  refine wp_region_quiet (C := fun w' => ∃ d : Cls F, w' = d.W) hm hB ⟨⟨_, hF⟩, rfl⟩ ?_
  have e : (fun a' => ∀ W', F W' → Q .normal a' W') = (fun a' => ∀ w', (∃ d : Cls F, w' = d.W) → Q .normal a' w') := by
    funext a'
    exact propext ⟨fun h w' ⟨d, hd⟩ => hd ▸ h d.W d.h, fun h W' hW => h _ ⟨⟨W', hW⟩, rfl⟩⟩
  rw [← e]
  exact h
/-- A call that keeps F. -/
theorem cls_call {f : FuncId} {args : Array Value} {v : Value} (mv : ∀ W W', F W → Below W.heap.size W W' → F W') (h : ∀ W, F W → Calls P f args W fun e w' => e = .returned v ∧ Below W.heap.size W w') (d : Cls F) :
    Calls P f args d.W fun e w'' => e = .returned v ∧ ∃ d' : Cls F, w'' = d'.W :=
  (h d.W d.h).mono fun e w' ⟨he, hb⟩ => ⟨he, ⟨w', mv _ _ d.h hb⟩, rfl⟩
end Go.Proofs.YtnccofpkanhfhaaGreatDoor.Line
