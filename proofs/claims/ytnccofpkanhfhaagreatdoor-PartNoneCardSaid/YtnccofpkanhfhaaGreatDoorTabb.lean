/-
  More of Tab: a size and an entry written, without a draw; an entry taken out.
-/
import Derived.Test.YtnccofpkanhfhaaGreatDoorTab
set_option linter.unusedVariables false
set_option linter.unusedSimpArgs false
namespace Go.Proofs.YtnccofpkanhfhaaGreatDoor.Tab
open Go.RowKit Go.Maps Go.ChangeMaps
section
variable {κ α : Type} {ke : κ → Lit} {ve : α → Value} {P : Program} {K : TypeId} {w w1 w2 : World} {bs off b n n' : Nat} {M M' : List (κ × α)} {sz sz' : Int}
theorem Turn.ofDrew {S : Nat → Prop} (h : Turn w.drew w1 bs off S) : Turn w w1 bs off S := ⟨h.os, h.tape, h.output, h.size, h.block, h.cell, h.frozen, h.typ⟩
theorem TabAt.wrote (h : TabAt ke ve P K w bs off (some b) n M sz) (hg : (w.setCell ⟨bs, off + 1, none⟩ (.int .i64 sz')).grownBy w1 (some b)) (hm : MapAt ke ve P K w1 (some b) n' M') :
    TabAt ke ve P K w1 bs off (some b) n' M' sz' ∧ Turn w w1 bs off (fun k => k = b) := by
  refine ⟨(h.sized sz').stored hg hm, ?_⟩
  have T : Turn w (w.setCell ⟨bs, off + 1, none⟩ (.int .i64 sz')) bs off (fun k => k = b) := Turn.setCell w bs off _ (.inr rfl) _
  exact T.trans (Turn.grownBy (off := off) (S := fun k => k = b) (by have := h.lt; simpa [World.setCell] using this) hg (fun e => h.ne e.symm) (fun k _ e => by simpa using e)) (fun _ _ h => h)
theorem TabAt.started (h : TabAt ke ve P K w bs off none n M sz) (hg : (((w.setCell ⟨bs, off + 1, none⟩ (.int .i64 sz')).setCell ⟨bs, off, none⟩ (.map (some w.heap.size))).alloc (.map #[] 0)).grownBy w1 (some w.heap.size)) (hm : MapAt ke ve P K w1 (some w.heap.size) n' M') :
    TabAt ke ve P K w1 bs off (some w.heap.size) n' M' sz' ∧ Turn w w1 bs off (fun k => k = w.heap.size) := by
  have hlt := h.lt
  refine ⟨(h.made sz').stored hg hm, ?_⟩
  have T : Turn w (((w.setCell ⟨bs, off + 1, none⟩ (.int .i64 sz')).setCell ⟨bs, off, none⟩ (.map (some w.heap.size))).alloc (.map #[] 0)) bs off (fun k => k = w.heap.size) :=
    ((Turn.setCell w bs off _ (.inr rfl) _).trans (Turn.setCell _ bs off _ (.inl rfl) _) (fun _ _ h => h)).trans (Turn.alloc (S := fun k => k = w.heap.size) (by simpa [World.setCell] using hlt) _) (fun _ _ h => h)
  exact T.trans (Turn.grownBy (off := off) (S := fun k => k = w.heap.size) (by have := T.size; omega) hg (fun e => by injection e; omega) (fun k _ e => by simpa using e)) (fun _ _ h => h)
theorem TabAt.lost (h : TabAt ke ve P K w bs off none n M sz) (sz' : Int) : TabAt ke ve P K (w.setCell ⟨bs, off + 1, none⟩ (.int .i64 sz')) bs off none n M sz' ∧ Turn w (w.setCell ⟨bs, off + 1, none⟩ (.int .i64 sz')) bs off (fun _ => False) := by
  refine ⟨⟨?_, cell_setCell_same h.c1, by rw [World.frozen?_setCell]; exact h.f0, by rw [World.frozen?_setCell]; exact h.f1, h.map⟩, Turn.setCell w bs off _ (.inr rfl) _⟩
  exact (World.cell?_setCell_other _ _ _ _ (fun e => by injection e; omega)).trans h.c0
end
end Go.Proofs.YtnccofpkanhfhaaGreatDoor.Tab
