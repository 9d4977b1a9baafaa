/-
  Blocks of a walk's own: a list of them, kept along the walk.
-/
import Derived.Test.YtnccofpkanhfhaaGreatDoorPut
set_option linter.unusedVariables false
set_option linter.unusedSimpArgs false
namespace Go.Proofs.YtnccofpkanhfhaaGreatDoor.Line
open Go.RowKit Go.Proofs.YtnccofpkanhfhaaGreatDoorW.PrintWords
abbrev Blk := Nat × Array Value × TypeId
/-- Blocks of the walk's own. -/
structure Ow (w W : World) (bl : List Blk) : Prop where
  below : Below w.heap.size w W
  keep : ∀ x ∈ bl, W.heap[x.1]? = some (.cells x.2.1 x.2.2 (0, 0)) ∧ w.heap.size ≤ x.1
variable {w W W' : World} {bl bl' : List Blk}
theorem Ow.start (w : World) : Ow w w [] := ⟨Below.refl _ _, fun x hx => by cases hx⟩
theorem Ow.move (h : Ow w W bl) (hb : Below W.heap.size W W') : Ow w W' bl :=
  ⟨h.below.trans (hb.mono h.below.size), fun x hx => ⟨blk_below (h.keep x hx).1 hb, (h.keep x hx).2⟩⟩
theorem Ow.push (h : Ow w W bl) (cs : Array Value) (t : TypeId) : Ow w (W.alloc (.cells cs t)) ((W.heap.size, cs, t) :: bl) := by
  have h' := h.move ((Below.refl _ _).alloc (Nat.le_refl _) (.cells cs t))
  refine ⟨h'.below, fun x hx => ?_⟩
  rcases List.mem_cons.1 hx with rfl | hx
  · exact ⟨heap_alloc_last _ _, h.below.size⟩
  · exact h'.keep x hx
theorem Ow.put (h : Ow w W bl) {q : Nat} {cs cs' : Array Value} {t : TypeId} (hm : (q, cs, t) ∈ bl) (hq : W'.heap[q]? = some (.cells cs' t (0, 0))) (g : W.grownBy W' (some q)) (hs : ∀ x ∈ bl', x ∈ bl ∧ x.1 ≠ q) : Ow w W' ((q, cs', t) :: bl') := by
  have hk := h.keep _ hm
  refine ⟨h.below.grown g h.below.size (fun k e => by injection e with e; have := hk.2; simp only at this; omega), fun x hx => ?_⟩
  rcases List.mem_cons.1 hx with rfl | hx
  · exact ⟨hq, hk.2⟩
  · exact ⟨blk_grown (h.keep x (hs x hx).1).1 g (fun e => (hs x hx).2 (Option.some.inj e)), (h.keep x (hs x hx).1).2⟩
theorem Ow.lt (h : Ow w W bl) {x : Blk} (hx : x ∈ bl) : x.1 < W.heap.size := blk_lt (h.keep x hx).1
theorem Ow.drew (h : Ow w W bl) : Ow w W.drew bl := h.move (Below.refl _ _).drew
theorem Ow.sub (h : Ow w W bl) (hs : ∀ x ∈ bl', x ∈ bl) : Ow w W bl' := ⟨h.below, fun x hx => h.keep x (hs x hx)⟩
/-- Ways that meet again. -/
theorem join_region {P : Program} {c : Code} {a : Act} {W : World} {Q : Exit → Act → World → Prop} (F : Nat → World → Prop) {A : Nat → Act} (h : Code.wp P c (fun e a' W' => ∃ p, F p W' ∧ e = .normal ∧ a' = A p) a W) (hn : ∀ p W', F p W' → Q .normal (A p) W') : Code.wp P c Q a W :=
  Code.wp_mono (fun e a' W' ⟨p, hp, he, ha⟩ => by subst he ha; exact hn p W' hp) h
end Go.Proofs.YtnccofpkanhfhaaGreatDoor.Line
