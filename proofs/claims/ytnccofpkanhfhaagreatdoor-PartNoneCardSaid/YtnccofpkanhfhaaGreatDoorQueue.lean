/-
  fifo.queue[string]: a chain of links; push and pop, each by its contract.
-/
import Derived.Test.YtnccofpkanhfhaaGreatDoorTabb
import Derived.Test.YtnccofpkanhfhaaGreatDoorProg
import Derived.StillTailTactics
import Derived.WalkSpells
import Derived.Outline
set_option linter.unusedVariables false
set_option linter.unusedSimpArgs false
namespace Go.Proofs.YtnccofpkanhfhaaGreatDoor.Fifo
open Go.RowKit Go.Maps Go.WideMaps Go.Proofs.YtnccofpkanhfhaaGreatDoor.Tab
/-- Only blocks of S have turned, of those that were there. -/
structure Touch (w w' : World) (S : Nat → Prop) : Prop where
  os : w'.os = w.os
  tape : w'.tape = w.tape
  output : w'.output = w.output
  size : w.heap.size ≤ w'.heap.size
  block : ∀ k, k < w.heap.size → ¬ S k → w'.heap[k]? = w.heap[k]?
section
variable {w w1 w2 : World} {S S' : Nat → Prop}
theorem Touch.refl (w : World) (S : Nat → Prop) : Touch w w S := ⟨rfl, rfl, rfl, Nat.le_refl _, fun _ _ _ => rfl⟩
theorem Touch.trans (h : Touch w w1 S) (h' : Touch w1 w2 S') (hS : ∀ k, k < w.heap.size → S' k → S k) : Touch w w2 S :=
  ⟨h'.os.trans h.os, h'.tape.trans h.tape, h'.output.trans h.output, Nat.le_trans h.size h'.size, fun k hk hs => (h'.block k (Nat.lt_of_lt_of_le hk h.size) (fun hs' => hs (hS k hk hs'))).trans (h.block k hk hs)⟩
theorem Touch.mono (h : Touch w w1 S) (hS : ∀ k, k < w.heap.size → S k → S' k) : Touch w w1 S' := ⟨h.os, h.tape, h.output, h.size, fun k hk hs => h.block k hk (fun h' => hs (hS k hk h'))⟩
theorem Touch.below (h : Below w.heap.size w w1) : Touch w w1 S := ⟨h.os, h.tape, h.output, h.size, fun k hk _ => h.block k hk⟩
theorem Touch.alloc (w : World) (o : Obj) (S : Nat → Prop) : Touch w (w.alloc o) S := Touch.below ((Below.refl _ _).alloc (Nat.le_refl _) _)
theorem Touch.setCell (w : World) (a : Addr) (v : Value) (S : Nat → Prop) (ha : S a.block) : Touch w (w.setCell a v) S :=
  ⟨rfl, rfl, rfl, by simp [World.setCell], fun k _ hk => Below.heap_setCell _ _ _ _ (fun e => hk (by rw [e]; exact ha))⟩
theorem Touch.turn {bs off : Nat} (h : Turn w w1 bs off S) : Touch w w1 (fun k => k = bs ∨ S k) := ⟨h.os, h.tape, h.output, h.size, fun k hk hs => h.block k hk (fun e => hs (.inl e)) (fun e => hs (.inr e))⟩
theorem Touch.drew (h : Touch w w1 S) : Touch w w1.drew S := ⟨h.os, h.tape, h.output, h.size, h.block⟩
theorem Touch.ofDrew (h : Touch w.drew w1 S) : Touch w w1 S := ⟨h.os, h.tape, h.output, h.size, h.block⟩
theorem Touch.under {B : Nat} (h : Touch w w1 S) (hB : B ≤ w.heap.size) (hS : ∀ k, S k → B ≤ k) : Below B w w1 :=
  ⟨h.os, h.tape, h.output, h.size, fun k hk => h.block k (Nat.lt_of_lt_of_le hk hB) (fun hs => by have := hS k hs; omega)⟩
end
abbrev pt (o : Option Nat) : Value := .pointer (o.map fun b => ⟨b, 0, none⟩)
/-- A queue: its block, its last link, its links with what they hold. -/
structure Q where
  q : Nat
  last : Option Nat
  ps : List (Nat × ByteArray)
def Q.ts (x : Q) : List ByteArray := x.ps.map (·.2)
def Q.foot (x : Q) : List Nat := x.q :: x.ps.map (·.1)
def Links (w : World) : List (Nat × ByteArray) → Prop
  | [] => True
  | (b, t) :: r => w.cell? ⟨b, 0, none⟩ = some (.string t) ∧ w.cell? ⟨b, 1, none⟩ = some (pt (r.head?.map (·.1))) ∧ w.frozen? ⟨b, 1, none⟩ = false ∧ Links w r
structure QAt (w : World) (x : Q) : Prop where
  c0 : w.cell? ⟨x.q, 0, none⟩ = some (pt (x.ps.head?.map (·.1)))
  c1 : w.cell? ⟨x.q, 1, none⟩ = some (pt x.last)
  c2 : w.cell? ⟨x.q, 2, none⟩ = some (.int .i64 x.ps.length)
  f0 : w.frozen? ⟨x.q, 0, none⟩ = false
  f1 : w.frozen? ⟨x.q, 1, none⟩ = false
  f2 : w.frozen? ⟨x.q, 2, none⟩ = false
  links : Links w x.ps
  tail : x.ps ≠ [] → x.last = x.ps.getLast?.map (·.1)
  nodup : x.foot.Nodup
theorem Links.move {w w' : World} : ∀ {ps : List (Nat × ByteArray)}, Links w ps → (∀ p ∈ ps, w'.heap[p.1]? = w.heap[p.1]?) → Links w' ps
  | [], _, _ => trivial
  | (b, t) :: r, h, hm => by
    have e := hm (b, t) (by simp)
    exact ⟨(World.cell?_of_block e).trans h.1, (World.cell?_of_block e).trans h.2.1, (World.frozen?_of_block e).trans h.2.2.1, Links.move h.2.2.2 (fun p hp => hm p (by simp [hp]))⟩
theorem Links.lt {w : World} : ∀ {ps : List (Nat × ByteArray)}, Links w ps → ∀ p ∈ ps, p.1 < w.heap.size
  | (b, t) :: r, h, p, hp => by
    rcases List.mem_cons.1 hp with rfl | hp
    · exact World.block_lt_of_cell? _ _ h.1
    · exact Links.lt h.2.2.2 p hp
theorem QAt.lt {w : World} {x : Q} (h : QAt w x) : ∀ k ∈ x.foot, k < w.heap.size := by
  intro k hk
  rcases List.mem_cons.1 hk with rfl | hk
  · exact World.block_lt_of_cell? _ _ h.c0
  · obtain ⟨p, hp, rfl⟩ := List.mem_map.1 hk
    exact h.links.lt p hp
theorem QAt.move {w w' : World} {x : Q} (h : QAt w x) (hm : ∀ k ∈ x.foot, w'.heap[k]? = w.heap[k]?) : QAt w' x := by
  have e := hm x.q (by simp [Q.foot])
  exact ⟨(World.cell?_of_block e).trans h.c0, (World.cell?_of_block e).trans h.c1, (World.cell?_of_block e).trans h.c2, (World.frozen?_of_block e).trans h.f0, (World.frozen?_of_block e).trans h.f1, (World.frozen?_of_block e).trans h.f2,
    h.links.move (fun p hp => hm p.1 (by simp only [Q.foot, List.mem_cons, List.mem_map]; exact .inr ⟨p, hp, rfl⟩)), h.tail, h.nodup⟩
theorem QAt.below {w w' : World} {x : Q} (h : QAt w x) (hb : Below w.heap.size w w') : QAt w' x := h.move (fun k hk => hb.block k (h.lt k hk))
/-- A link more behind the last one. -/
theorem Links.snoc {w w' : World} {l : Nat} {s : ByteArray} {b : Nat} (e0 : w'.cell? ⟨b, 0, none⟩ = w.cell? ⟨b, 0, none⟩) (e1 : w'.cell? ⟨b, 1, none⟩ = some (pt (some l))) (e2 : w'.frozen? ⟨b, 1, none⟩ = false)
    (h0 : w'.cell? ⟨l, 0, none⟩ = some (.string s)) (h1 : w'.cell? ⟨l, 1, none⟩ = some (pt none)) (h2 : w'.frozen? ⟨l, 1, none⟩ = false) :
    ∀ {ps : List (Nat × ByteArray)}, Links w ps → ps.getLast?.map (·.1) = some b → (ps.map (·.1)).Nodup → (∀ p ∈ ps, p.1 ≠ b → w'.heap[p.1]? = w.heap[p.1]?) → Links w' (ps ++ [(l, s)])
  | [], _, hb, _, _ => by cases hb
  | [(a, t)], h, hb, hn, hm => by
    obtain rfl : a = b := by simpa using hb
    exact ⟨e0.trans h.1, e1, e2, h0, h1, h2, trivial⟩
  | (a, t) :: (a', t') :: r, h, hb, hn, hm => by
    have hb' : ((a', t') :: r).getLast?.map (·.1) = some b := by rwa [List.getLast?_cons_cons] at hb
    have hne : a ≠ b := by
      intro e
      subst e
      have hm : a ∈ ((a', t') :: r).map (·.1) := by
        cases hg : ((a', t') :: r).getLast? with
        | none => rw [hg] at hb'; cases hb'
        | some y =>
          rw [hg] at hb'
          simp only [Option.map_some, Option.some.injEq] at hb'
          exact List.mem_map.2 ⟨y, List.mem_of_getLast? hg, hb'⟩
      exact (List.nodup_cons.1 hn).1 hm
    have ih := Links.snoc e0 e1 e2 h0 h1 h2 (ps := (a', t') :: r) h.2.2.2 hb' (List.nodup_cons.1 hn).2 (fun p hp => hm p (by simp only [List.mem_cons] at hp ⊢; exact .inr hp))
    have e := hm (a, t) (by simp) hne
    exact ⟨(World.cell?_of_block e).trans h.1, (World.cell?_of_block e).trans h.2.1, (World.frozen?_of_block e).trans h.2.2.1, ih⟩
/-- A fresh queue. -/
def fresh (q : Nat) : Q := ⟨q, none, []⟩
theorem fresh_at (w : World) (T : TypeId) : QAt (w.alloc (.cells #[.pointer none, .pointer none, .int .i64 0] T)) (fresh w.heap.size) :=
  ⟨World.cell?_alloc_at _ _ _ _ rfl, World.cell?_alloc_at _ _ _ _ rfl, World.cell?_alloc_at _ _ _ _ rfl, World.frozen?_alloc_at _ _ _ _ rfl, World.frozen?_alloc_at _ _ _ _ rfl, World.frozen?_alloc_at _ _ _ _ rfl, trivial, fun h => absurd rfl h, by simp [fresh, Q.foot]⟩
/-! ### pop -/
set_option maxRecDepth 100000 in
theorem pop {w : World} {x : Q} {b : Nat} {t : ByteArray} {r : List (Nat × ByteArray)} (h : QAt w x) (hp : x.ps = (b, t) :: r) (hl : x.ps.length ≤ 1000000) :
    Calls Tryz.prog 106 #[.pointer (some ⟨x.q, 0, none⟩)] w fun e w' => e = .returned (.string t) ∧ QAt w' ⟨x.q, x.last, r⟩ ∧ Touch w w' (fun k => k ∈ x.foot) := by
  have hc0 := h.c0
  have hc2 := h.c2
  have f0 := h.f0
  have f2 := h.f2
  have hlk := h.links
  rw [hp] at hc0 hc2 hlk
  obtain ⟨l0, l1, l2, l3⟩ := hlk
  have hbq : b ≠ x.q := by
    have := h.nodup
    unfold Q.foot at this
    rw [hp] at this
    intro e
    subst e
    simp at this
  have hlr : r.length + 1 ≤ 1000000 := by rw [hp] at hl; simpa using hl
  have hwz : IntKind.i64.wrap (((r.length + 1 : Nat) : Int) - 1) = (r.length : Int) := by rw [IntWalk.i64_in _ (by omega)]; omega
  have H := hid h
  have HP := hid hp
  have HL := hid l3
  clear h hp l3 hl l2
  simp only [pt, List.head?_cons, Option.map_some, List.length_cons] at hc0 hc2 l1
  obtain ⟨o, ho⟩ : ∃ o, (r.head?.map (·.1)).map (fun b => (⟨b, 0, none⟩ : Addr)) = o := ⟨_, rfl⟩
  have HO := hid ho
  rw [show ((r.head?.map (·.1)).map fun b => (⟨b, 0, none⟩ : Addr)) = o from ho] at l1
  clear ho
  generalize hq : x.q = q at *
  go_enter Tryz.func106, Tryz.ntmps106
  go_wp2_with fail
  go_ret
  subst hq
  have hnd := H.out.nodup
  unfold Q.foot at hnd
  rw [HP.out] at hnd
  have hnq : ∀ p ∈ r, p.1 ≠ x.q := fun p hp e => (List.nodup_cons.1 hnd).1 (by rw [← e]; exact List.mem_map.2 ⟨p, by simp [hp], rfl⟩)
  refine ⟨rfl, ⟨?_, ?_, ?_, ?_, ?_, ?_, ?_, ?_, ?_⟩, ?_⟩
  · rw [show pt (r.head?.map (·.1)) = .pointer o by unfold pt; rw [HO.out]]
    exact (World.cell?_setCell_other _ _ _ _ (fun e => by injection e; omega)).trans (cell_setCell_same H.out.c0)
  · exact (World.cell?_setCell_other _ _ _ _ (fun e => by injection e; omega)).trans ((World.cell?_setCell_other _ _ _ _ (fun e => by injection e; omega)).trans H.out.c1)
  · exact cell_setCell_same ((World.cell?_setCell_other _ _ _ _ (fun e => by injection e; omega)).trans H.out.c2)
  · rw [World.frozen?_setCell, World.frozen?_setCell]; exact H.out.f0
  · rw [World.frozen?_setCell, World.frozen?_setCell]; exact H.out.f1
  · rw [World.frozen?_setCell, World.frozen?_setCell]; exact H.out.f2
  · exact HL.out.move (fun p hp => (Below.heap_setCell _ _ _ _ (hnq p hp)).trans (Below.heap_setCell _ _ _ _ (hnq p hp)))
  · intro hr
    have := H.out.tail (by rw [HP.out]; simp)
    rw [this, HP.out]
    cases r with
    | nil => exact absurd rfl hr
    | cons y r => rw [List.getLast?_cons_cons]
  · unfold Q.foot
    simp only [List.map_cons, List.nodup_cons, List.mem_cons, not_or] at hnd ⊢
    exact ⟨hnd.1.2, hnd.2.2⟩
  · exact (Touch.setCell w _ _ _ (by simp [Q.foot])).trans (Touch.setCell _ _ _ (fun k => k ∈ x.foot) (by simp [Q.foot])) (fun _ _ h => h)
/-! ### push -/
set_option maxRecDepth 100000 in
theorem push_first {w : World} {x : Q} (h : QAt w x) (hp : x.ps = []) (s : ByteArray) :
    Calls Tryz.prog 105 #[.pointer (some ⟨x.q, 0, none⟩), .string s] w fun e w' => e = .returned (.tuple #[]) ∧ QAt w' ⟨x.q, some w.heap.size, [(w.heap.size, s)]⟩ ∧ Touch w w' (fun k => k ∈ x.foot) := by
  have hc0 := h.c0
  have hc1 := h.c1
  have hc2 := h.c2
  have f0 := h.f0
  have f1 := h.f1
  have f2 := h.f2
  rw [hp] at hc0 hc2
  simp only [pt, List.head?_nil, Option.map_none, List.length_nil] at hc0 hc1 hc2
  have hlt := h.lt x.q (by simp [Q.foot])
  have H := hid h
  generalize x.last.map (fun b => (⟨b, 0, none⟩ : Addr)) = o at *
  clear h hp
  generalize hq : x.q = q at *
  have hne : q ≠ w.heap.size := by omega
  go_enter Tryz.func105, Tryz.ntmps105
  go_wp2_with fail
  go_end0
  subst hq
  have hz : (((w.setCell ⟨x.q, 0, none⟩ (.pointer (some ⟨w.heap.size, 0, none⟩))).setCell ⟨x.q, 1, none⟩ (.pointer (some ⟨w.heap.size, 0, none⟩))).setCell ⟨x.q, 2, none⟩ (.int .i64 1)).heap.size = w.heap.size := by simp [World.setCell]
  have T : Touch w (((w.setCell ⟨x.q, 0, none⟩ (.pointer (some ⟨w.heap.size, 0, none⟩))).setCell ⟨x.q, 1, none⟩ (.pointer (some ⟨w.heap.size, 0, none⟩))).setCell ⟨x.q, 2, none⟩ (.int .i64 1)) (fun k => k ∈ x.foot) :=
    ((Touch.setCell w _ _ _ (by simp [Q.foot])).trans (Touch.setCell _ _ _ (fun k => k ∈ x.foot) (by simp [Q.foot])) (fun _ _ h => h)).trans (Touch.setCell _ _ _ (fun k => k ∈ x.foot) (by simp [Q.foot])) (fun _ _ h => h)
  have d0 : (((w.setCell ⟨x.q, 0, none⟩ (.pointer (some ⟨w.heap.size, 0, none⟩))).setCell ⟨x.q, 1, none⟩ (.pointer (some ⟨w.heap.size, 0, none⟩))).setCell ⟨x.q, 2, none⟩ (.int .i64 1)).cell? ⟨x.q, 0, none⟩ = some (.pointer (some ⟨w.heap.size, 0, none⟩)) :=
    (World.cell?_setCell_other _ _ _ _ (fun e => by injection e; omega)).trans ((World.cell?_setCell_other _ _ _ _ (fun e => by injection e; omega)).trans (cell_setCell_same H.out.c0))
  have d1 : (((w.setCell ⟨x.q, 0, none⟩ (.pointer (some ⟨w.heap.size, 0, none⟩))).setCell ⟨x.q, 1, none⟩ (.pointer (some ⟨w.heap.size, 0, none⟩))).setCell ⟨x.q, 2, none⟩ (.int .i64 1)).cell? ⟨x.q, 1, none⟩ = some (.pointer (some ⟨w.heap.size, 0, none⟩)) :=
    (World.cell?_setCell_other _ _ _ _ (fun e => by injection e; omega)).trans (cell_setCell_same ((World.cell?_setCell_other _ _ _ _ (fun e => by injection e; omega)).trans H.out.c1))
  have d2 : (((w.setCell ⟨x.q, 0, none⟩ (.pointer (some ⟨w.heap.size, 0, none⟩))).setCell ⟨x.q, 1, none⟩ (.pointer (some ⟨w.heap.size, 0, none⟩))).setCell ⟨x.q, 2, none⟩ (.int .i64 1)).cell? ⟨x.q, 2, none⟩ = some (.int .i64 1) :=
    cell_setCell_same ((World.cell?_setCell_other _ _ _ _ (fun e => by injection e; omega)).trans ((World.cell?_setCell_other _ _ _ _ (fun e => by injection e; omega)).trans H.out.c2))
  have g0 : (((w.setCell ⟨x.q, 0, none⟩ (.pointer (some ⟨w.heap.size, 0, none⟩))).setCell ⟨x.q, 1, none⟩ (.pointer (some ⟨w.heap.size, 0, none⟩))).setCell ⟨x.q, 2, none⟩ (.int .i64 1)).frozen? ⟨x.q, 0, none⟩ = false := by rw [World.frozen?_setCell, World.frozen?_setCell, World.frozen?_setCell]; exact H.out.f0
  have g1 : (((w.setCell ⟨x.q, 0, none⟩ (.pointer (some ⟨w.heap.size, 0, none⟩))).setCell ⟨x.q, 1, none⟩ (.pointer (some ⟨w.heap.size, 0, none⟩))).setCell ⟨x.q, 2, none⟩ (.int .i64 1)).frozen? ⟨x.q, 1, none⟩ = false := by rw [World.frozen?_setCell, World.frozen?_setCell, World.frozen?_setCell]; exact H.out.f1
  have g2 : (((w.setCell ⟨x.q, 0, none⟩ (.pointer (some ⟨w.heap.size, 0, none⟩))).setCell ⟨x.q, 1, none⟩ (.pointer (some ⟨w.heap.size, 0, none⟩))).setCell ⟨x.q, 2, none⟩ (.int .i64 1)).frozen? ⟨x.q, 2, none⟩ = false := by rw [World.frozen?_setCell, World.frozen?_setCell, World.frozen?_setCell]; exact H.out.f2
  generalize ((w.setCell ⟨x.q, 0, none⟩ (.pointer (some ⟨w.heap.size, 0, none⟩))).setCell ⟨x.q, 1, none⟩ (.pointer (some ⟨w.heap.size, 0, none⟩))).setCell ⟨x.q, 2, none⟩ (.int .i64 1) = W at *
  have e := Below.heap_alloc W (.cells #[.string s, .pointer none] 182) x.q (by omega)
  refine ⟨rfl, ⟨?_, ?_, ?_, ?_, ?_, ?_, ⟨?_, ?_, ?_, trivial⟩, fun _ => rfl, ?_⟩, T.trans (Touch.alloc _ _ _) (fun _ _ h => h)⟩
  · exact (World.cell?_of_block e).trans d0
  · exact (World.cell?_of_block e).trans d1
  · exact (World.cell?_of_block e).trans d2
  · exact (World.frozen?_of_block e).trans g0
  · exact (World.frozen?_of_block e).trans g1
  · exact (World.frozen?_of_block e).trans g2
  · rw [← hz]; exact World.cell?_alloc_at _ _ _ _ rfl
  · rw [← hz]; exact World.cell?_alloc_at _ _ _ _ rfl
  · rw [← hz]; exact World.frozen?_alloc_at _ _ _ _ rfl
  · simp [Q.foot]; omega
set_option maxRecDepth 100000 in
theorem push_more {w : World} {x : Q} {b : Nat} (h : QAt w x) (hp : x.ps ≠ []) (hb : x.last = some b) (s : ByteArray) (hl : x.ps.length ≤ 1000000) :
    Calls Tryz.prog 105 #[.pointer (some ⟨x.q, 0, none⟩), .string s] w fun e w' => e = .returned (.tuple #[]) ∧ QAt w' ⟨x.q, some w.heap.size, x.ps ++ [(w.heap.size, s)]⟩ ∧ Touch w w' (fun k => k ∈ x.foot) := by
  have hc0 := h.c0
  have hc1 := h.c1
  have hc2 := h.c2
  have f0 := h.f0
  have f1 := h.f1
  have f2 := h.f2
  have hlast := h.tail hp
  rw [hb] at hc1 hlast
  obtain ⟨a, ha⟩ : ∃ a, x.ps.head?.map (·.1) = some a := by
    cases e : x.ps with
    | nil => exact absurd e hp
    | cons y r => exact ⟨y.1, rfl⟩
  rw [ha] at hc0
  simp only [pt, Option.map_some] at hc0 hc1
  have hlt := h.lt x.q (by simp [Q.foot])
  have hbm : b ∈ x.ps.map (·.1) := by
    cases e : x.ps.getLast? with
    | none => rw [e] at hlast; cases hlast
    | some y =>
      rw [e] at hlast
      simp only [Option.map_some, Option.some.injEq] at hlast
      rw [hlast]
      exact List.mem_map.2 ⟨y, List.mem_of_getLast? e, rfl⟩
  have hbf : b ∈ x.foot := by unfold Q.foot; exact List.mem_cons_of_mem _ hbm
  have hblt := h.lt b hbf
  have hbq : b ≠ x.q := fun e => (List.nodup_cons.1 (show (x.q :: x.ps.map (·.1)).Nodup from h.nodup)).1 (by rw [← e]; exact hbm)
  obtain ⟨u, hu, hfu⟩ : ∃ u, w.cell? ⟨b, 1, none⟩ = some u ∧ w.frozen? ⟨b, 1, none⟩ = false := by
    have : ∀ ps : List (Nat × ByteArray), Links w ps → b ∈ ps.map (·.1) → ∃ u, w.cell? ⟨b, 1, none⟩ = some u ∧ w.frozen? ⟨b, 1, none⟩ = false := by
      intro ps
      induction ps with
      | nil => intro _ hm; simp at hm
      | cons y r ih =>
        intro hL hm
        obtain ⟨h0, h1, h2, h3⟩ := hL
        rcases List.mem_cons.1 hm with rfl | hm
        · exact ⟨_, h1, h2⟩
        · exact ih h3 hm
    exact this x.ps h.links hbm
  have hwz : IntKind.i64.wrap ((x.ps.length : Int) + 1) = (x.ps.length : Int) + 1 := IntWalk.i64_in _ (by omega)
  have H := hid h
  have HLa := hid hlast
  clear h hlast hbm ha hp
  generalize hq : x.q = q at *
  generalize hn : x.ps.length = n at *
  have hne : q ≠ w.heap.size := by omega
  have hne2 : b ≠ w.heap.size := by omega
  have hne3 : q ≠ b := fun e => hbq e.symm
  go_enter Tryz.func105, Tryz.ntmps105
  go_wp2_with fail
  go_end0
  subst hq hn
  have hz : (((w.setCell ⟨b, 1, none⟩ (.pointer (some ⟨w.heap.size, 0, none⟩))).setCell ⟨x.q, 1, none⟩ (.pointer (some ⟨w.heap.size, 0, none⟩))).setCell ⟨x.q, 2, none⟩ (.int .i64 ((x.ps.length : Int) + 1))).heap.size = w.heap.size := by simp [World.setCell]
  have T : Touch w (((w.setCell ⟨b, 1, none⟩ (.pointer (some ⟨w.heap.size, 0, none⟩))).setCell ⟨x.q, 1, none⟩ (.pointer (some ⟨w.heap.size, 0, none⟩))).setCell ⟨x.q, 2, none⟩ (.int .i64 ((x.ps.length : Int) + 1))) (fun k => k ∈ x.foot) :=
    ((Touch.setCell w _ _ _ hbf).trans (Touch.setCell _ _ _ (fun k => k ∈ x.foot) (by simp [Q.foot])) (fun _ _ h => h)).trans (Touch.setCell _ _ _ (fun k => k ∈ x.foot) (by simp [Q.foot])) (fun _ _ h => h)
  have d0 : (((w.setCell ⟨b, 1, none⟩ (.pointer (some ⟨w.heap.size, 0, none⟩))).setCell ⟨x.q, 1, none⟩ (.pointer (some ⟨w.heap.size, 0, none⟩))).setCell ⟨x.q, 2, none⟩ (.int .i64 ((x.ps.length : Int) + 1))).cell? ⟨x.q, 0, none⟩ = some (.pointer (some ⟨a, 0, none⟩)) :=
    (World.cell?_setCell_other _ _ _ _ (fun e => by injection e; omega)).trans ((World.cell?_setCell_other _ _ _ _ (fun e => by injection e; omega)).trans ((World.cell?_setCell_other _ _ _ _ (fun e => by injection e with e1 e2; exact hbq e1)).trans hc0))
  have d1 : (((w.setCell ⟨b, 1, none⟩ (.pointer (some ⟨w.heap.size, 0, none⟩))).setCell ⟨x.q, 1, none⟩ (.pointer (some ⟨w.heap.size, 0, none⟩))).setCell ⟨x.q, 2, none⟩ (.int .i64 ((x.ps.length : Int) + 1))).cell? ⟨x.q, 1, none⟩ = some (.pointer (some ⟨w.heap.size, 0, none⟩)) :=
    (World.cell?_setCell_other _ _ _ _ (fun e => by injection e; omega)).trans (cell_setCell_same ((World.cell?_setCell_other _ _ _ _ (fun e => by injection e with e1 e2; exact hbq e1)).trans hc1))
  have d2 : (((w.setCell ⟨b, 1, none⟩ (.pointer (some ⟨w.heap.size, 0, none⟩))).setCell ⟨x.q, 1, none⟩ (.pointer (some ⟨w.heap.size, 0, none⟩))).setCell ⟨x.q, 2, none⟩ (.int .i64 ((x.ps.length : Int) + 1))).cell? ⟨x.q, 2, none⟩ = some (.int .i64 ((x.ps.length : Int) + 1)) :=
    cell_setCell_same ((World.cell?_setCell_other _ _ _ _ (fun e => by injection e; omega)).trans ((World.cell?_setCell_other _ _ _ _ (fun e => by injection e with e1 e2; exact hbq e1)).trans H.out.c2))
  have d3 : (((w.setCell ⟨b, 1, none⟩ (.pointer (some ⟨w.heap.size, 0, none⟩))).setCell ⟨x.q, 1, none⟩ (.pointer (some ⟨w.heap.size, 0, none⟩))).setCell ⟨x.q, 2, none⟩ (.int .i64 ((x.ps.length : Int) + 1))).cell? ⟨b, 0, none⟩ = w.cell? ⟨b, 0, none⟩ :=
    (World.cell?_setCell_other _ _ _ _ (fun e => by injection e with e1 e2; exact hbq e1.symm)).trans ((World.cell?_setCell_other _ _ _ _ (fun e => by injection e with e1 e2; exact hbq e1.symm)).trans (World.cell?_setCell_other _ _ _ _ (fun e => by injection e; omega)))
  have d4 : (((w.setCell ⟨b, 1, none⟩ (.pointer (some ⟨w.heap.size, 0, none⟩))).setCell ⟨x.q, 1, none⟩ (.pointer (some ⟨w.heap.size, 0, none⟩))).setCell ⟨x.q, 2, none⟩ (.int .i64 ((x.ps.length : Int) + 1))).cell? ⟨b, 1, none⟩ = some (.pointer (some ⟨w.heap.size, 0, none⟩)) :=
    (World.cell?_setCell_other _ _ _ _ (fun e => by injection e with e1 e2; exact hbq e1.symm)).trans ((World.cell?_setCell_other _ _ _ _ (fun e => by injection e with e1 e2; exact hbq e1.symm)).trans (cell_setCell_same hu))
  have g : ∀ a, (((w.setCell ⟨b, 1, none⟩ (.pointer (some ⟨w.heap.size, 0, none⟩))).setCell ⟨x.q, 1, none⟩ (.pointer (some ⟨w.heap.size, 0, none⟩))).setCell ⟨x.q, 2, none⟩ (.int .i64 ((x.ps.length : Int) + 1))).frozen? a = w.frozen? a := fun a => by rw [World.frozen?_setCell, World.frozen?_setCell, World.frozen?_setCell]
  have m : ∀ k, k ≠ b → k ≠ x.q → (((w.setCell ⟨b, 1, none⟩ (.pointer (some ⟨w.heap.size, 0, none⟩))).setCell ⟨x.q, 1, none⟩ (.pointer (some ⟨w.heap.size, 0, none⟩))).setCell ⟨x.q, 2, none⟩ (.int .i64 ((x.ps.length : Int) + 1))).heap[k]? = w.heap[k]? := fun k h1 h2 => (Below.heap_setCell _ _ _ _ h2).trans ((Below.heap_setCell _ _ _ _ h2).trans (Below.heap_setCell _ _ _ _ h1))
  generalize ((w.setCell ⟨b, 1, none⟩ (.pointer (some ⟨w.heap.size, 0, none⟩))).setCell ⟨x.q, 1, none⟩ (.pointer (some ⟨w.heap.size, 0, none⟩))).setCell ⟨x.q, 2, none⟩ (.int .i64 ((x.ps.length : Int) + 1)) = W at *
  have e := Below.heap_alloc W (.cells #[.string s, .pointer none] 182) x.q (by omega)
  have eb := Below.heap_alloc W (.cells #[.string s, .pointer none] 182) b (by omega)
  have hnd := H.out.nodup
  unfold Q.foot at hnd
  have hne5 : x.ps ≠ [] := fun e => by rw [e] at HLa; cases HLa.out
  refine ⟨rfl, ⟨?_, ?_, ?_, ?_, ?_, ?_, ?_, ?_, ?_⟩, T.trans (Touch.alloc _ _ _) (fun _ _ h => h)⟩
  · refine (World.cell?_of_block e).trans (d0.trans ?_)
    have h1 := H.out.c0
    rw [hc0] at h1
    cases hps : x.ps with
    | nil => exact absurd hps hne5
    | cons y r => rw [hps] at h1; exact h1
  · exact (World.cell?_of_block e).trans d1
  · refine (World.cell?_of_block e).trans (d2.trans ?_)
    simp
  · exact (World.frozen?_of_block e).trans ((g _).trans H.out.f0)
  · exact (World.frozen?_of_block e).trans ((g _).trans H.out.f1)
  · exact (World.frozen?_of_block e).trans ((g _).trans H.out.f2)
  · refine Links.snoc ((World.cell?_of_block eb).trans d3) ((World.cell?_of_block eb).trans d4) ((World.frozen?_of_block eb).trans ((g _).trans hfu)) ?_ ?_ ?_ H.out.links HLa.out.symm (List.nodup_cons.1 hnd).2 (fun p hp hpb => ?_)
    · rw [← hz]; exact World.cell?_alloc_at _ _ _ _ rfl
    · rw [← hz]; exact World.cell?_alloc_at _ _ _ _ rfl
    · rw [← hz]; exact World.frozen?_alloc_at _ _ _ _ rfl
    · have hpl := H.out.links.lt p hp
      have hpq : p.1 ≠ x.q := fun e => (List.nodup_cons.1 hnd).1 (by rw [← e]; exact List.mem_map.2 ⟨p, hp, rfl⟩)
      exact (Below.heap_alloc W _ p.1 (by omega)).trans (m p.1 hpb hpq)
  · intro _
    simp
  · unfold Q.foot
    rw [List.map_append, ← List.cons_append, List.nodup_append]
    refine ⟨hnd, by simp, ?_⟩
    intro k hk j hj e
    simp only [List.map_cons, List.map_nil, List.mem_singleton] at hj
    have := H.out.lt k hk
    omega
end Go.Proofs.YtnccofpkanhfhaaGreatDoor.Fifo
