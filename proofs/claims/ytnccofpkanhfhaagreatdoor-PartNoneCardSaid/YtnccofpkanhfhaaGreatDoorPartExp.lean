/-
  What a walk over a partition keeps; leases that are over go.
-/
import Derived.Test.YtnccofpkanhfhaaGreatDoorPartFind
set_option linter.unusedVariables false
set_option linter.unusedSimpArgs false
namespace Go.Proofs.YtnccofpkanhfhaaGreatDoor.Lease
open Go.RowKit Go.Maps Go.WideMaps Go.Proofs.YtnccofpkanhfhaaGreatDoor.Tab Go.Proofs.YtnccofpkanhfhaaGreatDoor.Pure Go.Proofs.YtnccofpkanhfhaaGreatDoorW.PrintWords
/-- Expire at a map that is nil: nothing. -/
theorem Expire_nilmap {w : World} {bs off n : Nat} {M : Tabl} {sz : Int} (h : Leases w bs off none n M sz) (now : Int) :
    Calls Tryz.prog 17 #[.pointer (some ⟨bs, off, none⟩), .int .i64 now] w fun e w' => e = .returned (.tuple #[]) ∧ Below w.heap.size w w' := by
  have hM : M = [] := h.map
  subst hM
  have hN := Tab.hid (Names_nilmap h)
  clear h
  go_enter Tryz.func17, Tryz.ntmps17
  go_wp2_with fail
  refine hN.out.mono ?_
  rintro e w1 ⟨v, rfl, hv, hB⟩
  obtain ⟨A, c, rfl, hl, hC⟩ := Kd.R_reads hv
  clear hv hC
  go_wp2_with fail
  refine wp_loop_rounds 1 ?_
  rw [rounds_succ]
  go_wp2_with fail
  go_end0
  exact ⟨rfl, hB⟩
end Go.Proofs.YtnccofpkanhfhaaGreatDoor.Lease
namespace Go.Proofs.YtnccofpkanhfhaaGreatDoor.Part
open Go.RowKit Go.Maps Go.WideMaps Go.Proofs.YtnccofpkanhfhaaGreatDoor.Tab Go.Proofs.YtnccofpkanhfhaaGreatDoorW.PrintWords
open Go.Proofs.YtnccofpkanhfhaaGreatDoor.Line (Blk)
variable {base bs : Nat} {W W0 W' : World} {p p' : PS} {a : AR} {bl bl' : List Blk}
/-- A partition, and blocks of the walk's own that are not the partition's. -/
structure Dw (base : Nat) (W0 W : World) (bs : Nat) (p : PS) (bl : List Blk) : Prop where
  part : PartAt base W bs p
  below : Below base W0 W
  keep : ∀ x ∈ bl, W.heap[x.1]? = some (.cells x.2.1 x.2.2 (0, 0)) ∧ x.1 ≠ bs ∧ ∀ i, ¬ owns p i x.1
theorem PartAt.base_le (h : PartAt base W bs p) : base ≤ W.heap.size := by have := h.hbs; have := h.lt; omega
theorem Dw.start (h : PartAt base W bs p) : Dw base W W bs p [] := ⟨h, Below.refl _ _, fun x hx => by cases hx⟩
theorem Dw.move (h : Dw base W0 W bs p bl) (hb : Below W.heap.size W W') : Dw base W0 W' bs p bl :=
  ⟨h.part.move hb, h.below.trans (hb.mono h.part.base_le), fun x hx => ⟨blk_below (h.keep x hx).1 hb, (h.keep x hx).2⟩⟩
theorem Dw.push (h : Dw base W0 W bs p bl) (cs : Array Value) (t : TypeId) : Dw base W0 (W.alloc (.cells cs t)) bs p ((W.heap.size, cs, t) :: bl) := by
  have h' := h.move ((Below.refl _ _).alloc (Nat.le_refl _) (.cells cs t))
  refine ⟨h'.part, h'.below, fun x hx => ?_⟩
  rcases List.mem_cons.1 hx with rfl | hx
  · exact ⟨heap_alloc_last _ _, fun e => by have := h.part.lt; simp only at e; omega, fun i hi => by have := h.part.own_lt hi; simp only at this; omega⟩
  · exact h'.keep x hx
theorem Dw.add (h' : Dw base W0 W' bs p bl) (h : PartAt base W bs p) {x : Nat} {cs : Array Value} {t : TypeId} (hx : W'.heap[x]? = some (.cells cs t (0, 0))) (hn : W.heap.size ≤ x) : Dw base W0 W' bs p ((x, cs, t) :: bl) := by
  refine ⟨h'.part, h'.below, fun y hy => ?_⟩
  rcases List.mem_cons.1 hy with rfl | hy
  · exact ⟨hx, fun e => by have := h.lt; simp only at e; omega, fun i hi => by have := h.own_lt hi; simp only at this; omega⟩
  · exact h'.keep y hy
theorem Dw.sub (h : Dw base W0 W bs p bl) (hs : ∀ x ∈ bl', x ∈ bl) : Dw base W0 W bs p bl' := ⟨h.part, h.below, fun x hx => h.keep x (hs x hx)⟩
theorem Dw.put (h : Dw base W0 W bs p bl) {q : Nat} {cs cs' : Array Value} {t : TypeId} (hm : (q, cs, t) ∈ bl) (hb : base ≤ q) (hq : W'.heap[q]? = some (.cells cs' t (0, 0))) (g : W.grownBy W' (some q)) (hs : ∀ x ∈ bl', x ∈ bl ∧ x.1 ≠ q) : Dw base W0 W' bs p ((q, cs', t) :: bl') := by
  have hk := h.keep _ hm
  refine ⟨h.part.far g hk.2.1 hk.2.2, h.below.grown g h.part.base_le (fun k e => by injection e with e; omega), fun x hx => ?_⟩
  rcases List.mem_cons.1 hx with rfl | hx
  · exact ⟨hq, hk.2⟩
  · exact ⟨blk_grown (h.keep x (hs x hx).1).1 g (fun e => (hs x hx).2 (Option.some.inj e)), (h.keep x (hs x hx).1).2⟩
theorem Dw.lt (h : Dw base W0 W bs p bl) {x : Blk} (hx : x ∈ bl) : x.1 < W.heap.size := blk_lt (h.keep x hx).1
/-- One of the four has turned. -/
structure Turned (base : Nat) (W W' : World) (bs : Nat) (p p' : PS) : Prop where
  part : PartAt base W' bs p'
  turn : ∃ off S i, Turn W W' bs off S ∧ ∀ k, S k → owns p i k ∨ W.heap.size ≤ k
  own : ∀ j k, owns p' j k → owns p j k ∨ W.heap.size ≤ k
theorem Turned.keeps (h : PartAt base W bs p) (ht : Turned base W W' bs p p') {g : Nat} {o : Obj} (hg : W.heap[g]? = some o) (h0 : g ≠ bs) (h1 : ∀ i, ¬ owns p i g) : W'.heap[g]? = some o ∧ ∀ i, ¬ owns p' i g := by
  obtain ⟨off, S, i, ht1, ht2⟩ := ht.turn
  refine ⟨(ht1.block g (blk_lt hg) h0 (fun hs => ?_)).trans hg, fun j hj => ?_⟩
  · rcases ht2 g hs with e | e
    · exact h1 i e
    · have := blk_lt hg; omega
  · rcases ht.own j g hj with e | e
    · exact h1 j e
    · have := blk_lt hg; omega
theorem Turned.below (h : PartAt base W bs p) (ht : Turned base W W' bs p p') : Below base W W' := by
  obtain ⟨off, S, i, ht1, ht2⟩ := ht.turn
  exact h.under ht1 ht2
theorem Dw.turned (h : Dw base W0 W bs p bl) (ht : Turned base W W' bs p p') : Dw base W0 W' bs p' bl :=
  ⟨ht.part, h.below.trans (ht.below h.part), fun x hx => by
    obtain ⟨k0, k1, k2⟩ := h.keep x hx
    obtain ⟨e0, e1⟩ := Turned.keeps h.part ht k0 k1 k2
    exact ⟨e0, k1, e1⟩⟩
theorem Turned.same (h : PartAt base W bs p) (hb : Below W.heap.size W W') : Turned base W W' bs p p :=
  ⟨h.move hb, ⟨0, fun _ => False, 0, Turn.below h.lt hb, fun k e => e.elim⟩, fun j k e => .inl e⟩

def expd (p : PS) (now : Int) : PS := { p with L := p.L.filter (fun q => decide (now < q.2.2)), zl := Lease.size (p.L.filter (fun q => decide (now < q.2.2))) }
/-- Leases weigh what they weigh, and are not too many. -/
structure Lg (p : PS) : Prop where
  z : p.zl = Lease.size p.L
  n : p.nl * 16 ≤ 140737488355328
  small : ∀ q ∈ p.L, q.1.size ≤ 140737488351232 ∧ q.2.1.size ≤ 140737488351232
theorem Zs.expd (h : Zs p) (hl : Lg p) (now : Int) : Zs (expd p now) :=
  ⟨h.k, h.c, h.h, ⟨Lease.size_nonneg _, Int.le_trans (Lease.size_filter _ _) (by rw [← hl.z]; exact h.l.2)⟩⟩
theorem owns_expd (p : PS) (now : Int) : ∀ j k, owns (expd p now) j k → owns p j k
  | 0, _, h => h
  | 1, _, h => h
  | 2, _, h => h
  | 3, _, h => h
theorem Expire_ (h : PartAt base W bs p) (hz : Zs p) (hl : Lg p) (now : Int) :
    Calls Tryz.prog 17 #[.pointer (some ⟨bs, 6, none⟩), .int .i64 now] W fun e w' => e = .returned (.tuple #[]) ∧ Turned base W w' bs p (expd p now) := by
  have hL := h.leases
  cases hm : p.ml with
  | none =>
    rw [hm] at hL
    have hnil : p.L = [] := hL.map
    refine (Lease.Expire_nilmap hL now).mono ?_
    rintro e w' ⟨rfl, hb⟩
    have hz0 : p.zl = 0 := by rw [hl.z, hnil]; rfl
    have e0 : expd p now = p := by
      obtain ⟨a1, a2, a3, a4, a5, a6, a7, a8, a9, a10, a11, a12, a13, a14, a15, a16⟩ := p
      simp only at hnil hz0
      subst hnil hz0
      rfl
    rw [e0]
    exact ⟨rfl, Turned.same h hb⟩
  | some b =>
    rw [hm, hl.z] at hL
    refine (Lease.Expire_some hL now hl.n hl.small (by rw [← hl.z]; exact hz.l.2)).mono ?_
    rintro e w' ⟨rfl, h1, h2⟩
    rw [Lease.without_all] at h1
    refine ⟨rfl, ?_, ⟨6, fun k => k = b, 3, h2, fun k e => .inl (by subst e; exact hm)⟩, fun j k e => .inl (owns_expd p now j k e)⟩
    have := h.setLeases (m := some b) h1 h2 (fun k e => .inl (by subst e; exact hm)) (fun k e => .inl (by injection e with e; subst e; exact hm))
    have e1 : { p with ml := some b, nl := p.nl, L := p.L.filter (fun q => decide (now < q.2.2)), zl := Lease.size (p.L.filter (fun q => decide (now < q.2.2))) } = expd p now := by
      unfold expd
      rw [← hm]
    rw [e1] at this
    exact this
end Go.Proofs.YtnccofpkanhfhaaGreatDoor.Part
