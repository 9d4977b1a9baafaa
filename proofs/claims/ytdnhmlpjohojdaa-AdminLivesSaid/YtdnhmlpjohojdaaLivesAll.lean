/-
  AdminLives, walked: what its rounds keep, what an order turns, and the walk.
-/
import Derived.Deep.Quiet
import Derived.Deep.QuietTactic
import Derived.BigQuiet
import Derived.Below
import Derived.Test.YtdnhmlpjohojdaaDoes
set_option linter.unusedVariables false
set_option linter.unusedSimpArgs false
namespace Go.Proofs.Ytdnhmlpjohojdaa.Line
open Go.RowKit
/-- A world of which F holds. -/
structure Cls (F : World → Prop) where
  W : World
  h : F W
variable {P : Program} {F : World → Prop}
theorem wp_region_cls {id : Nat} {Q : Exit → Act → World → Prop} {a : Act} {w : World} {l : List Oper} (hm : P.follows .mixedOrders = true) (hB : Region.lexB .any l.toArray = true) (hF : F w.drew)
    (h : wpQuiet P l.toArray (fun w' => ∃ d : Cls F, w' = d.W) (fun a' => ∀ W', F W' → Q .normal a' W') l a) : (Code.region id l.toArray true).wp P Q a w := by
  refine wp_region_quiet (C := fun w' => ∃ d : Cls F, w' = d.W) hm hB ⟨⟨_, hF⟩, rfl⟩ ?_
  have e : (fun a' => ∀ W', F W' → Q .normal a' W') = (fun a' => ∀ w', (∃ d : Cls F, w' = d.W) → Q .normal a' w') := by
    funext a'
    exact propext ⟨fun h w' ⟨d, hd⟩ => hd ▸ h d.W d.h, fun h W' hW => h _ ⟨⟨W', hW⟩, rfl⟩⟩
  rw [← e]
  exact h
/-- A call that keeps F. -/
theorem cls_call {f : FuncId} {args : Array Value} {v : Value} (mv : ∀ W W', F W → Below W.heap.size W W' → F W') (h : ∀ W, F W → Calls P f args W fun e w' => e = .returned v ∧ Below W.heap.size W w') (d : Cls F) :
    Calls P f args d.W fun e w'' => e = .returned v ∧ ∃ d' : Cls F, w'' = d'.W :=
  (h d.W d.h).mono fun e w' ⟨he, hb⟩ => ⟨he, ⟨w', mv _ _ d.h hb⟩, rfl⟩
end Go.Proofs.Ytdnhmlpjohojdaa.Line
namespace Go.Proofs.Ytdnhmlpjohojdaa.Adm.Bk
open Go.RowKit Go.Maps Go.WideMaps Go.Proofs.Ytdnhmlpjohojdaa.Tab Go.Proofs.Ytdnhmlpjohojdaa.Adm Go.Proofs.Ytdnhmlpjohojdaa.R Go.Proofs.YtdnhmlpjohojdaaW.PrintWords Go.Proofs.YtdnhmlpjohojdaaW.PrintLast Go.Proofs.YtdnhmlpjohojdaaW.PrintMore
def aft (M : Mp) (o : Order) : Mp := if why M o = 0 then doM M o else M
theorem aft_other (M : Mp) (o : Order) (x : Int) (hx : x ≠ o.owner) : lives (aft M o) x = lives M x ∧ ten (aft M o) x = ten M x := by
  unfold aft
  by_cases h : why M o = 0
  · rw [if_pos h]
    unfold doM lives ten
    by_cases h4 : o.op = 4
    · rw [if_pos h4, tlook_del_other ki_one M (fun e => hx e.symm)]
      exact ⟨rfl, rfl⟩
    · rw [if_neg h4, tlook_put_other ki_one M (fun e => hx e.symm)]
      exact ⟨rfl, rfl⟩
  · rw [if_neg h]
    exact ⟨rfl, rfl⟩
theorem dead_zero (M : Mp) (x : Int) (h : lives M x = false) : ten M x = zeroT := by
  unfold lives at h
  unfold ten
  cases e : tlook ki M x with
  | none => rfl
  | some t => rw [e] at h; cases h
def Turned (op : Int) (v : Fin 9 → Int) (l0 l1 : Bool) (t0 t1 : Ten) : Prop :=
  (op = 1 ∧ l0 = false ∧ l1 = true ∧ t1 = ⟨v, false⟩ ∧ 1040 ≤ v 0) ∨ (op = 4 ∧ l0 = true ∧ l1 = false) ∨ (op = 2 ∧ l0 = true ∧ l1 = true ∧ t1 = ⟨t0.v, true⟩ ∧ t0.rests = false)
  ∨ (op = 3 ∧ l0 = true ∧ l1 = true ∧ t1 = ⟨t0.v, false⟩ ∧ t0.rests = true) ∨ (op = 5 ∧ l0 = true ∧ l1 = true ∧ t1 = t0) ∨ (op = 6 ∧ l0 = true ∧ l1 = true ∧ t1 = ⟨v, t0.rests⟩)
theorem aft_turned (M : Mp) (o : Order) (h : why M o = 0) : Turned o.op o.v (lives M o.owner) (lives (aft M o) o.owner) (ten M o.owner) (ten (aft M o) o.owner) := by
  obtain ⟨hf, hl⟩ := why_zero h
  obtain ⟨r1, r2, r3, r4⟩ := formB_range hf
  have hw : whyB true (lives M o.owner) (ten M o.owner).rests o.op = 0 := by
    have := h
    unfold why at this
    rwa [hf] at this
  unfold aft
  rw [if_pos h]
  have put : o.op ≠ 4 → lives (doM M o) o.owner = true ∧ ten (doM M o) o.owner = newT (ten M o.owner) o := by
    intro h4
    have hp : tlook ki (tput ki M o.owner (newT (ten M o.owner) o)) o.owner = some (newT (ten M o.owner) o) := tlook_put_same ki_one M _ _
    unfold doM
    rw [if_neg h4]
    refine ⟨by unfold lives; rw [hp]; rfl, ?_⟩
    show (tlook ki (tput ki M o.owner (newT (ten M o.owner) o)) o.owner).getD zeroT = _
    rw [hp]
    rfl
  have del : o.op = 4 → lives (doM M o) o.owner = false := by
    intro h4
    unfold doM
    rw [if_pos h4]
    unfold lives
    rw [tlook_del_same ki_one]
    rfl
  have hop : o.op = 1 ∨ o.op = 2 ∨ o.op = 3 ∨ o.op = 4 ∨ o.op = 5 ∨ o.op = 6 := by omega
  have hok : o.op = 1 → 1040 ≤ o.v 0 := by
    intro h1
    have := (of_decide_eq_true hf).2 (.inl h1)
    have := (of_decide_eq_true this) 0
    simpa [in9, least] using this.1
  generalize lives (doM M o) o.owner = l1 at *
  generalize ten (doM M o) o.owner = t1 at *
  generalize lives M o.owner = l0 at *
  generalize ten M o.owner = t0 at *
  unfold Turned
  rcases hop with e | e | e | e | e | e
  · obtain ⟨a, b⟩ := put (by omega)
    refine .inl ⟨e, ?_, a, by rw [b]; simp [newT, e], hok e⟩
    cases l0
    · rfl
    · rw [e] at hw; simp [whyB] at hw
  · obtain ⟨a, b⟩ := put (by omega)
    have hl' := hl.resolve_left (by omega)
    refine .inr (.inr (.inl ⟨e, hl', a, by rw [b]; simp [newT, e], ?_⟩))
    rw [e, hl'] at hw
    cases hr : t0.rests
    · rfl
    · rw [hr] at hw; simp [whyB] at hw
  · obtain ⟨a, b⟩ := put (by omega)
    have hl' := hl.resolve_left (by omega)
    refine .inr (.inr (.inr (.inl ⟨e, hl', a, by rw [b]; simp [newT, e], ?_⟩)))
    rw [e, hl'] at hw
    cases hr : t0.rests
    · rw [hr] at hw; simp [whyB] at hw
    · rfl
  · exact .inr (.inl ⟨e, hl.resolve_left (by omega), del e⟩)
  · obtain ⟨a, b⟩ := put (by omega)
    exact .inr (.inr (.inr (.inr (.inl ⟨e, hl.resolve_left (by omega), a, by rw [b]; simp [newT, e]⟩))))
  · obtain ⟨a, b⟩ := put (by omega)
    exact .inr (.inr (.inr (.inr (.inr ⟨e, hl.resolve_left (by omega), a, by rw [b]; simp [newT, e]⟩))))
abbrev Blk := Nat × Array Value × TypeId
structure Lr (w W : World) (bs : Nat) (mb : Option Nat) (n : Nat) (M : Mp) (bl : List Blk) : Prop where
  book : BookAt W bs mb n M
  below : Below w.heap.size w W
  hbs : w.heap.size ≤ bs
  hb : ∀ b, mb = some b → w.heap.size ≤ b
  keep : ∀ x ∈ bl, W.heap[x.1]? = some (.cells x.2.1 x.2.2 (0, 0)) ∧ x.2.2 ≠ 54
variable {w W W' : World} {bs n : Nat} {mb : Option Nat} {M : Mp} {bl : List Blk}
theorem Lr.move (h : Lr w W bs mb n M bl) (hb : Below W.heap.size W W') : Lr w W' bs mb n M bl :=
  ⟨h.book.below hb, h.below.trans (hb.mono h.below.size), h.hbs, h.hb, fun x hx => ⟨(hb.block _ (blk_lt (h.keep x hx).1)).trans (h.keep x hx).1, (h.keep x hx).2⟩⟩
theorem Lr.drew (h : Lr w W bs mb n M bl) : Lr w W.drew bs mb n M bl := h.move (Below.refl _ _).drew
theorem Lr.alloc (h : Lr w W bs mb n M bl) (o : Obj) : Lr w (W.alloc o) bs mb n M bl := h.move ((Below.refl _ _).alloc (Nat.le_refl _) _)
theorem Lr.push (h : Lr w W bs mb n M bl) (cs : Array Value) (t : TypeId) (ht : t ≠ 54) : Lr w (W.alloc (.cells cs t)) bs mb n M ((W.heap.size, cs, t) :: bl) := by
  have h' := h.alloc (.cells cs t)
  refine ⟨h'.book, h'.below, h'.hbs, h'.hb, fun x hx => ?_⟩
  rcases List.mem_cons.1 hx with rfl | hx
  · exact ⟨heap_alloc_last _ _, ht⟩
  · exact h'.keep x hx
theorem Lr.lt (h : Lr w W bs mb n M bl) : ∀ x ∈ bl, x.1 < W.heap.size := fun x hx => blk_lt (h.keep x hx).1
set_option maxHeartbeats 1000000 in
/-- A store of nine numbers into a block made on the way. -/
theorem Lr.nine (h : Lr w W bs mb n M bl) {p : Nat} {cs : Array Value} (hp : W.heap[p]? = some (.cells cs 24 (0, 0))) (hs : cs.size = 9) (hw : w.heap.size ≤ p) (hlt : ∀ x ∈ bl, x.1 < p) (v : Fin 9 → Int) :
    Lr w (((((((((W.setCell ⟨p, 0, none⟩ (.int .i64 (v 0))).setCell ⟨p, 1, none⟩ (.int .i64 (v 1))).setCell ⟨p, 2, none⟩ (.int .i64 (v 2))).setCell ⟨p, 3, none⟩ (.int .i64 (v 3))).setCell ⟨p, 4, none⟩ (.int .i64 (v 4))).setCell ⟨p, 5, none⟩ (.int .i64 (v 5))).setCell ⟨p, 6, none⟩ (.int .i64 (v 6))).setCell ⟨p, 7, none⟩ (.int .i64 (v 7))).setCell ⟨p, 8, none⟩ (.int .i64 (v 8))) bs mb n M ((p, cells9 v, 24) :: bl) := by
  have far : ∀ k, k ≠ p → (((((((((W.setCell ⟨p, 0, none⟩ (.int .i64 (v 0))).setCell ⟨p, 1, none⟩ (.int .i64 (v 1))).setCell ⟨p, 2, none⟩ (.int .i64 (v 2))).setCell ⟨p, 3, none⟩ (.int .i64 (v 3))).setCell ⟨p, 4, none⟩ (.int .i64 (v 4))).setCell ⟨p, 5, none⟩ (.int .i64 (v 5))).setCell ⟨p, 6, none⟩ (.int .i64 (v 6))).setCell ⟨p, 7, none⟩ (.int .i64 (v 7))).setCell ⟨p, 8, none⟩ (.int .i64 (v 8))).heap[k]? = W.heap[k]? := fun k hk => by
    rw [Below.heap_setCell _ _ _ _ hk, Below.heap_setCell _ _ _ _ hk, Below.heap_setCell _ _ _ _ hk, Below.heap_setCell _ _ _ _ hk, Below.heap_setCell _ _ _ _ hk, Below.heap_setCell _ _ _ _ hk, Below.heap_setCell _ _ _ _ hk, Below.heap_setCell _ _ _ _ hk, Below.heap_setCell _ _ _ _ hk]
  have at_ : (((((((((W.setCell ⟨p, 0, none⟩ (.int .i64 (v 0))).setCell ⟨p, 1, none⟩ (.int .i64 (v 1))).setCell ⟨p, 2, none⟩ (.int .i64 (v 2))).setCell ⟨p, 3, none⟩ (.int .i64 (v 3))).setCell ⟨p, 4, none⟩ (.int .i64 (v 4))).setCell ⟨p, 5, none⟩ (.int .i64 (v 5))).setCell ⟨p, 6, none⟩ (.int .i64 (v 6))).setCell ⟨p, 7, none⟩ (.int .i64 (v 7))).setCell ⟨p, 8, none⟩ (.int .i64 (v 8))).heap[p]? = some (.cells (cells9 v) 24 (0, 0)) := by
    obtain ⟨l⟩ := cs
    clear far
    obtain ⟨a0, a1, a2, a3, a4, a5, a6, a7, a8, rfl⟩ := Open.len9 (show l.length = 9 from hs)
    have s0 := blk_put (cs' := #[.int .i64 (v 0), a1, a2, a3, a4, a5, a6, a7, a8]) hp 0 (.int .i64 (v 0)) rfl
    have s1 := blk_put (cs' := #[.int .i64 (v 0), .int .i64 (v 1), a2, a3, a4, a5, a6, a7, a8]) s0 1 (.int .i64 (v 1)) rfl
    have s2 := blk_put (cs' := #[.int .i64 (v 0), .int .i64 (v 1), .int .i64 (v 2), a3, a4, a5, a6, a7, a8]) s1 2 (.int .i64 (v 2)) rfl
    have s3 := blk_put (cs' := #[.int .i64 (v 0), .int .i64 (v 1), .int .i64 (v 2), .int .i64 (v 3), a4, a5, a6, a7, a8]) s2 3 (.int .i64 (v 3)) rfl
    have s4 := blk_put (cs' := #[.int .i64 (v 0), .int .i64 (v 1), .int .i64 (v 2), .int .i64 (v 3), .int .i64 (v 4), a5, a6, a7, a8]) s3 4 (.int .i64 (v 4)) rfl
    have s5 := blk_put (cs' := #[.int .i64 (v 0), .int .i64 (v 1), .int .i64 (v 2), .int .i64 (v 3), .int .i64 (v 4), .int .i64 (v 5), a6, a7, a8]) s4 5 (.int .i64 (v 5)) rfl
    have s6 := blk_put (cs' := #[.int .i64 (v 0), .int .i64 (v 1), .int .i64 (v 2), .int .i64 (v 3), .int .i64 (v 4), .int .i64 (v 5), .int .i64 (v 6), a7, a8]) s5 6 (.int .i64 (v 6)) rfl
    have s7 := blk_put (cs' := #[.int .i64 (v 0), .int .i64 (v 1), .int .i64 (v 2), .int .i64 (v 3), .int .i64 (v 4), .int .i64 (v 5), .int .i64 (v 6), .int .i64 (v 7), a8]) s6 7 (.int .i64 (v 7)) rfl
    have s8 := blk_put (cs' := #[.int .i64 (v 0), .int .i64 (v 1), .int .i64 (v 2), .int .i64 (v 3), .int .i64 (v 4), .int .i64 (v 5), .int .i64 (v 6), .int .i64 (v 7), .int .i64 (v 8)]) s7 8 (.int .i64 (v 8)) rfl
    exact s8
  have nbs : bs ≠ p := by
    rintro rfl
    have := hp.symm.trans h.book.box
    injection this with this
    injection this with _ this
    exact absurd this (by decide)
  refine ⟨⟨(far bs nbs).trans h.book.box, h.book.map.move fun b e => by subst e; exact far b (fun e => mb_ne h.book _ _ (e ▸ hp))⟩, ((((((((h.below.setCell hw _).setCell hw _).setCell hw _).setCell hw _).setCell hw _).setCell hw _).setCell hw _).setCell hw _).setCell hw _, h.hbs, h.hb, fun x hx => ?_⟩
  rcases List.mem_cons.1 hx with rfl | hx
  · exact ⟨at_, show (24 : Nat) ≠ 54 by decide⟩
  · have := hlt x hx
    exact ⟨(far x.1 (by omega)).trans (h.keep x hx).1, (h.keep x hx).2⟩
theorem Lr.mono (h : Lr w W bs mb n M bl) {m : Nat} (hm : n ≤ m) : Lr w W bs mb m M bl := ⟨⟨h.book.box, h.book.map.mono hm⟩, h.below, h.hbs, h.hb, h.keep⟩
theorem Lr.drop (h : Lr w W bs mb n M bl) : Lr w W bs mb n M [] := ⟨h.book, h.below, h.hbs, h.hb, fun x hx => by cases hx⟩
theorem Do_L (h : Lr w W bs mb n M bl) (o : Order) (hx : (Lit.int .i64 o.owner).wf = true) (hn : n < maxLen) :
    Calls Try.prog 20 #[.pointer (some ⟨bs, 0, none⟩), ordV o] W fun e w' => e = .returned (.int .i64 (why M o)) ∧ ∃ mb', Lr w w' bs mb' (n + 1) (aft M o) bl := by
  by_cases hw : why M o = 0
  · refine (Do_ok h.book o hx hw hn).mono ?_
    rintro e W' ⟨rfl, b, hb, hB, ht⟩
    refine ⟨by rw [hw], some b, ?_⟩
    unfold aft
    rw [if_pos hw]
    have hbw : w.heap.size ≤ b := by
      rcases hb with e | ⟨_, hb⟩
      · exact h.hb b e
      · exact Nat.le_trans h.below.size hb
    refine ⟨hB, h.below.trans (ht.under h.below.size h.hbs (fun k hk => by omega)), h.hbs, fun b' e => by injection e with e; omega, fun x hx => ?_⟩
    obtain ⟨hk, hne⟩ := h.keep x hx
    refine ⟨(ht.block x.1 (blk_lt hk) ?_ ?_).trans hk, hne⟩
    · intro e
      rw [e] at hk
      have := hk.symm.trans h.book.box
      injection this with this
      injection this with _ this
      exact hne this
    · intro e
      rcases hb with rfl | ⟨_, hb⟩
      · exact mb_ne h.book _ _ (e ▸ hk)
      · have := blk_lt hk
        omega
  · refine (Do_bad h.book o hx hw).mono ?_
    rintro e W' ⟨rfl, hb⟩
    refine ⟨rfl, mb, ?_⟩
    unfold aft
    rw [if_neg hw]
    exact (h.move hb).mono (Nat.le_succ n)
theorem All_L (h : Lr w W bs mb n M bl) (hn : n ≤ 1000) : Calls Try.prog 24 #[.pointer (some ⟨bs, 0, none⟩)] W fun e w' => ∃ A1 c1, e = .returned (.slice A1 M.length c1) ∧ Below W.heap.size W w' := by
  refine (All_ h.book (by omega)).mono ?_
  rintro e w2 ⟨u, rfl, hu, hb⟩
  have hul : (keysL M).length = M.length := List.length_map _
  have hR1 : Kd.R (Kd.int .i64) 3 w2 W.heap.size (fun _ => True) u (keysL M) := Kd.R_of_own (by rw [hul]; have e : ownersV M = encs (fun x : Int => Value.int .i64 x) (keysL M) := (by simp [ownersV, encs, keysL]); rw [← e]; exact hu) (fun _ _ => trivial)
  obtain ⟨A1, c1, rfl⟩ := Kd.R_slice hR1
  exact ⟨A1, c1, by rw [hul], hb⟩
/-- Ways that meet again. -/
theorem join_region {P : Program} {c : Code} {a : Act} {W : World} {Q : Exit → Act → World → Prop} (F : Nat → World → Prop) {A : Nat → Act} (h : Code.wp P c (fun e a' W' => ∃ p, F p W' ∧ e = .normal ∧ a' = A p) a W) (hn : ∀ p W', F p W' → Q .normal (A p) W') : Code.wp P c Q a W :=
  Code.wp_mono (fun e a' W' ⟨p, hp, he, ha⟩ => by subst he ha; exact hn p W' hp) h
end Go.Proofs.Ytdnhmlpjohojdaa.Adm.Bk
namespace Go.Proofs.Ytdnhmlpjohojdaa.Adm.Bk
open Go.RowKit Go.Maps Go.WideMaps Go.Proofs.Ytdnhmlpjohojdaa.Tab Go.Proofs.Ytdnhmlpjohojdaa.Adm Go.Proofs.Ytdnhmlpjohojdaa.R Go.Proofs.YtdnhmlpjohojdaaW.PrintWords Go.Proofs.YtdnhmlpjohojdaaW.PrintLast Go.Proofs.YtdnhmlpjohojdaaW.PrintMore
attribute [local go_sem ↓] Go.wp_at_zero Go.wp_at_succ
theorem other_ne (x : Int) : wrap64 (x.tmod 8 + 1) ≠ x := by
  have h1 := Int.tmod_add_mul_tdiv x 8
  have h2 : -8 < x.tmod 8 := Int.lt_tmod_of_pos x (by omega)
  have h3 : x.tmod 8 < 8 := Int.tmod_lt_of_pos x (by omega)
  rw [IntWalk.wrap64_in _ (by omega)]
  omega
def holds9 (w : World) (p : Nat) : Prop := ∃ cs, w.heap[p]? = some (.cells cs 24 (0, 0)) ∧ cs.size = 9
set_option maxRecDepth 100000 in
theorem st9 (w : World) (p : Nat) (a0 a1 a2 a3 a4 a5 a6 a7 a8 : Int) (h : holds9 w p) : ∃ W9, (Instr.storeAt 24 (.pointer (some ⟨p, 0, none⟩)) (.agg #[.int .i64 a0, .int .i64 a1, .int .i64 a2, .int .i64 a3, .int .i64 a4, .int .i64 a5, .int .i64 a6, .int .i64 a7, .int .i64 a8])).run Try.prog w = .ok () W9 ∧ W9.heap[p]? = some (.cells #[.int .i64 a0, .int .i64 a1, .int .i64 a2, .int .i64 a3, .int .i64 a4, .int .i64 a5, .int .i64 a6, .int .i64 a7, .int .i64 a8] 24 (0, 0)) ∧ w.grownBy W9 (some p) := by
  obtain ⟨cs, h1, h2⟩ := h
  have hst := run_store_run (P := Try.prog) (o := 0) 24 (.agg #[.int .i64 a0, .int .i64 a1, .int .i64 a2, .int .i64 a3, .int .i64 a4, .int .i64 a5, .int .i64 a6, .int .i64 a7, .int .i64 a8]) [.int .i64 a0, .int .i64 a1, .int .i64 a2, .int .i64 a3, .int .i64 a4, .int .i64 a5, .int .i64 a6, .int .i64 a7, .int .i64 a8] h1 rfl inf24 (by simp [h2]) (by simp [Value.oneCell'])
  obtain ⟨cur', c1, c2, c3⟩ := setCells_row [.int .i64 a0, .int .i64 a1, .int .i64 a2, .int .i64 a3, .int .i64 a4, .int .i64 a5, .int .i64 a6, .int .i64 a7, .int .i64 a8] 0 w cs h1 (by simp [h2])
  obtain ⟨s1, s2, s3, s4⟩ := setCells_same p [.int .i64 a0, .int .i64 a1, .int .i64 a2, .int .i64 a3, .int .i64 a4, .int .i64 a5, .int .i64 a6, .int .i64 a7, .int .i64 a8] 0 w
  refine ⟨_, hst, ?_, s1, s2, s3, Nat.le_of_eq s4.symm, fun k _ hne => setCells_far _ _ k (fun hk => hne (by rw [hk]))⟩
  rw [c1]
  have : cur' = #[.int .i64 a0, .int .i64 a1, .int .i64 a2, .int .i64 a3, .int .i64 a4, .int .i64 a5, .int .i64 a6, .int .i64 a7, .int .i64 a8] := by
    apply Array.toList_inj.1
    rw [c3]
    simp
    omega
  rw [this]
theorem Lr.put9 {w W W9 : World} {bs n : Nat} {mb : Option Nat} {M : Mp} {bl : List Blk} (h : Lr w W bs mb n M bl) {p : Nat} {cs c9 : Array Value} (hp : W.heap[p]? = some (.cells cs 24 (0, 0))) (hw : w.heap.size ≤ p) (hlt : ∀ x ∈ bl, x.1 < p) (h9 : W9.heap[p]? = some (.cells c9 24 (0, 0))) (g9 : W.grownBy W9 (some p)) : Lr w W9 bs mb n M ((p, c9, 24) :: bl) := by
  have far : ∀ k, k < W.heap.size → k ≠ p → W9.heap[k]? = W.heap[k]? := fun k hk hne => g9.block k hk (fun e => hne (Option.some.inj e))
  have nbs : bs ≠ p := by
    rintro rfl
    have := hp.symm.trans h.book.box
    injection this with this
    injection this with _ this
    exact absurd this (by decide)
  refine ⟨⟨(far bs h.book.lt nbs).trans h.book.box, h.book.map.move fun b e => by subst e; exact far b h.book.map.lt (fun e => mb_ne h.book _ _ (e ▸ hp))⟩, h.below.grown g9 h.below.size (fun k e => by injection e with e; omega), h.hbs, h.hb, fun x hx => ?_⟩
  rcases List.mem_cons.1 hx with rfl | hx
  · exact ⟨h9, show (24 : Nat) ≠ 54 by decide⟩
  · have := hlt x hx
    exact ⟨(far x.1 (h.lt x hx) (by omega)).trans (h.keep x hx).1, (h.keep x hx).2⟩
set_option maxRecDepth 100000 in
set_option maxHeartbeats 4000000 in
theorem AdminLives_walk (w : World) (Al : Option Addr) (cl : Nat) (l : List Order) (hr : Kd.C kO w Al l.length l) (hc : l.length ≤ cl) (hq : ∀ x ∈ l, Open.WfO x) (hlen : l.length * 96 ≤ 140737488351232) :
    Calls Try.prog 6 #[.slice Al l.length cl] w fun e w' => e = .returned (.bool true) ∧ Below w.heap.size w w' := by
  clear hlen
  have HR := Lib.hid hr
  have HQ := Lib.hid hq
  have HCL := Lib.hid hc
  clear hr hq hc
  by_cases h200 : l.length ≤ 200
  · have H200 := Lib.hid h200
    have h201 : ((l.length : Int) > 200) = False := by simp; omega
    go_enter Try.func6, Try.ntmps6
    go_wp2_with fail
    have D0 : Hid (Lr w (w.alloc (.cells #[.map none] 54)) w.heap.size none 0 [] []) := Lib.hid ⟨new_at w 0, (Below.refl _ _).alloc (Nat.le_refl _) _, Nat.le_refl _, fun b e => (by cases e), fun x hx => (by cases hx)⟩
    generalize w.alloc (.cells #[.map none] 54) = W0 at *
    obtain ⟨bs, hbse⟩ : ∃ bs, bs = w.heap.size := ⟨_, rfl⟩
    rw [← hbse] at D0 ⊢
    clear hbse
    go_loopw [4] (fun v0 wr => ∃ (i : Nat) (mb : Option Nat) (M : Mp), i ≤ l.length ∧ v0 = .int .i64 i ∧ Hid (Lr w wr bs mb i M [])) (fun v0 _ => l.length - (intOf v0).toNat)
    case atStart => exact ⟨0, none, [], Nat.zero_le _, rfl, D0⟩
    case round =>
      clear D0
      obtain ⟨i, mb, M, hil, rfl, HI⟩ := hrel
      by_cases hlt : i < l.length
      · obtain ⟨ad, ead⟩ : ∃ ad, Al = some ad := by
          obtain ⟨ad, e, _⟩ := HR.out.2.2 (by omega)
          exact ⟨ad, e⟩
        subst ead
        obtain ⟨o, HOe⟩ : ∃ o, Hid (l.getD i default = o) := ⟨_, Lib.hid rfl⟩
        have HWF := Lib.hid (HQ.out o (by rw [← HOe.out]; simp [List.getD_eq_getElem?_getD, List.getElem?_eq_getElem hlt]))
        obtain ⟨x0, x1, x2, x3, x4, x5, x6, x7, x8, x9, x10, x11⟩ := ord_cells (Kd.C_below HR.out HI.out.below) i hlt o HOe.out
        have hi0 : (0 : Int) ≤ (i : Int) := by omega
        have hic : (i : Int) < (l.length : Int) := by omega
        have hic2 : (i : Int) ≤ (cl : Int) := by have := HCL.out; omega
        have hi2 : i ≤ 200 := by have := H200.out; omega
        have HOU := Lib.hid (ours_ o)
        have HL := Lib.hid (fun (W : World) (h : Lr w W bs mb i M []) => Lives_ h.book o.owner HWF.out.2.2.1)
        have HRS := Lib.hid (fun (W : World) (h : Lr w W bs mb i M []) => Rests_ h.book o.owner HWF.out.2.2.1)
        have HF := Lib.hid (fun (W : World) (h : Lr w W bs mb i M []) => Conf_ h.book o.owner HWF.out.2.2.1)
        have HAL := Lib.hid (fun (W : World) (h : Lr w W bs mb i M []) => All_L h (by omega))
        have HWO := Lib.hid HWF.out.2.2.1
        have HI3 := Lib.hid hi2
        have HDO := Lib.hid (fun (bl : List Blk) (W : World) (h : Lr w W bs mb i M bl) => Do_L h o HWO.out (by unfold maxLen; omega))
        have HNX := Lib.hid (fun (mb' : Option Nat) (W : World) (h : Lr w W bs mb' (i + 1) (aft M o) []) => And.intro (Lives_ h.book o.owner HWO.out) (And.intro (Rests_ h.book o.owner HWO.out) (And.intro (Conf_ h.book o.owner HWO.out) (All_L h (by omega)))))
        have HT := Lib.hid (fun h => aft_turned M o h)
        have HST := Lib.hid (fun h : why M o ≠ 0 => (show aft M o = M from if_neg h))
        have HZ := Lib.hid (dead_zero (aft M o) o.owner)
        have HOT := Lib.hid (aft_other M o)
        have hS := HI.out
        obtain ⟨id, op, owner, v⟩ := o
        simp only at x0 x1 x2 x3 x4 x5 x6 x7 x8 x9 x10 x11
        simp only [ordV, cells12] at HOU HDO
        simp only [cells9] at HF HNX
        simp only at HL HRS HF HNX HT HZ HOT
        go_wp2_with fail
        refine (HOU.out _).mono ?_
        rintro e w4 ⟨rfl, hb⟩
        replace hS := hS.move hb
        clear hb HOU x0 x1 x2 x3 x4 x5 x6 x7 x8 x9 x10 x11
        go_wp2_with fail
        have hS5 := hS.push (cells12 ⟨id, op, owner, v⟩) 30 (by decide)
        simp only [cells12] at hS5
        generalize w4.alloc (.cells #[.int .u64 id, .int .i64 op, .int .i64 owner, .int .i64 (v 0), .int .i64 (v 1), .int .i64 (v 2), .int .i64 (v 3), .int .i64 (v 4), .int .i64 (v 5), .int .i64 (v 6), .int .i64 (v 7), .int .i64 (v 8)] 30) = W5 at *
        generalize w4.heap.size = po at *
        clear hS
        have x2 : W5.cell? ⟨po, 2, none⟩ = some (.int .i64 owner) := blk_cell (hS5.keep _ (.head _)).1 2
        have hS := hS5
        clear hS5
        obtain ⟨t0, HT0⟩ : ∃ t0, Hid (ten M owner = t0) := ⟨_, Lib.hid rfl⟩
        obtain ⟨l0, HL0⟩ : ∃ l0, Hid (lives M owner = l0) := ⟨_, Lib.hid rfl⟩
        rw [HL0.out] at HL
        rw [HT0.out] at HRS HF
        obtain ⟨v0, r0⟩ := t0
        simp only at HRS HF
        apply join_region (fun p W => Lr w W bs mb i M ((p, cells9 v0, 24) :: (po, cells12 ⟨id, op, owner, v⟩, 30) :: []))
        · have nn0 := World.new_ne W5 _ x2
          go_region_held3 (fun w' => w'.cell? ⟨po, 2, none⟩ = some (.int .i64 owner)) (first | exact x9 | exact x2 | go_keep)
            (first
              | (go_at_call 21; (with_reducible refine (HL.out _ ?_).mono ?_); (exact hS.drew.drop); rintro e wc0 ⟨rfl, hb⟩; (try (replace q7 := (hb.block _ (blk_lt q7)).trans q7)); have hbb := (Below.refl _ _).drew.trans (hb.mono (Nat.le_refl _)); replace x2 := pw_cell_below hbb x2; replace hS := hS.move hbb; clear hb hbb; have nn1 := World.new_ne wc0 _ x2)
              | (go_at_call 21; (with_reducible refine (HL.out _ ?_).mono ?_); (exact (hS.alloc _).drew.drop); rintro e wc0 ⟨rfl, hb⟩; have q7 := (hb.block W5.heap.size (by simp)).trans (heap_alloc_last W5 (.cells #[.int .i64 0, .int .i64 0, .int .i64 0, .int .i64 0, .int .i64 0, .int .i64 0, .int .i64 0, .int .i64 0, .int .i64 0] 24 (0, 0))); have hbb := (((Below.refl W5.heap.size W5).alloc (Nat.le_refl _) (.cells #[.int .i64 0, .int .i64 0, .int .i64 0, .int .i64 0, .int .i64 0, .int .i64 0, .int .i64 0, .int .i64 0, .int .i64 0] 24)).drew).trans (hb.mono (by simp)); have hlt7 := hS.lt; have hw7 := hS.below.size; replace x2 := pw_cell_below hbb x2; replace hS := hS.move hbb; clear hb hbb; have nn1 := World.new_ne wc0 _ x2; generalize W5.heap.size = p7 at *)
              | (go_at_call 22; (with_reducible refine (HRS.out _ ?_).mono ?_); (exact hS.drop); rintro e wc1 ⟨rfl, hb⟩; (try (replace q7 := (hb.block _ (blk_lt q7)).trans q7)); have hbb := hb; replace x2 := pw_cell_below hbb x2; replace hS := hS.move hbb; clear hb hbb; have nn2 := World.new_ne wc1 _ x2)
              | (go_at_call 22; (with_reducible refine (HRS.out _ ?_).mono ?_); (exact (hS.alloc _).drop); rintro e wc1 ⟨rfl, hb⟩; have q7 := (hb.block wc0.heap.size (by simp)).trans (heap_alloc_last wc0 (.cells #[.int .i64 0, .int .i64 0, .int .i64 0, .int .i64 0, .int .i64 0, .int .i64 0, .int .i64 0, .int .i64 0, .int .i64 0] 24 (0, 0))); have hbb := (((Below.refl wc0.heap.size wc0).alloc (Nat.le_refl _) (.cells #[.int .i64 0, .int .i64 0, .int .i64 0, .int .i64 0, .int .i64 0, .int .i64 0, .int .i64 0, .int .i64 0, .int .i64 0] 24))).trans (hb.mono (by simp)); have hlt7 := hS.lt; have hw7 := hS.below.size; replace x2 := pw_cell_below hbb x2; replace hS := hS.move hbb; clear hb hbb; have nn2 := World.new_ne wc1 _ x2; generalize wc0.heap.size = p7 at *)
              | (go_at_call 23; (with_reducible refine (HF.out _ ?_).mono ?_); (exact hS.drop); rintro e wc2 ⟨rfl, hb⟩; (try (replace q7 := (hb.block _ (blk_lt q7)).trans q7)); have hbb := hb; replace x2 := pw_cell_below hbb x2; replace hS := hS.move hbb; clear hb hbb; have nn3 := World.new_ne wc2 _ x2; (try (obtain ⟨W9, hst, h9, g9⟩ := st9 wc2 p7 (v0 0) (v0 1) (v0 2) (v0 3) (v0 4) (v0 5) (v0 6) (v0 7) (v0 8) ⟨_, q7, rfl⟩; simp [go_sem] at hst; have x9 : W9.cell? ⟨po, 2, none⟩ = some (.int .i64 owner) := (World.cell?_of_block (g9.block po (World.block_lt_of_cell? _ _ x2) (fun e => absurd (Option.some.inj e).symm (by assumption)))).trans x2)))
              | (go_at_call 23; (with_reducible refine (HF.out _ ?_).mono ?_); (exact (hS.alloc _).drop); rintro e wc2 ⟨rfl, hb⟩; have q7 := (hb.block wc1.heap.size (by simp)).trans (heap_alloc_last wc1 (.cells #[.int .i64 0, .int .i64 0, .int .i64 0, .int .i64 0, .int .i64 0, .int .i64 0, .int .i64 0, .int .i64 0, .int .i64 0] 24 (0, 0))); have hbb := (((Below.refl wc1.heap.size wc1).alloc (Nat.le_refl _) (.cells #[.int .i64 0, .int .i64 0, .int .i64 0, .int .i64 0, .int .i64 0, .int .i64 0, .int .i64 0, .int .i64 0, .int .i64 0] 24))).trans (hb.mono (by simp)); have hlt7 := hS.lt; have hw7 := hS.below.size; replace x2 := pw_cell_below hbb x2; replace hS := hS.move hbb; clear hb hbb; have nn3 := World.new_ne wc2 _ x2; generalize wc1.heap.size = p7 at *; (try (obtain ⟨W9, hst, h9, g9⟩ := st9 wc2 p7 (v0 0) (v0 1) (v0 2) (v0 3) (v0 4) (v0 5) (v0 6) (v0 7) (v0 8) ⟨_, q7, rfl⟩; simp [go_sem] at hst; have x9 : W9.cell? ⟨po, 2, none⟩ = some (.int .i64 owner) := (World.cell?_of_block (g9.block po (World.block_lt_of_cell? _ _ x2) (fun e => absurd (Option.some.inj e).symm (by assumption)))).trans x2))))
          all_goals first
            | exact ⟨p7, hS.put9 q7 hw7 hlt7 h9 g9, rfl, rfl⟩
            | (have hS9 := hS.push (cells9 v0) 24 (by decide); generalize wc2.heap.size = p7 at hS9 ⊢; exact ⟨p7, hS9, rfl, rfl⟩)
        · clear x2 hS
          rintro p8 W8 hS
          go_wp2_with fail
          refine (HAL.out _ hS.drop).mono ?_
          rintro e w9 ⟨A9, c9, rfl, hb⟩
          replace hS := hS.move hb
          clear hb
          have x2 : w9.cell? ⟨po, 2, none⟩ = some (.int .i64 owner) := blk_cell (hS.keep _ (.tail _ (.head _))).1 2
          go_wp2_with fail
          refine (Lives_ hS.book _ (wrap64_wf _)).mono ?_
          rintro e w10 ⟨rfl, hb⟩
          replace hS := hS.move hb
          clear hb x2
          have HCO := Lib.hid (Conf_ hS.book _ (wrap64_wf (owner.tmod 8 + 1)))
          have HNE := Lib.hid (other_ne owner)
          have HOW := Lib.hid (wrap64_wf (owner.tmod 8 + 1))
          generalize wrap64 (owner.tmod 8 + 1) = other at *
          obtain ⟨lo, HLO⟩ : ∃ lo, Hid (lives M other = lo) := ⟨_, Lib.hid rfl⟩
          obtain ⟨tO, HTO⟩ : ∃ tO, Hid (ten M other = tO) := ⟨_, Lib.hid rfl⟩
          rw [HTO.out] at HCO
          rw [HLO.out]
          obtain ⟨vo, ro⟩ := tO
          simp only [cells9] at HCO
          go_wp2_with fail
          refine HCO.out.mono ?_
          rintro e w11 ⟨rfl, hb⟩
          replace hS := hS.move hb
          clear hb HCO
          have qo := (hS.keep _ (.tail _ (.head _))).1
          have y : ∀ k, w11.cell? ⟨po, k, none⟩ = (cells12 ⟨id, op, owner, v⟩)[k]? := fun k => blk_cell qo k
          have hpo : po < w11.heap.size := blk_lt qo
          have hpn : w11.heap.size ≠ po := by omega
          clear qo
          go_wp2_with fail
          have hS12 := hS.push (cells9 vo) 24 (by decide)
          refine (HDO.out _ _ hS12).mono ?_
          rintro e w13 ⟨rfl, mb', hS13⟩
          clear y hpn hS12 hS HDO
          generalize w11.heap.size = p12 at *
          have hS := hS13
          clear hS13 hpo
          obtain ⟨t1, HT1⟩ : ∃ t1, Hid (ten (aft M ⟨id, op, owner, v⟩) owner = t1) := ⟨_, Lib.hid rfl⟩
          obtain ⟨l1, HL1⟩ : ∃ l1, Hid (lives (aft M ⟨id, op, owner, v⟩) owner = l1) := ⟨_, Lib.hid rfl⟩
          have HNL := Lib.hid (fun (W : World) (h : Lr w W bs mb' (i + 1) (aft M ⟨id, op, owner, v⟩) []) => (HNX.out mb' W h).1)
          have HNR := Lib.hid (fun (W : World) (h : Lr w W bs mb' (i + 1) (aft M ⟨id, op, owner, v⟩) []) => (HNX.out mb' W h).2.1)
          have HNF := Lib.hid (fun (W : World) (h : Lr w W bs mb' (i + 1) (aft M ⟨id, op, owner, v⟩) []) => (HNX.out mb' W h).2.2.1)
          try simp only at HNL HNR HNF
          rw [HL1.out] at HNL
          rw [HT1.out] at HNR HNF
          obtain ⟨v1, r1⟩ := t1
          try simp only at HNR HNF
          have x2 : w13.cell? ⟨po, 2, none⟩ = some (.int .i64 owner) := blk_cell (hS.keep _ (.tail _ (.tail _ (.head _)))).1 2
          go_wp2_with fail
          apply join_region (fun p W => Lr w W bs mb' (i + 1) (aft M ⟨id, op, owner, v⟩) ((p, cells9 v1, 24) :: (p12, cells9 vo, 24) :: (p8, cells9 v0, 24) :: (po, cells12 ⟨id, op, owner, v⟩, 30) :: []))
          · have nn0 := World.new_ne w13 _ x2
            go_region_held3 (fun w' => w'.cell? ⟨po, 2, none⟩ = some (.int .i64 owner)) (first | exact x9 | exact x2 | go_keep)
              (first
              | (go_at_call 21; (with_reducible refine (HNL.out _ ?_).mono ?_); (exact hS.drew.drop); rintro e wc0 ⟨rfl, hb⟩; (try (replace q7 := (hb.block _ (blk_lt q7)).trans q7)); have hbb := (Below.refl _ _).drew.trans (hb.mono (Nat.le_refl _)); replace x2 := pw_cell_below hbb x2; replace hS := hS.move hbb; clear hb hbb; have nn1 := World.new_ne wc0 _ x2)
              | (go_at_call 21; (with_reducible refine (HNL.out _ ?_).mono ?_); (exact (hS.alloc _).drew.drop); rintro e wc0 ⟨rfl, hb⟩; have q7 := (hb.block w13.heap.size (by simp)).trans (heap_alloc_last w13 (.cells #[.int .i64 0, .int .i64 0, .int .i64 0, .int .i64 0, .int .i64 0, .int .i64 0, .int .i64 0, .int .i64 0, .int .i64 0] 24 (0, 0))); have hbb := (((Below.refl w13.heap.size w13).alloc (Nat.le_refl _) (.cells #[.int .i64 0, .int .i64 0, .int .i64 0, .int .i64 0, .int .i64 0, .int .i64 0, .int .i64 0, .int .i64 0, .int .i64 0] 24)).drew).trans (hb.mono (by simp)); have hlt7 := hS.lt; have hw7 := hS.below.size; replace x2 := pw_cell_below hbb x2; replace hS := hS.move hbb; clear hb hbb; have nn1 := World.new_ne wc0 _ x2; generalize w13.heap.size = p7 at *)
              | (go_at_call 22; (with_reducible refine (HNR.out _ ?_).mono ?_); (exact hS.drop); rintro e wc1 ⟨rfl, hb⟩; (try (replace q7 := (hb.block _ (blk_lt q7)).trans q7)); have hbb := hb; replace x2 := pw_cell_below hbb x2; replace hS := hS.move hbb; clear hb hbb; have nn2 := World.new_ne wc1 _ x2)
              | (go_at_call 22; (with_reducible refine (HNR.out _ ?_).mono ?_); (exact (hS.alloc _).drop); rintro e wc1 ⟨rfl, hb⟩; have q7 := (hb.block wc0.heap.size (by simp)).trans (heap_alloc_last wc0 (.cells #[.int .i64 0, .int .i64 0, .int .i64 0, .int .i64 0, .int .i64 0, .int .i64 0, .int .i64 0, .int .i64 0, .int .i64 0] 24 (0, 0))); have hbb := (((Below.refl wc0.heap.size wc0).alloc (Nat.le_refl _) (.cells #[.int .i64 0, .int .i64 0, .int .i64 0, .int .i64 0, .int .i64 0, .int .i64 0, .int .i64 0, .int .i64 0, .int .i64 0] 24))).trans (hb.mono (by simp)); have hlt7 := hS.lt; have hw7 := hS.below.size; replace x2 := pw_cell_below hbb x2; replace hS := hS.move hbb; clear hb hbb; have nn2 := World.new_ne wc1 _ x2; generalize wc0.heap.size = p7 at *)
              | (go_at_call 23; (with_reducible refine (HNF.out _ ?_).mono ?_); (exact hS.drop); rintro e wc2 ⟨rfl, hb⟩; (try (replace q7 := (hb.block _ (blk_lt q7)).trans q7)); have hbb := hb; replace x2 := pw_cell_below hbb x2; replace hS := hS.move hbb; clear hb hbb; have nn3 := World.new_ne wc2 _ x2; (try (obtain ⟨W9, hst, h9, g9⟩ := st9 wc2 p7 (v1 0) (v1 1) (v1 2) (v1 3) (v1 4) (v1 5) (v1 6) (v1 7) (v1 8) ⟨_, q7, rfl⟩; simp [go_sem] at hst; have x9 : W9.cell? ⟨po, 2, none⟩ = some (.int .i64 owner) := (World.cell?_of_block (g9.block po (World.block_lt_of_cell? _ _ x2) (fun e => absurd (Option.some.inj e).symm (by assumption)))).trans x2)))
              | (go_at_call 23; (with_reducible refine (HNF.out _ ?_).mono ?_); (exact (hS.alloc _).drop); rintro e wc2 ⟨rfl, hb⟩; have q7 := (hb.block wc1.heap.size (by simp)).trans (heap_alloc_last wc1 (.cells #[.int .i64 0, .int .i64 0, .int .i64 0, .int .i64 0, .int .i64 0, .int .i64 0, .int .i64 0, .int .i64 0, .int .i64 0] 24 (0, 0))); have hbb := (((Below.refl wc1.heap.size wc1).alloc (Nat.le_refl _) (.cells #[.int .i64 0, .int .i64 0, .int .i64 0, .int .i64 0, .int .i64 0, .int .i64 0, .int .i64 0, .int .i64 0, .int .i64 0] 24))).trans (hb.mono (by simp)); have hlt7 := hS.lt; have hw7 := hS.below.size; replace x2 := pw_cell_below hbb x2; replace hS := hS.move hbb; clear hb hbb; have nn3 := World.new_ne wc2 _ x2; generalize wc1.heap.size = p7 at *; (try (obtain ⟨W9, hst, h9, g9⟩ := st9 wc2 p7 (v1 0) (v1 1) (v1 2) (v1 3) (v1 4) (v1 5) (v1 6) (v1 7) (v1 8) ⟨_, q7, rfl⟩; simp [go_sem] at hst; have x9 : W9.cell? ⟨po, 2, none⟩ = some (.int .i64 owner) := (World.cell?_of_block (g9.block po (World.block_lt_of_cell? _ _ x2) (fun e => absurd (Option.some.inj e).symm (by assumption)))).trans x2))))
            all_goals first
              | exact ⟨p7, hS.put9 q7 hw7 hlt7 h9 g9, rfl, rfl⟩
              | (have hS9 := hS.push (cells9 v1) 24 (by decide); generalize wc2.heap.size = p7 at hS9 ⊢; exact ⟨p7, hS9, rfl, rfl⟩)
          · clear x2 hS
            rintro p16 W16 hS
            have HPL := Lib.hid (fun (W : World) (h : Lr w W bs mb' (i + 1) (aft M ⟨id, op, owner, v⟩) []) => Lives_ h.book other HOW.out)
            have HPF := Lib.hid (fun (W : World) (h : Lr w W bs mb' (i + 1) (aft M ⟨id, op, owner, v⟩) []) => Conf_ h.book other HOW.out)
            rw [(HOT.out other HNE.out).1, HLO.out] at HPL
            rw [(HOT.out other HNE.out).2, HTO.out] at HPF
            simp only [cells9] at HPF
            have hne : decide (other = owner) = false := decide_eq_false HNE.out
            have hne2 : (other == owner) = false := beq_eq_false_iff_ne.2 HNE.out
            have hne3 : (other != owner) = true := bne_iff_ne.2 HNE.out
            have HA := Lib.hid (fun (W : World) (h : Lr w W bs mb' (i + 1) (aft M ⟨id, op, owner, v⟩) []) => (HNX.out mb' W h).2.2.2)
            clear HNX HAL HNL HNR HNF HL HRS HF
            generalize HWY : why M ⟨id, op, owner, v⟩ = wy at *
            generalize HAF : aft M ⟨id, op, owner, v⟩ = N at *
            by_cases hw : wy = 0
            · have HTT := HT.out hw
              rw [HL0.out, HL1.out, HT0.out, HT1.out] at HTT
              have HWW := Lib.hid hw
              subst hw
              unfold Turned at HTT
              have HD := Lib.hid (fun h : l1 = false => (HT1.out.symm.trans (HZ.out (HL1.out.trans h)) : (⟨v1, r1⟩ : Ten) = zeroT))
              clear HT HST HL0 HT0 HL1 HT1 HWW HZ HOT HLO HTO HA
              rcases HTT with ⟨e1, e2, e3, e4, e5⟩ | ⟨e1, e2, e3⟩ | ⟨e1, e2, e3, e4, e5⟩ | ⟨e1, e2, e3, e4, e5⟩ | ⟨e1, e2, e3, e4⟩ | ⟨e1, e2, e3, e4⟩
              · injection e4 with e6 e7
                clear HD
                subst e1 e2 e3 e6 e7
                have hq : decide (v1 0 < 1040) = false := decide_eq_false (by omega)
                as_aux_lemma =>
                  obtain ⟨F, hFe⟩ : ∃ F : World → Prop, F = fun W => Lr w W bs mb' (i + 1) N ((p16, cells9 v1, 24) :: (p12, cells9 vo, 24) :: (p8, cells9 v0, 24) :: (po, cells12 ⟨id, 1, owner, v1⟩, 30) :: []) := ⟨_, rfl⟩
                  have hF : F W16.drew := by rw [hFe]; exact hS.drew
                  have x2 : ∀ d : Line.Cls F, d.W.cell? ⟨po, 2, none⟩ = some (.int .i64 owner) := fun d => blk_cell ((hFe ▸ d.h : Lr w d.W bs mb' (i + 1) N ((p16, cells9 v1, 24) :: (p12, cells9 vo, 24) :: (p8, cells9 v0, 24) :: (po, cells12 ⟨id, 1, owner, v1⟩, 30) :: [])).keep _ (.tail _ (.tail _ (.tail _ (.head _))))).1 2
                  have a0 : ∀ d : Line.Cls F, d.W.cell? ⟨p12, 0, none⟩ = some (.int .i64 (vo 0)) := fun d => blk_cell ((hFe ▸ d.h : Lr w d.W bs mb' (i + 1) N ((p16, cells9 v1, 24) :: (p12, cells9 vo, 24) :: (p8, cells9 v0, 24) :: (po, cells12 ⟨id, 1, owner, v1⟩, 30) :: [])).keep _ (.tail _ (.head _))).1 0
                  have a1 : ∀ d : Line.Cls F, d.W.cell? ⟨p12, 1, none⟩ = some (.int .i64 (vo 1)) := fun d => blk_cell ((hFe ▸ d.h : Lr w d.W bs mb' (i + 1) N ((p16, cells9 v1, 24) :: (p12, cells9 vo, 24) :: (p8, cells9 v0, 24) :: (po, cells12 ⟨id, 1, owner, v1⟩, 30) :: [])).keep _ (.tail _ (.head _))).1 1
                  have a2 : ∀ d : Line.Cls F, d.W.cell? ⟨p12, 2, none⟩ = some (.int .i64 (vo 2)) := fun d => blk_cell ((hFe ▸ d.h : Lr w d.W bs mb' (i + 1) N ((p16, cells9 v1, 24) :: (p12, cells9 vo, 24) :: (p8, cells9 v0, 24) :: (po, cells12 ⟨id, 1, owner, v1⟩, 30) :: [])).keep _ (.tail _ (.head _))).1 2
                  have a3 : ∀ d : Line.Cls F, d.W.cell? ⟨p12, 3, none⟩ = some (.int .i64 (vo 3)) := fun d => blk_cell ((hFe ▸ d.h : Lr w d.W bs mb' (i + 1) N ((p16, cells9 v1, 24) :: (p12, cells9 vo, 24) :: (p8, cells9 v0, 24) :: (po, cells12 ⟨id, 1, owner, v1⟩, 30) :: [])).keep _ (.tail _ (.head _))).1 3
                  have a4 : ∀ d : Line.Cls F, d.W.cell? ⟨p12, 4, none⟩ = some (.int .i64 (vo 4)) := fun d => blk_cell ((hFe ▸ d.h : Lr w d.W bs mb' (i + 1) N ((p16, cells9 v1, 24) :: (p12, cells9 vo, 24) :: (p8, cells9 v0, 24) :: (po, cells12 ⟨id, 1, owner, v1⟩, 30) :: [])).keep _ (.tail _ (.head _))).1 4
                  have a5 : ∀ d : Line.Cls F, d.W.cell? ⟨p12, 5, none⟩ = some (.int .i64 (vo 5)) := fun d => blk_cell ((hFe ▸ d.h : Lr w d.W bs mb' (i + 1) N ((p16, cells9 v1, 24) :: (p12, cells9 vo, 24) :: (p8, cells9 v0, 24) :: (po, cells12 ⟨id, 1, owner, v1⟩, 30) :: [])).keep _ (.tail _ (.head _))).1 5
                  have a6 : ∀ d : Line.Cls F, d.W.cell? ⟨p12, 6, none⟩ = some (.int .i64 (vo 6)) := fun d => blk_cell ((hFe ▸ d.h : Lr w d.W bs mb' (i + 1) N ((p16, cells9 v1, 24) :: (p12, cells9 vo, 24) :: (p8, cells9 v0, 24) :: (po, cells12 ⟨id, 1, owner, v1⟩, 30) :: [])).keep _ (.tail _ (.head _))).1 6
                  have a7 : ∀ d : Line.Cls F, d.W.cell? ⟨p12, 7, none⟩ = some (.int .i64 (vo 7)) := fun d => blk_cell ((hFe ▸ d.h : Lr w d.W bs mb' (i + 1) N ((p16, cells9 v1, 24) :: (p12, cells9 vo, 24) :: (p8, cells9 v0, 24) :: (po, cells12 ⟨id, 1, owner, v1⟩, 30) :: [])).keep _ (.tail _ (.head _))).1 7
                  have a8 : ∀ d : Line.Cls F, d.W.cell? ⟨p12, 8, none⟩ = some (.int .i64 (vo 8)) := fun d => blk_cell ((hFe ▸ d.h : Lr w d.W bs mb' (i + 1) N ((p16, cells9 v1, 24) :: (p12, cells9 vo, 24) :: (p8, cells9 v0, 24) :: (po, cells12 ⟨id, 1, owner, v1⟩, 30) :: [])).keep _ (.tail _ (.head _))).1 8
                  have b0 : ∀ d : Line.Cls F, d.W.cell? ⟨p16, 0, none⟩ = some (.int .i64 (v1 0)) := fun d => blk_cell ((hFe ▸ d.h : Lr w d.W bs mb' (i + 1) N ((p16, cells9 v1, 24) :: (p12, cells9 vo, 24) :: (p8, cells9 v0, 24) :: (po, cells12 ⟨id, 1, owner, v1⟩, 30) :: [])).keep _ (.head _)).1 0
                  have b1 : ∀ d : Line.Cls F, d.W.cell? ⟨p16, 1, none⟩ = some (.int .i64 (v1 1)) := fun d => blk_cell ((hFe ▸ d.h : Lr w d.W bs mb' (i + 1) N ((p16, cells9 v1, 24) :: (p12, cells9 vo, 24) :: (p8, cells9 v0, 24) :: (po, cells12 ⟨id, 1, owner, v1⟩, 30) :: [])).keep _ (.head _)).1 1
                  have b2 : ∀ d : Line.Cls F, d.W.cell? ⟨p16, 2, none⟩ = some (.int .i64 (v1 2)) := fun d => blk_cell ((hFe ▸ d.h : Lr w d.W bs mb' (i + 1) N ((p16, cells9 v1, 24) :: (p12, cells9 vo, 24) :: (p8, cells9 v0, 24) :: (po, cells12 ⟨id, 1, owner, v1⟩, 30) :: [])).keep _ (.head _)).1 2
                  have b3 : ∀ d : Line.Cls F, d.W.cell? ⟨p16, 3, none⟩ = some (.int .i64 (v1 3)) := fun d => blk_cell ((hFe ▸ d.h : Lr w d.W bs mb' (i + 1) N ((p16, cells9 v1, 24) :: (p12, cells9 vo, 24) :: (p8, cells9 v0, 24) :: (po, cells12 ⟨id, 1, owner, v1⟩, 30) :: [])).keep _ (.head _)).1 3
                  have b4 : ∀ d : Line.Cls F, d.W.cell? ⟨p16, 4, none⟩ = some (.int .i64 (v1 4)) := fun d => blk_cell ((hFe ▸ d.h : Lr w d.W bs mb' (i + 1) N ((p16, cells9 v1, 24) :: (p12, cells9 vo, 24) :: (p8, cells9 v0, 24) :: (po, cells12 ⟨id, 1, owner, v1⟩, 30) :: [])).keep _ (.head _)).1 4
                  have b5 : ∀ d : Line.Cls F, d.W.cell? ⟨p16, 5, none⟩ = some (.int .i64 (v1 5)) := fun d => blk_cell ((hFe ▸ d.h : Lr w d.W bs mb' (i + 1) N ((p16, cells9 v1, 24) :: (p12, cells9 vo, 24) :: (p8, cells9 v0, 24) :: (po, cells12 ⟨id, 1, owner, v1⟩, 30) :: [])).keep _ (.head _)).1 5
                  have b6 : ∀ d : Line.Cls F, d.W.cell? ⟨p16, 6, none⟩ = some (.int .i64 (v1 6)) := fun d => blk_cell ((hFe ▸ d.h : Lr w d.W bs mb' (i + 1) N ((p16, cells9 v1, 24) :: (p12, cells9 vo, 24) :: (p8, cells9 v0, 24) :: (po, cells12 ⟨id, 1, owner, v1⟩, 30) :: [])).keep _ (.head _)).1 6
                  have b7 : ∀ d : Line.Cls F, d.W.cell? ⟨p16, 7, none⟩ = some (.int .i64 (v1 7)) := fun d => blk_cell ((hFe ▸ d.h : Lr w d.W bs mb' (i + 1) N ((p16, cells9 v1, 24) :: (p12, cells9 vo, 24) :: (p8, cells9 v0, 24) :: (po, cells12 ⟨id, 1, owner, v1⟩, 30) :: [])).keep _ (.head _)).1 7
                  have b8 : ∀ d : Line.Cls F, d.W.cell? ⟨p16, 8, none⟩ = some (.int .i64 (v1 8)) := fun d => blk_cell ((hFe ▸ d.h : Lr w d.W bs mb' (i + 1) N ((p16, cells9 v1, 24) :: (p12, cells9 vo, 24) :: (p8, cells9 v0, 24) :: (po, cells12 ⟨id, 1, owner, v1⟩, 30) :: [])).keep _ (.head _)).1 8
                  have mv : ∀ W W', F W → Below W.heap.size W W' → F W' := fun W W' h hb => by rw [hFe] at h ⊢; exact Lr.move h hb
                  have QL := Lib.hid (Line.cls_call mv (fun W hW => HPL.out W (by rw [hFe] at hW; exact Lr.drop hW)))
                  have QF := Lib.hid (Line.cls_call mv (fun W hW => HPF.out W (by rw [hFe] at hW; exact Lr.drop hW)))
                  clear HPL HPF mv hS
                  have HFE := Lib.hid hFe
                  clear hFe
                  have nonempty_cls : Nonempty (Line.Cls F) := ⟨⟨_, hF⟩⟩
                  go_wp2_with fail
                  refine Line.wp_region_cls (F := F) (by kernel_rfl) (by kernel_rfl) hF ?_
                  repeat (go_big_quiet_step (first | exact QL.out _ | exact QF.out _))
                  refine wpQuiet_nil ?_
                  intro W17 h17
                  rw [HFE.out] at h17
                  have hS : Lr w W17 bs mb' (i + 1) N ((p16, cells9 v1, 24) :: (p12, cells9 vo, 24) :: (p8, cells9 v0, 24) :: (po, cells12 ⟨id, 1, owner, v1⟩, 30) :: []) := h17
                  clear h17 HFE x2 a0 a1 a2 a3 a4 a5 a6 a7 a8 b0 b1 b2 b3 b4 b5 b6 b7 b8 QL QF nonempty_cls hF hne hne2 hne3
                  clear F
                  have cpo1 : W17.cell? ⟨po, 1, none⟩ = some (.int .i64 1) := blk_cell (hS.keep _ (.tail _ (.tail _ (.tail _ (.head _))))).1 1
                  have cp160 : W17.cell? ⟨p16, 0, none⟩ = some (.int .i64 (v1 0)) := blk_cell (hS.keep _ (.head _)).1 0
                  have cp161 : W17.cell? ⟨p16, 1, none⟩ = some (.int .i64 (v1 1)) := blk_cell (hS.keep _ (.head _)).1 1
                  have cp162 : W17.cell? ⟨p16, 2, none⟩ = some (.int .i64 (v1 2)) := blk_cell (hS.keep _ (.head _)).1 2
                  have cp163 : W17.cell? ⟨p16, 3, none⟩ = some (.int .i64 (v1 3)) := blk_cell (hS.keep _ (.head _)).1 3
                  have cp164 : W17.cell? ⟨p16, 4, none⟩ = some (.int .i64 (v1 4)) := blk_cell (hS.keep _ (.head _)).1 4
                  have cp165 : W17.cell? ⟨p16, 5, none⟩ = some (.int .i64 (v1 5)) := blk_cell (hS.keep _ (.head _)).1 5
                  have cp166 : W17.cell? ⟨p16, 6, none⟩ = some (.int .i64 (v1 6)) := blk_cell (hS.keep _ (.head _)).1 6
                  have cp167 : W17.cell? ⟨p16, 7, none⟩ = some (.int .i64 (v1 7)) := blk_cell (hS.keep _ (.head _)).1 7
                  have cp168 : W17.cell? ⟨p16, 8, none⟩ = some (.int .i64 (v1 8)) := blk_cell (hS.keep _ (.head _)).1 8
                  have cpo3 : W17.cell? ⟨po, 3, none⟩ = some (.int .i64 (v1 0)) := blk_cell (hS.keep _ (.tail _ (.tail _ (.tail _ (.head _))))).1 3
                  have cpo4 : W17.cell? ⟨po, 4, none⟩ = some (.int .i64 (v1 1)) := blk_cell (hS.keep _ (.tail _ (.tail _ (.tail _ (.head _))))).1 4
                  have cpo5 : W17.cell? ⟨po, 5, none⟩ = some (.int .i64 (v1 2)) := blk_cell (hS.keep _ (.tail _ (.tail _ (.tail _ (.head _))))).1 5
                  have cpo6 : W17.cell? ⟨po, 6, none⟩ = some (.int .i64 (v1 3)) := blk_cell (hS.keep _ (.tail _ (.tail _ (.tail _ (.head _))))).1 6
                  have cpo7 : W17.cell? ⟨po, 7, none⟩ = some (.int .i64 (v1 4)) := blk_cell (hS.keep _ (.tail _ (.tail _ (.tail _ (.head _))))).1 7
                  have cpo8 : W17.cell? ⟨po, 8, none⟩ = some (.int .i64 (v1 5)) := blk_cell (hS.keep _ (.tail _ (.tail _ (.tail _ (.head _))))).1 8
                  have cpo9 : W17.cell? ⟨po, 9, none⟩ = some (.int .i64 (v1 6)) := blk_cell (hS.keep _ (.tail _ (.tail _ (.tail _ (.head _))))).1 9
                  have cpo10 : W17.cell? ⟨po, 10, none⟩ = some (.int .i64 (v1 7)) := blk_cell (hS.keep _ (.tail _ (.tail _ (.tail _ (.head _))))).1 10
                  have cpo11 : W17.cell? ⟨po, 11, none⟩ = some (.int .i64 (v1 8)) := blk_cell (hS.keep _ (.tail _ (.tail _ (.tail _ (.head _))))).1 11
                  go_wp2_with fail
                  go_roundw
                  case rel => exact ⟨i + 1, mb', N, by omega, by go_num, Lib.hid hS.drop⟩
                  case measure => simp [intOf]; omega
              · have e4 := HD.out e3
                clear HD
                injection e4 with e6 e7
                subst e1 e2 e3 e6 e7
                as_aux_lemma =>
                  obtain ⟨F, hFe⟩ : ∃ F : World → Prop, F = fun W => Lr w W bs mb' (i + 1) N ((p16, cells9 zeroC, 24) :: (p12, cells9 vo, 24) :: (p8, cells9 v0, 24) :: (po, cells12 ⟨id, 4, owner, v⟩, 30) :: []) := ⟨_, rfl⟩
                  have hF : F W16.drew := by rw [hFe]; exact hS.drew
                  have x2 : ∀ d : Line.Cls F, d.W.cell? ⟨po, 2, none⟩ = some (.int .i64 owner) := fun d => blk_cell ((hFe ▸ d.h : Lr w d.W bs mb' (i + 1) N ((p16, cells9 zeroC, 24) :: (p12, cells9 vo, 24) :: (p8, cells9 v0, 24) :: (po, cells12 ⟨id, 4, owner, v⟩, 30) :: [])).keep _ (.tail _ (.tail _ (.tail _ (.head _))))).1 2
                  have a0 : ∀ d : Line.Cls F, d.W.cell? ⟨p12, 0, none⟩ = some (.int .i64 (vo 0)) := fun d => blk_cell ((hFe ▸ d.h : Lr w d.W bs mb' (i + 1) N ((p16, cells9 zeroC, 24) :: (p12, cells9 vo, 24) :: (p8, cells9 v0, 24) :: (po, cells12 ⟨id, 4, owner, v⟩, 30) :: [])).keep _ (.tail _ (.head _))).1 0
                  have a1 : ∀ d : Line.Cls F, d.W.cell? ⟨p12, 1, none⟩ = some (.int .i64 (vo 1)) := fun d => blk_cell ((hFe ▸ d.h : Lr w d.W bs mb' (i + 1) N ((p16, cells9 zeroC, 24) :: (p12, cells9 vo, 24) :: (p8, cells9 v0, 24) :: (po, cells12 ⟨id, 4, owner, v⟩, 30) :: [])).keep _ (.tail _ (.head _))).1 1
                  have a2 : ∀ d : Line.Cls F, d.W.cell? ⟨p12, 2, none⟩ = some (.int .i64 (vo 2)) := fun d => blk_cell ((hFe ▸ d.h : Lr w d.W bs mb' (i + 1) N ((p16, cells9 zeroC, 24) :: (p12, cells9 vo, 24) :: (p8, cells9 v0, 24) :: (po, cells12 ⟨id, 4, owner, v⟩, 30) :: [])).keep _ (.tail _ (.head _))).1 2
                  have a3 : ∀ d : Line.Cls F, d.W.cell? ⟨p12, 3, none⟩ = some (.int .i64 (vo 3)) := fun d => blk_cell ((hFe ▸ d.h : Lr w d.W bs mb' (i + 1) N ((p16, cells9 zeroC, 24) :: (p12, cells9 vo, 24) :: (p8, cells9 v0, 24) :: (po, cells12 ⟨id, 4, owner, v⟩, 30) :: [])).keep _ (.tail _ (.head _))).1 3
                  have a4 : ∀ d : Line.Cls F, d.W.cell? ⟨p12, 4, none⟩ = some (.int .i64 (vo 4)) := fun d => blk_cell ((hFe ▸ d.h : Lr w d.W bs mb' (i + 1) N ((p16, cells9 zeroC, 24) :: (p12, cells9 vo, 24) :: (p8, cells9 v0, 24) :: (po, cells12 ⟨id, 4, owner, v⟩, 30) :: [])).keep _ (.tail _ (.head _))).1 4
                  have a5 : ∀ d : Line.Cls F, d.W.cell? ⟨p12, 5, none⟩ = some (.int .i64 (vo 5)) := fun d => blk_cell ((hFe ▸ d.h : Lr w d.W bs mb' (i + 1) N ((p16, cells9 zeroC, 24) :: (p12, cells9 vo, 24) :: (p8, cells9 v0, 24) :: (po, cells12 ⟨id, 4, owner, v⟩, 30) :: [])).keep _ (.tail _ (.head _))).1 5
                  have a6 : ∀ d : Line.Cls F, d.W.cell? ⟨p12, 6, none⟩ = some (.int .i64 (vo 6)) := fun d => blk_cell ((hFe ▸ d.h : Lr w d.W bs mb' (i + 1) N ((p16, cells9 zeroC, 24) :: (p12, cells9 vo, 24) :: (p8, cells9 v0, 24) :: (po, cells12 ⟨id, 4, owner, v⟩, 30) :: [])).keep _ (.tail _ (.head _))).1 6
                  have a7 : ∀ d : Line.Cls F, d.W.cell? ⟨p12, 7, none⟩ = some (.int .i64 (vo 7)) := fun d => blk_cell ((hFe ▸ d.h : Lr w d.W bs mb' (i + 1) N ((p16, cells9 zeroC, 24) :: (p12, cells9 vo, 24) :: (p8, cells9 v0, 24) :: (po, cells12 ⟨id, 4, owner, v⟩, 30) :: [])).keep _ (.tail _ (.head _))).1 7
                  have a8 : ∀ d : Line.Cls F, d.W.cell? ⟨p12, 8, none⟩ = some (.int .i64 (vo 8)) := fun d => blk_cell ((hFe ▸ d.h : Lr w d.W bs mb' (i + 1) N ((p16, cells9 zeroC, 24) :: (p12, cells9 vo, 24) :: (p8, cells9 v0, 24) :: (po, cells12 ⟨id, 4, owner, v⟩, 30) :: [])).keep _ (.tail _ (.head _))).1 8
                  have b0 : ∀ d : Line.Cls F, d.W.cell? ⟨p16, 0, none⟩ = some (.int .i64 0) := fun d => blk_cell ((hFe ▸ d.h : Lr w d.W bs mb' (i + 1) N ((p16, cells9 zeroC, 24) :: (p12, cells9 vo, 24) :: (p8, cells9 v0, 24) :: (po, cells12 ⟨id, 4, owner, v⟩, 30) :: [])).keep _ (.head _)).1 0
                  have b1 : ∀ d : Line.Cls F, d.W.cell? ⟨p16, 1, none⟩ = some (.int .i64 0) := fun d => blk_cell ((hFe ▸ d.h : Lr w d.W bs mb' (i + 1) N ((p16, cells9 zeroC, 24) :: (p12, cells9 vo, 24) :: (p8, cells9 v0, 24) :: (po, cells12 ⟨id, 4, owner, v⟩, 30) :: [])).keep _ (.head _)).1 1
                  have b2 : ∀ d : Line.Cls F, d.W.cell? ⟨p16, 2, none⟩ = some (.int .i64 0) := fun d => blk_cell ((hFe ▸ d.h : Lr w d.W bs mb' (i + 1) N ((p16, cells9 zeroC, 24) :: (p12, cells9 vo, 24) :: (p8, cells9 v0, 24) :: (po, cells12 ⟨id, 4, owner, v⟩, 30) :: [])).keep _ (.head _)).1 2
                  have b3 : ∀ d : Line.Cls F, d.W.cell? ⟨p16, 3, none⟩ = some (.int .i64 0) := fun d => blk_cell ((hFe ▸ d.h : Lr w d.W bs mb' (i + 1) N ((p16, cells9 zeroC, 24) :: (p12, cells9 vo, 24) :: (p8, cells9 v0, 24) :: (po, cells12 ⟨id, 4, owner, v⟩, 30) :: [])).keep _ (.head _)).1 3
                  have b4 : ∀ d : Line.Cls F, d.W.cell? ⟨p16, 4, none⟩ = some (.int .i64 0) := fun d => blk_cell ((hFe ▸ d.h : Lr w d.W bs mb' (i + 1) N ((p16, cells9 zeroC, 24) :: (p12, cells9 vo, 24) :: (p8, cells9 v0, 24) :: (po, cells12 ⟨id, 4, owner, v⟩, 30) :: [])).keep _ (.head _)).1 4
                  have b5 : ∀ d : Line.Cls F, d.W.cell? ⟨p16, 5, none⟩ = some (.int .i64 0) := fun d => blk_cell ((hFe ▸ d.h : Lr w d.W bs mb' (i + 1) N ((p16, cells9 zeroC, 24) :: (p12, cells9 vo, 24) :: (p8, cells9 v0, 24) :: (po, cells12 ⟨id, 4, owner, v⟩, 30) :: [])).keep _ (.head _)).1 5
                  have b6 : ∀ d : Line.Cls F, d.W.cell? ⟨p16, 6, none⟩ = some (.int .i64 0) := fun d => blk_cell ((hFe ▸ d.h : Lr w d.W bs mb' (i + 1) N ((p16, cells9 zeroC, 24) :: (p12, cells9 vo, 24) :: (p8, cells9 v0, 24) :: (po, cells12 ⟨id, 4, owner, v⟩, 30) :: [])).keep _ (.head _)).1 6
                  have b7 : ∀ d : Line.Cls F, d.W.cell? ⟨p16, 7, none⟩ = some (.int .i64 0) := fun d => blk_cell ((hFe ▸ d.h : Lr w d.W bs mb' (i + 1) N ((p16, cells9 zeroC, 24) :: (p12, cells9 vo, 24) :: (p8, cells9 v0, 24) :: (po, cells12 ⟨id, 4, owner, v⟩, 30) :: [])).keep _ (.head _)).1 7
                  have b8 : ∀ d : Line.Cls F, d.W.cell? ⟨p16, 8, none⟩ = some (.int .i64 0) := fun d => blk_cell ((hFe ▸ d.h : Lr w d.W bs mb' (i + 1) N ((p16, cells9 zeroC, 24) :: (p12, cells9 vo, 24) :: (p8, cells9 v0, 24) :: (po, cells12 ⟨id, 4, owner, v⟩, 30) :: [])).keep _ (.head _)).1 8
                  have mv : ∀ W W', F W → Below W.heap.size W W' → F W' := fun W W' h hb => by rw [hFe] at h ⊢; exact Lr.move h hb
                  have QL := Lib.hid (Line.cls_call mv (fun W hW => HPL.out W (by rw [hFe] at hW; exact Lr.drop hW)))
                  have QF := Lib.hid (Line.cls_call mv (fun W hW => HPF.out W (by rw [hFe] at hW; exact Lr.drop hW)))
                  clear HPL HPF mv hS
                  have HFE := Lib.hid hFe
                  clear hFe
                  have nonempty_cls : Nonempty (Line.Cls F) := ⟨⟨_, hF⟩⟩
                  go_wp2_with fail
                  refine Line.wp_region_cls (F := F) (by kernel_rfl) (by kernel_rfl) hF ?_
                  repeat (go_big_quiet_step (first | exact QL.out _ | exact QF.out _))
                  refine wpQuiet_nil ?_
                  intro W17 h17
                  rw [HFE.out] at h17
                  have hS : Lr w W17 bs mb' (i + 1) N ((p16, cells9 zeroC, 24) :: (p12, cells9 vo, 24) :: (p8, cells9 v0, 24) :: (po, cells12 ⟨id, 4, owner, v⟩, 30) :: []) := h17
                  clear h17 HFE x2 a0 a1 a2 a3 a4 a5 a6 a7 a8 b0 b1 b2 b3 b4 b5 b6 b7 b8 QL QF nonempty_cls hF hne hne2 hne3
                  clear F
                  have cpo1 : W17.cell? ⟨po, 1, none⟩ = some (.int .i64 4) := blk_cell (hS.keep _ (.tail _ (.tail _ (.tail _ (.head _))))).1 1
                  go_wp2_with fail
                  go_roundw
                  case rel => exact ⟨i + 1, mb', N, by omega, by go_num, Lib.hid hS.drop⟩
                  case measure => simp [intOf]; omega
              · injection e4 with e6 e7
                clear HD
                simp only at e5 e6 e7
                subst e1 e2 e3 e5 e6 e7
                as_aux_lemma =>
                  obtain ⟨F, hFe⟩ : ∃ F : World → Prop, F = fun W => Lr w W bs mb' (i + 1) N ((p16, cells9 v1, 24) :: (p12, cells9 vo, 24) :: (p8, cells9 v1, 24) :: (po, cells12 ⟨id, 2, owner, v⟩, 30) :: []) := ⟨_, rfl⟩
                  have hF : F W16.drew := by rw [hFe]; exact hS.drew
                  have x2 : ∀ d : Line.Cls F, d.W.cell? ⟨po, 2, none⟩ = some (.int .i64 owner) := fun d => blk_cell ((hFe ▸ d.h : Lr w d.W bs mb' (i + 1) N ((p16, cells9 v1, 24) :: (p12, cells9 vo, 24) :: (p8, cells9 v1, 24) :: (po, cells12 ⟨id, 2, owner, v⟩, 30) :: [])).keep _ (.tail _ (.tail _ (.tail _ (.head _))))).1 2
                  have a0 : ∀ d : Line.Cls F, d.W.cell? ⟨p12, 0, none⟩ = some (.int .i64 (vo 0)) := fun d => blk_cell ((hFe ▸ d.h : Lr w d.W bs mb' (i + 1) N ((p16, cells9 v1, 24) :: (p12, cells9 vo, 24) :: (p8, cells9 v1, 24) :: (po, cells12 ⟨id, 2, owner, v⟩, 30) :: [])).keep _ (.tail _ (.head _))).1 0
                  have a1 : ∀ d : Line.Cls F, d.W.cell? ⟨p12, 1, none⟩ = some (.int .i64 (vo 1)) := fun d => blk_cell ((hFe ▸ d.h : Lr w d.W bs mb' (i + 1) N ((p16, cells9 v1, 24) :: (p12, cells9 vo, 24) :: (p8, cells9 v1, 24) :: (po, cells12 ⟨id, 2, owner, v⟩, 30) :: [])).keep _ (.tail _ (.head _))).1 1
                  have a2 : ∀ d : Line.Cls F, d.W.cell? ⟨p12, 2, none⟩ = some (.int .i64 (vo 2)) := fun d => blk_cell ((hFe ▸ d.h : Lr w d.W bs mb' (i + 1) N ((p16, cells9 v1, 24) :: (p12, cells9 vo, 24) :: (p8, cells9 v1, 24) :: (po, cells12 ⟨id, 2, owner, v⟩, 30) :: [])).keep _ (.tail _ (.head _))).1 2
                  have a3 : ∀ d : Line.Cls F, d.W.cell? ⟨p12, 3, none⟩ = some (.int .i64 (vo 3)) := fun d => blk_cell ((hFe ▸ d.h : Lr w d.W bs mb' (i + 1) N ((p16, cells9 v1, 24) :: (p12, cells9 vo, 24) :: (p8, cells9 v1, 24) :: (po, cells12 ⟨id, 2, owner, v⟩, 30) :: [])).keep _ (.tail _ (.head _))).1 3
                  have a4 : ∀ d : Line.Cls F, d.W.cell? ⟨p12, 4, none⟩ = some (.int .i64 (vo 4)) := fun d => blk_cell ((hFe ▸ d.h : Lr w d.W bs mb' (i + 1) N ((p16, cells9 v1, 24) :: (p12, cells9 vo, 24) :: (p8, cells9 v1, 24) :: (po, cells12 ⟨id, 2, owner, v⟩, 30) :: [])).keep _ (.tail _ (.head _))).1 4
                  have a5 : ∀ d : Line.Cls F, d.W.cell? ⟨p12, 5, none⟩ = some (.int .i64 (vo 5)) := fun d => blk_cell ((hFe ▸ d.h : Lr w d.W bs mb' (i + 1) N ((p16, cells9 v1, 24) :: (p12, cells9 vo, 24) :: (p8, cells9 v1, 24) :: (po, cells12 ⟨id, 2, owner, v⟩, 30) :: [])).keep _ (.tail _ (.head _))).1 5
                  have a6 : ∀ d : Line.Cls F, d.W.cell? ⟨p12, 6, none⟩ = some (.int .i64 (vo 6)) := fun d => blk_cell ((hFe ▸ d.h : Lr w d.W bs mb' (i + 1) N ((p16, cells9 v1, 24) :: (p12, cells9 vo, 24) :: (p8, cells9 v1, 24) :: (po, cells12 ⟨id, 2, owner, v⟩, 30) :: [])).keep _ (.tail _ (.head _))).1 6
                  have a7 : ∀ d : Line.Cls F, d.W.cell? ⟨p12, 7, none⟩ = some (.int .i64 (vo 7)) := fun d => blk_cell ((hFe ▸ d.h : Lr w d.W bs mb' (i + 1) N ((p16, cells9 v1, 24) :: (p12, cells9 vo, 24) :: (p8, cells9 v1, 24) :: (po, cells12 ⟨id, 2, owner, v⟩, 30) :: [])).keep _ (.tail _ (.head _))).1 7
                  have a8 : ∀ d : Line.Cls F, d.W.cell? ⟨p12, 8, none⟩ = some (.int .i64 (vo 8)) := fun d => blk_cell ((hFe ▸ d.h : Lr w d.W bs mb' (i + 1) N ((p16, cells9 v1, 24) :: (p12, cells9 vo, 24) :: (p8, cells9 v1, 24) :: (po, cells12 ⟨id, 2, owner, v⟩, 30) :: [])).keep _ (.tail _ (.head _))).1 8
                  have b0 : ∀ d : Line.Cls F, d.W.cell? ⟨p16, 0, none⟩ = some (.int .i64 (v1 0)) := fun d => blk_cell ((hFe ▸ d.h : Lr w d.W bs mb' (i + 1) N ((p16, cells9 v1, 24) :: (p12, cells9 vo, 24) :: (p8, cells9 v1, 24) :: (po, cells12 ⟨id, 2, owner, v⟩, 30) :: [])).keep _ (.head _)).1 0
                  have b1 : ∀ d : Line.Cls F, d.W.cell? ⟨p16, 1, none⟩ = some (.int .i64 (v1 1)) := fun d => blk_cell ((hFe ▸ d.h : Lr w d.W bs mb' (i + 1) N ((p16, cells9 v1, 24) :: (p12, cells9 vo, 24) :: (p8, cells9 v1, 24) :: (po, cells12 ⟨id, 2, owner, v⟩, 30) :: [])).keep _ (.head _)).1 1
                  have b2 : ∀ d : Line.Cls F, d.W.cell? ⟨p16, 2, none⟩ = some (.int .i64 (v1 2)) := fun d => blk_cell ((hFe ▸ d.h : Lr w d.W bs mb' (i + 1) N ((p16, cells9 v1, 24) :: (p12, cells9 vo, 24) :: (p8, cells9 v1, 24) :: (po, cells12 ⟨id, 2, owner, v⟩, 30) :: [])).keep _ (.head _)).1 2
                  have b3 : ∀ d : Line.Cls F, d.W.cell? ⟨p16, 3, none⟩ = some (.int .i64 (v1 3)) := fun d => blk_cell ((hFe ▸ d.h : Lr w d.W bs mb' (i + 1) N ((p16, cells9 v1, 24) :: (p12, cells9 vo, 24) :: (p8, cells9 v1, 24) :: (po, cells12 ⟨id, 2, owner, v⟩, 30) :: [])).keep _ (.head _)).1 3
                  have b4 : ∀ d : Line.Cls F, d.W.cell? ⟨p16, 4, none⟩ = some (.int .i64 (v1 4)) := fun d => blk_cell ((hFe ▸ d.h : Lr w d.W bs mb' (i + 1) N ((p16, cells9 v1, 24) :: (p12, cells9 vo, 24) :: (p8, cells9 v1, 24) :: (po, cells12 ⟨id, 2, owner, v⟩, 30) :: [])).keep _ (.head _)).1 4
                  have b5 : ∀ d : Line.Cls F, d.W.cell? ⟨p16, 5, none⟩ = some (.int .i64 (v1 5)) := fun d => blk_cell ((hFe ▸ d.h : Lr w d.W bs mb' (i + 1) N ((p16, cells9 v1, 24) :: (p12, cells9 vo, 24) :: (p8, cells9 v1, 24) :: (po, cells12 ⟨id, 2, owner, v⟩, 30) :: [])).keep _ (.head _)).1 5
                  have b6 : ∀ d : Line.Cls F, d.W.cell? ⟨p16, 6, none⟩ = some (.int .i64 (v1 6)) := fun d => blk_cell ((hFe ▸ d.h : Lr w d.W bs mb' (i + 1) N ((p16, cells9 v1, 24) :: (p12, cells9 vo, 24) :: (p8, cells9 v1, 24) :: (po, cells12 ⟨id, 2, owner, v⟩, 30) :: [])).keep _ (.head _)).1 6
                  have b7 : ∀ d : Line.Cls F, d.W.cell? ⟨p16, 7, none⟩ = some (.int .i64 (v1 7)) := fun d => blk_cell ((hFe ▸ d.h : Lr w d.W bs mb' (i + 1) N ((p16, cells9 v1, 24) :: (p12, cells9 vo, 24) :: (p8, cells9 v1, 24) :: (po, cells12 ⟨id, 2, owner, v⟩, 30) :: [])).keep _ (.head _)).1 7
                  have b8 : ∀ d : Line.Cls F, d.W.cell? ⟨p16, 8, none⟩ = some (.int .i64 (v1 8)) := fun d => blk_cell ((hFe ▸ d.h : Lr w d.W bs mb' (i + 1) N ((p16, cells9 v1, 24) :: (p12, cells9 vo, 24) :: (p8, cells9 v1, 24) :: (po, cells12 ⟨id, 2, owner, v⟩, 30) :: [])).keep _ (.head _)).1 8
                  have mv : ∀ W W', F W → Below W.heap.size W W' → F W' := fun W W' h hb => by rw [hFe] at h ⊢; exact Lr.move h hb
                  have QL := Lib.hid (Line.cls_call mv (fun W hW => HPL.out W (by rw [hFe] at hW; exact Lr.drop hW)))
                  have QF := Lib.hid (Line.cls_call mv (fun W hW => HPF.out W (by rw [hFe] at hW; exact Lr.drop hW)))
                  clear HPL HPF mv hS
                  have HFE := Lib.hid hFe
                  clear hFe
                  have nonempty_cls : Nonempty (Line.Cls F) := ⟨⟨_, hF⟩⟩
                  go_wp2_with fail
                  refine Line.wp_region_cls (F := F) (by kernel_rfl) (by kernel_rfl) hF ?_
                  repeat (go_big_quiet_step (first | exact QL.out _ | exact QF.out _))
                  refine wpQuiet_nil ?_
                  intro W17 h17
                  rw [HFE.out] at h17
                  have hS : Lr w W17 bs mb' (i + 1) N ((p16, cells9 v1, 24) :: (p12, cells9 vo, 24) :: (p8, cells9 v1, 24) :: (po, cells12 ⟨id, 2, owner, v⟩, 30) :: []) := h17
                  clear h17 HFE x2 a0 a1 a2 a3 a4 a5 a6 a7 a8 b0 b1 b2 b3 b4 b5 b6 b7 b8 QL QF nonempty_cls hF hne hne2 hne3
                  clear F
                  have cpo1 : W17.cell? ⟨po, 1, none⟩ = some (.int .i64 2) := blk_cell (hS.keep _ (.tail _ (.tail _ (.tail _ (.head _))))).1 1
                  have cp160 : W17.cell? ⟨p16, 0, none⟩ = some (.int .i64 (v1 0)) := blk_cell (hS.keep _ (.head _)).1 0
                  have cp161 : W17.cell? ⟨p16, 1, none⟩ = some (.int .i64 (v1 1)) := blk_cell (hS.keep _ (.head _)).1 1
                  have cp162 : W17.cell? ⟨p16, 2, none⟩ = some (.int .i64 (v1 2)) := blk_cell (hS.keep _ (.head _)).1 2
                  have cp163 : W17.cell? ⟨p16, 3, none⟩ = some (.int .i64 (v1 3)) := blk_cell (hS.keep _ (.head _)).1 3
                  have cp164 : W17.cell? ⟨p16, 4, none⟩ = some (.int .i64 (v1 4)) := blk_cell (hS.keep _ (.head _)).1 4
                  have cp165 : W17.cell? ⟨p16, 5, none⟩ = some (.int .i64 (v1 5)) := blk_cell (hS.keep _ (.head _)).1 5
                  have cp166 : W17.cell? ⟨p16, 6, none⟩ = some (.int .i64 (v1 6)) := blk_cell (hS.keep _ (.head _)).1 6
                  have cp167 : W17.cell? ⟨p16, 7, none⟩ = some (.int .i64 (v1 7)) := blk_cell (hS.keep _ (.head _)).1 7
                  have cp168 : W17.cell? ⟨p16, 8, none⟩ = some (.int .i64 (v1 8)) := blk_cell (hS.keep _ (.head _)).1 8
                  have cp80 : W17.cell? ⟨p8, 0, none⟩ = some (.int .i64 (v1 0)) := blk_cell (hS.keep _ (.tail _ (.tail _ (.head _)))).1 0
                  have cp81 : W17.cell? ⟨p8, 1, none⟩ = some (.int .i64 (v1 1)) := blk_cell (hS.keep _ (.tail _ (.tail _ (.head _)))).1 1
                  have cp82 : W17.cell? ⟨p8, 2, none⟩ = some (.int .i64 (v1 2)) := blk_cell (hS.keep _ (.tail _ (.tail _ (.head _)))).1 2
                  have cp83 : W17.cell? ⟨p8, 3, none⟩ = some (.int .i64 (v1 3)) := blk_cell (hS.keep _ (.tail _ (.tail _ (.head _)))).1 3
                  have cp84 : W17.cell? ⟨p8, 4, none⟩ = some (.int .i64 (v1 4)) := blk_cell (hS.keep _ (.tail _ (.tail _ (.head _)))).1 4
                  have cp85 : W17.cell? ⟨p8, 5, none⟩ = some (.int .i64 (v1 5)) := blk_cell (hS.keep _ (.tail _ (.tail _ (.head _)))).1 5
                  have cp86 : W17.cell? ⟨p8, 6, none⟩ = some (.int .i64 (v1 6)) := blk_cell (hS.keep _ (.tail _ (.tail _ (.head _)))).1 6
                  have cp87 : W17.cell? ⟨p8, 7, none⟩ = some (.int .i64 (v1 7)) := blk_cell (hS.keep _ (.tail _ (.tail _ (.head _)))).1 7
                  have cp88 : W17.cell? ⟨p8, 8, none⟩ = some (.int .i64 (v1 8)) := blk_cell (hS.keep _ (.tail _ (.tail _ (.head _)))).1 8
                  go_wp2_with fail
                  go_roundw
                  case rel => exact ⟨i + 1, mb', N, by omega, by go_num, Lib.hid hS.drop⟩
                  case measure => simp [intOf]; omega
              · injection e4 with e6 e7
                clear HD
                simp only at e5 e6 e7
                subst e1 e2 e3 e5 e6 e7
                as_aux_lemma =>
                  obtain ⟨F, hFe⟩ : ∃ F : World → Prop, F = fun W => Lr w W bs mb' (i + 1) N ((p16, cells9 v1, 24) :: (p12, cells9 vo, 24) :: (p8, cells9 v1, 24) :: (po, cells12 ⟨id, 3, owner, v⟩, 30) :: []) := ⟨_, rfl⟩
                  have hF : F W16.drew := by rw [hFe]; exact hS.drew
                  have x2 : ∀ d : Line.Cls F, d.W.cell? ⟨po, 2, none⟩ = some (.int .i64 owner) := fun d => blk_cell ((hFe ▸ d.h : Lr w d.W bs mb' (i + 1) N ((p16, cells9 v1, 24) :: (p12, cells9 vo, 24) :: (p8, cells9 v1, 24) :: (po, cells12 ⟨id, 3, owner, v⟩, 30) :: [])).keep _ (.tail _ (.tail _ (.tail _ (.head _))))).1 2
                  have a0 : ∀ d : Line.Cls F, d.W.cell? ⟨p12, 0, none⟩ = some (.int .i64 (vo 0)) := fun d => blk_cell ((hFe ▸ d.h : Lr w d.W bs mb' (i + 1) N ((p16, cells9 v1, 24) :: (p12, cells9 vo, 24) :: (p8, cells9 v1, 24) :: (po, cells12 ⟨id, 3, owner, v⟩, 30) :: [])).keep _ (.tail _ (.head _))).1 0
                  have a1 : ∀ d : Line.Cls F, d.W.cell? ⟨p12, 1, none⟩ = some (.int .i64 (vo 1)) := fun d => blk_cell ((hFe ▸ d.h : Lr w d.W bs mb' (i + 1) N ((p16, cells9 v1, 24) :: (p12, cells9 vo, 24) :: (p8, cells9 v1, 24) :: (po, cells12 ⟨id, 3, owner, v⟩, 30) :: [])).keep _ (.tail _ (.head _))).1 1
                  have a2 : ∀ d : Line.Cls F, d.W.cell? ⟨p12, 2, none⟩ = some (.int .i64 (vo 2)) := fun d => blk_cell ((hFe ▸ d.h : Lr w d.W bs mb' (i + 1) N ((p16, cells9 v1, 24) :: (p12, cells9 vo, 24) :: (p8, cells9 v1, 24) :: (po, cells12 ⟨id, 3, owner, v⟩, 30) :: [])).keep _ (.tail _ (.head _))).1 2
                  have a3 : ∀ d : Line.Cls F, d.W.cell? ⟨p12, 3, none⟩ = some (.int .i64 (vo 3)) := fun d => blk_cell ((hFe ▸ d.h : Lr w d.W bs mb' (i + 1) N ((p16, cells9 v1, 24) :: (p12, cells9 vo, 24) :: (p8, cells9 v1, 24) :: (po, cells12 ⟨id, 3, owner, v⟩, 30) :: [])).keep _ (.tail _ (.head _))).1 3
                  have a4 : ∀ d : Line.Cls F, d.W.cell? ⟨p12, 4, none⟩ = some (.int .i64 (vo 4)) := fun d => blk_cell ((hFe ▸ d.h : Lr w d.W bs mb' (i + 1) N ((p16, cells9 v1, 24) :: (p12, cells9 vo, 24) :: (p8, cells9 v1, 24) :: (po, cells12 ⟨id, 3, owner, v⟩, 30) :: [])).keep _ (.tail _ (.head _))).1 4
                  have a5 : ∀ d : Line.Cls F, d.W.cell? ⟨p12, 5, none⟩ = some (.int .i64 (vo 5)) := fun d => blk_cell ((hFe ▸ d.h : Lr w d.W bs mb' (i + 1) N ((p16, cells9 v1, 24) :: (p12, cells9 vo, 24) :: (p8, cells9 v1, 24) :: (po, cells12 ⟨id, 3, owner, v⟩, 30) :: [])).keep _ (.tail _ (.head _))).1 5
                  have a6 : ∀ d : Line.Cls F, d.W.cell? ⟨p12, 6, none⟩ = some (.int .i64 (vo 6)) := fun d => blk_cell ((hFe ▸ d.h : Lr w d.W bs mb' (i + 1) N ((p16, cells9 v1, 24) :: (p12, cells9 vo, 24) :: (p8, cells9 v1, 24) :: (po, cells12 ⟨id, 3, owner, v⟩, 30) :: [])).keep _ (.tail _ (.head _))).1 6
                  have a7 : ∀ d : Line.Cls F, d.W.cell? ⟨p12, 7, none⟩ = some (.int .i64 (vo 7)) := fun d => blk_cell ((hFe ▸ d.h : Lr w d.W bs mb' (i + 1) N ((p16, cells9 v1, 24) :: (p12, cells9 vo, 24) :: (p8, cells9 v1, 24) :: (po, cells12 ⟨id, 3, owner, v⟩, 30) :: [])).keep _ (.tail _ (.head _))).1 7
                  have a8 : ∀ d : Line.Cls F, d.W.cell? ⟨p12, 8, none⟩ = some (.int .i64 (vo 8)) := fun d => blk_cell ((hFe ▸ d.h : Lr w d.W bs mb' (i + 1) N ((p16, cells9 v1, 24) :: (p12, cells9 vo, 24) :: (p8, cells9 v1, 24) :: (po, cells12 ⟨id, 3, owner, v⟩, 30) :: [])).keep _ (.tail _ (.head _))).1 8
                  have b0 : ∀ d : Line.Cls F, d.W.cell? ⟨p16, 0, none⟩ = some (.int .i64 (v1 0)) := fun d => blk_cell ((hFe ▸ d.h : Lr w d.W bs mb' (i + 1) N ((p16, cells9 v1, 24) :: (p12, cells9 vo, 24) :: (p8, cells9 v1, 24) :: (po, cells12 ⟨id, 3, owner, v⟩, 30) :: [])).keep _ (.head _)).1 0
                  have b1 : ∀ d : Line.Cls F, d.W.cell? ⟨p16, 1, none⟩ = some (.int .i64 (v1 1)) := fun d => blk_cell ((hFe ▸ d.h : Lr w d.W bs mb' (i + 1) N ((p16, cells9 v1, 24) :: (p12, cells9 vo, 24) :: (p8, cells9 v1, 24) :: (po, cells12 ⟨id, 3, owner, v⟩, 30) :: [])).keep _ (.head _)).1 1
                  have b2 : ∀ d : Line.Cls F, d.W.cell? ⟨p16, 2, none⟩ = some (.int .i64 (v1 2)) := fun d => blk_cell ((hFe ▸ d.h : Lr w d.W bs mb' (i + 1) N ((p16, cells9 v1, 24) :: (p12, cells9 vo, 24) :: (p8, cells9 v1, 24) :: (po, cells12 ⟨id, 3, owner, v⟩, 30) :: [])).keep _ (.head _)).1 2
                  have b3 : ∀ d : Line.Cls F, d.W.cell? ⟨p16, 3, none⟩ = some (.int .i64 (v1 3)) := fun d => blk_cell ((hFe ▸ d.h : Lr w d.W bs mb' (i + 1) N ((p16, cells9 v1, 24) :: (p12, cells9 vo, 24) :: (p8, cells9 v1, 24) :: (po, cells12 ⟨id, 3, owner, v⟩, 30) :: [])).keep _ (.head _)).1 3
                  have b4 : ∀ d : Line.Cls F, d.W.cell? ⟨p16, 4, none⟩ = some (.int .i64 (v1 4)) := fun d => blk_cell ((hFe ▸ d.h : Lr w d.W bs mb' (i + 1) N ((p16, cells9 v1, 24) :: (p12, cells9 vo, 24) :: (p8, cells9 v1, 24) :: (po, cells12 ⟨id, 3, owner, v⟩, 30) :: [])).keep _ (.head _)).1 4
                  have b5 : ∀ d : Line.Cls F, d.W.cell? ⟨p16, 5, none⟩ = some (.int .i64 (v1 5)) := fun d => blk_cell ((hFe ▸ d.h : Lr w d.W bs mb' (i + 1) N ((p16, cells9 v1, 24) :: (p12, cells9 vo, 24) :: (p8, cells9 v1, 24) :: (po, cells12 ⟨id, 3, owner, v⟩, 30) :: [])).keep _ (.head _)).1 5
                  have b6 : ∀ d : Line.Cls F, d.W.cell? ⟨p16, 6, none⟩ = some (.int .i64 (v1 6)) := fun d => blk_cell ((hFe ▸ d.h : Lr w d.W bs mb' (i + 1) N ((p16, cells9 v1, 24) :: (p12, cells9 vo, 24) :: (p8, cells9 v1, 24) :: (po, cells12 ⟨id, 3, owner, v⟩, 30) :: [])).keep _ (.head _)).1 6
                  have b7 : ∀ d : Line.Cls F, d.W.cell? ⟨p16, 7, none⟩ = some (.int .i64 (v1 7)) := fun d => blk_cell ((hFe ▸ d.h : Lr w d.W bs mb' (i + 1) N ((p16, cells9 v1, 24) :: (p12, cells9 vo, 24) :: (p8, cells9 v1, 24) :: (po, cells12 ⟨id, 3, owner, v⟩, 30) :: [])).keep _ (.head _)).1 7
                  have b8 : ∀ d : Line.Cls F, d.W.cell? ⟨p16, 8, none⟩ = some (.int .i64 (v1 8)) := fun d => blk_cell ((hFe ▸ d.h : Lr w d.W bs mb' (i + 1) N ((p16, cells9 v1, 24) :: (p12, cells9 vo, 24) :: (p8, cells9 v1, 24) :: (po, cells12 ⟨id, 3, owner, v⟩, 30) :: [])).keep _ (.head _)).1 8
                  have mv : ∀ W W', F W → Below W.heap.size W W' → F W' := fun W W' h hb => by rw [hFe] at h ⊢; exact Lr.move h hb
                  have QL := Lib.hid (Line.cls_call mv (fun W hW => HPL.out W (by rw [hFe] at hW; exact Lr.drop hW)))
                  have QF := Lib.hid (Line.cls_call mv (fun W hW => HPF.out W (by rw [hFe] at hW; exact Lr.drop hW)))
                  clear HPL HPF mv hS
                  have HFE := Lib.hid hFe
                  clear hFe
                  have nonempty_cls : Nonempty (Line.Cls F) := ⟨⟨_, hF⟩⟩
                  go_wp2_with fail
                  refine Line.wp_region_cls (F := F) (by kernel_rfl) (by kernel_rfl) hF ?_
                  repeat (go_big_quiet_step (first | exact QL.out _ | exact QF.out _))
                  refine wpQuiet_nil ?_
                  intro W17 h17
                  rw [HFE.out] at h17
                  have hS : Lr w W17 bs mb' (i + 1) N ((p16, cells9 v1, 24) :: (p12, cells9 vo, 24) :: (p8, cells9 v1, 24) :: (po, cells12 ⟨id, 3, owner, v⟩, 30) :: []) := h17
                  clear h17 HFE x2 a0 a1 a2 a3 a4 a5 a6 a7 a8 b0 b1 b2 b3 b4 b5 b6 b7 b8 QL QF nonempty_cls hF hne hne2 hne3
                  clear F
                  have cpo1 : W17.cell? ⟨po, 1, none⟩ = some (.int .i64 3) := blk_cell (hS.keep _ (.tail _ (.tail _ (.tail _ (.head _))))).1 1
                  have cp160 : W17.cell? ⟨p16, 0, none⟩ = some (.int .i64 (v1 0)) := blk_cell (hS.keep _ (.head _)).1 0
                  have cp161 : W17.cell? ⟨p16, 1, none⟩ = some (.int .i64 (v1 1)) := blk_cell (hS.keep _ (.head _)).1 1
                  have cp162 : W17.cell? ⟨p16, 2, none⟩ = some (.int .i64 (v1 2)) := blk_cell (hS.keep _ (.head _)).1 2
                  have cp163 : W17.cell? ⟨p16, 3, none⟩ = some (.int .i64 (v1 3)) := blk_cell (hS.keep _ (.head _)).1 3
                  have cp164 : W17.cell? ⟨p16, 4, none⟩ = some (.int .i64 (v1 4)) := blk_cell (hS.keep _ (.head _)).1 4
                  have cp165 : W17.cell? ⟨p16, 5, none⟩ = some (.int .i64 (v1 5)) := blk_cell (hS.keep _ (.head _)).1 5
                  have cp166 : W17.cell? ⟨p16, 6, none⟩ = some (.int .i64 (v1 6)) := blk_cell (hS.keep _ (.head _)).1 6
                  have cp167 : W17.cell? ⟨p16, 7, none⟩ = some (.int .i64 (v1 7)) := blk_cell (hS.keep _ (.head _)).1 7
                  have cp168 : W17.cell? ⟨p16, 8, none⟩ = some (.int .i64 (v1 8)) := blk_cell (hS.keep _ (.head _)).1 8
                  have cp80 : W17.cell? ⟨p8, 0, none⟩ = some (.int .i64 (v1 0)) := blk_cell (hS.keep _ (.tail _ (.tail _ (.head _)))).1 0
                  have cp81 : W17.cell? ⟨p8, 1, none⟩ = some (.int .i64 (v1 1)) := blk_cell (hS.keep _ (.tail _ (.tail _ (.head _)))).1 1
                  have cp82 : W17.cell? ⟨p8, 2, none⟩ = some (.int .i64 (v1 2)) := blk_cell (hS.keep _ (.tail _ (.tail _ (.head _)))).1 2
                  have cp83 : W17.cell? ⟨p8, 3, none⟩ = some (.int .i64 (v1 3)) := blk_cell (hS.keep _ (.tail _ (.tail _ (.head _)))).1 3
                  have cp84 : W17.cell? ⟨p8, 4, none⟩ = some (.int .i64 (v1 4)) := blk_cell (hS.keep _ (.tail _ (.tail _ (.head _)))).1 4
                  have cp85 : W17.cell? ⟨p8, 5, none⟩ = some (.int .i64 (v1 5)) := blk_cell (hS.keep _ (.tail _ (.tail _ (.head _)))).1 5
                  have cp86 : W17.cell? ⟨p8, 6, none⟩ = some (.int .i64 (v1 6)) := blk_cell (hS.keep _ (.tail _ (.tail _ (.head _)))).1 6
                  have cp87 : W17.cell? ⟨p8, 7, none⟩ = some (.int .i64 (v1 7)) := blk_cell (hS.keep _ (.tail _ (.tail _ (.head _)))).1 7
                  have cp88 : W17.cell? ⟨p8, 8, none⟩ = some (.int .i64 (v1 8)) := blk_cell (hS.keep _ (.tail _ (.tail _ (.head _)))).1 8
                  go_wp2_with fail
                  go_roundw
                  case rel => exact ⟨i + 1, mb', N, by omega, by go_num, Lib.hid hS.drop⟩
                  case measure => simp [intOf]; omega
              · injection e4 with e6 e7
                clear HD
                try simp only at e6 e7
                subst e1 e2 e3 e6 e7
                as_aux_lemma =>
                  obtain ⟨F, hFe⟩ : ∃ F : World → Prop, F = fun W => Lr w W bs mb' (i + 1) N ((p16, cells9 v1, 24) :: (p12, cells9 vo, 24) :: (p8, cells9 v1, 24) :: (po, cells12 ⟨id, 5, owner, v⟩, 30) :: []) := ⟨_, rfl⟩
                  have hF : F W16.drew := by rw [hFe]; exact hS.drew
                  have x2 : ∀ d : Line.Cls F, d.W.cell? ⟨po, 2, none⟩ = some (.int .i64 owner) := fun d => blk_cell ((hFe ▸ d.h : Lr w d.W bs mb' (i + 1) N ((p16, cells9 v1, 24) :: (p12, cells9 vo, 24) :: (p8, cells9 v1, 24) :: (po, cells12 ⟨id, 5, owner, v⟩, 30) :: [])).keep _ (.tail _ (.tail _ (.tail _ (.head _))))).1 2
                  have a0 : ∀ d : Line.Cls F, d.W.cell? ⟨p12, 0, none⟩ = some (.int .i64 (vo 0)) := fun d => blk_cell ((hFe ▸ d.h : Lr w d.W bs mb' (i + 1) N ((p16, cells9 v1, 24) :: (p12, cells9 vo, 24) :: (p8, cells9 v1, 24) :: (po, cells12 ⟨id, 5, owner, v⟩, 30) :: [])).keep _ (.tail _ (.head _))).1 0
                  have a1 : ∀ d : Line.Cls F, d.W.cell? ⟨p12, 1, none⟩ = some (.int .i64 (vo 1)) := fun d => blk_cell ((hFe ▸ d.h : Lr w d.W bs mb' (i + 1) N ((p16, cells9 v1, 24) :: (p12, cells9 vo, 24) :: (p8, cells9 v1, 24) :: (po, cells12 ⟨id, 5, owner, v⟩, 30) :: [])).keep _ (.tail _ (.head _))).1 1
                  have a2 : ∀ d : Line.Cls F, d.W.cell? ⟨p12, 2, none⟩ = some (.int .i64 (vo 2)) := fun d => blk_cell ((hFe ▸ d.h : Lr w d.W bs mb' (i + 1) N ((p16, cells9 v1, 24) :: (p12, cells9 vo, 24) :: (p8, cells9 v1, 24) :: (po, cells12 ⟨id, 5, owner, v⟩, 30) :: [])).keep _ (.tail _ (.head _))).1 2
                  have a3 : ∀ d : Line.Cls F, d.W.cell? ⟨p12, 3, none⟩ = some (.int .i64 (vo 3)) := fun d => blk_cell ((hFe ▸ d.h : Lr w d.W bs mb' (i + 1) N ((p16, cells9 v1, 24) :: (p12, cells9 vo, 24) :: (p8, cells9 v1, 24) :: (po, cells12 ⟨id, 5, owner, v⟩, 30) :: [])).keep _ (.tail _ (.head _))).1 3
                  have a4 : ∀ d : Line.Cls F, d.W.cell? ⟨p12, 4, none⟩ = some (.int .i64 (vo 4)) := fun d => blk_cell ((hFe ▸ d.h : Lr w d.W bs mb' (i + 1) N ((p16, cells9 v1, 24) :: (p12, cells9 vo, 24) :: (p8, cells9 v1, 24) :: (po, cells12 ⟨id, 5, owner, v⟩, 30) :: [])).keep _ (.tail _ (.head _))).1 4
                  have a5 : ∀ d : Line.Cls F, d.W.cell? ⟨p12, 5, none⟩ = some (.int .i64 (vo 5)) := fun d => blk_cell ((hFe ▸ d.h : Lr w d.W bs mb' (i + 1) N ((p16, cells9 v1, 24) :: (p12, cells9 vo, 24) :: (p8, cells9 v1, 24) :: (po, cells12 ⟨id, 5, owner, v⟩, 30) :: [])).keep _ (.tail _ (.head _))).1 5
                  have a6 : ∀ d : Line.Cls F, d.W.cell? ⟨p12, 6, none⟩ = some (.int .i64 (vo 6)) := fun d => blk_cell ((hFe ▸ d.h : Lr w d.W bs mb' (i + 1) N ((p16, cells9 v1, 24) :: (p12, cells9 vo, 24) :: (p8, cells9 v1, 24) :: (po, cells12 ⟨id, 5, owner, v⟩, 30) :: [])).keep _ (.tail _ (.head _))).1 6
                  have a7 : ∀ d : Line.Cls F, d.W.cell? ⟨p12, 7, none⟩ = some (.int .i64 (vo 7)) := fun d => blk_cell ((hFe ▸ d.h : Lr w d.W bs mb' (i + 1) N ((p16, cells9 v1, 24) :: (p12, cells9 vo, 24) :: (p8, cells9 v1, 24) :: (po, cells12 ⟨id, 5, owner, v⟩, 30) :: [])).keep _ (.tail _ (.head _))).1 7
                  have a8 : ∀ d : Line.Cls F, d.W.cell? ⟨p12, 8, none⟩ = some (.int .i64 (vo 8)) := fun d => blk_cell ((hFe ▸ d.h : Lr w d.W bs mb' (i + 1) N ((p16, cells9 v1, 24) :: (p12, cells9 vo, 24) :: (p8, cells9 v1, 24) :: (po, cells12 ⟨id, 5, owner, v⟩, 30) :: [])).keep _ (.tail _ (.head _))).1 8
                  have b0 : ∀ d : Line.Cls F, d.W.cell? ⟨p16, 0, none⟩ = some (.int .i64 (v1 0)) := fun d => blk_cell ((hFe ▸ d.h : Lr w d.W bs mb' (i + 1) N ((p16, cells9 v1, 24) :: (p12, cells9 vo, 24) :: (p8, cells9 v1, 24) :: (po, cells12 ⟨id, 5, owner, v⟩, 30) :: [])).keep _ (.head _)).1 0
                  have b1 : ∀ d : Line.Cls F, d.W.cell? ⟨p16, 1, none⟩ = some (.int .i64 (v1 1)) := fun d => blk_cell ((hFe ▸ d.h : Lr w d.W bs mb' (i + 1) N ((p16, cells9 v1, 24) :: (p12, cells9 vo, 24) :: (p8, cells9 v1, 24) :: (po, cells12 ⟨id, 5, owner, v⟩, 30) :: [])).keep _ (.head _)).1 1
                  have b2 : ∀ d : Line.Cls F, d.W.cell? ⟨p16, 2, none⟩ = some (.int .i64 (v1 2)) := fun d => blk_cell ((hFe ▸ d.h : Lr w d.W bs mb' (i + 1) N ((p16, cells9 v1, 24) :: (p12, cells9 vo, 24) :: (p8, cells9 v1, 24) :: (po, cells12 ⟨id, 5, owner, v⟩, 30) :: [])).keep _ (.head _)).1 2
                  have b3 : ∀ d : Line.Cls F, d.W.cell? ⟨p16, 3, none⟩ = some (.int .i64 (v1 3)) := fun d => blk_cell ((hFe ▸ d.h : Lr w d.W bs mb' (i + 1) N ((p16, cells9 v1, 24) :: (p12, cells9 vo, 24) :: (p8, cells9 v1, 24) :: (po, cells12 ⟨id, 5, owner, v⟩, 30) :: [])).keep _ (.head _)).1 3
                  have b4 : ∀ d : Line.Cls F, d.W.cell? ⟨p16, 4, none⟩ = some (.int .i64 (v1 4)) := fun d => blk_cell ((hFe ▸ d.h : Lr w d.W bs mb' (i + 1) N ((p16, cells9 v1, 24) :: (p12, cells9 vo, 24) :: (p8, cells9 v1, 24) :: (po, cells12 ⟨id, 5, owner, v⟩, 30) :: [])).keep _ (.head _)).1 4
                  have b5 : ∀ d : Line.Cls F, d.W.cell? ⟨p16, 5, none⟩ = some (.int .i64 (v1 5)) := fun d => blk_cell ((hFe ▸ d.h : Lr w d.W bs mb' (i + 1) N ((p16, cells9 v1, 24) :: (p12, cells9 vo, 24) :: (p8, cells9 v1, 24) :: (po, cells12 ⟨id, 5, owner, v⟩, 30) :: [])).keep _ (.head _)).1 5
                  have b6 : ∀ d : Line.Cls F, d.W.cell? ⟨p16, 6, none⟩ = some (.int .i64 (v1 6)) := fun d => blk_cell ((hFe ▸ d.h : Lr w d.W bs mb' (i + 1) N ((p16, cells9 v1, 24) :: (p12, cells9 vo, 24) :: (p8, cells9 v1, 24) :: (po, cells12 ⟨id, 5, owner, v⟩, 30) :: [])).keep _ (.head _)).1 6
                  have b7 : ∀ d : Line.Cls F, d.W.cell? ⟨p16, 7, none⟩ = some (.int .i64 (v1 7)) := fun d => blk_cell ((hFe ▸ d.h : Lr w d.W bs mb' (i + 1) N ((p16, cells9 v1, 24) :: (p12, cells9 vo, 24) :: (p8, cells9 v1, 24) :: (po, cells12 ⟨id, 5, owner, v⟩, 30) :: [])).keep _ (.head _)).1 7
                  have b8 : ∀ d : Line.Cls F, d.W.cell? ⟨p16, 8, none⟩ = some (.int .i64 (v1 8)) := fun d => blk_cell ((hFe ▸ d.h : Lr w d.W bs mb' (i + 1) N ((p16, cells9 v1, 24) :: (p12, cells9 vo, 24) :: (p8, cells9 v1, 24) :: (po, cells12 ⟨id, 5, owner, v⟩, 30) :: [])).keep _ (.head _)).1 8
                  have mv : ∀ W W', F W → Below W.heap.size W W' → F W' := fun W W' h hb => by rw [hFe] at h ⊢; exact Lr.move h hb
                  have QL := Lib.hid (Line.cls_call mv (fun W hW => HPL.out W (by rw [hFe] at hW; exact Lr.drop hW)))
                  have QF := Lib.hid (Line.cls_call mv (fun W hW => HPF.out W (by rw [hFe] at hW; exact Lr.drop hW)))
                  clear HPL HPF mv hS
                  have HFE := Lib.hid hFe
                  clear hFe
                  have nonempty_cls : Nonempty (Line.Cls F) := ⟨⟨_, hF⟩⟩
                  go_wp2_with fail
                  refine Line.wp_region_cls (F := F) (by kernel_rfl) (by kernel_rfl) hF ?_
                  repeat (go_big_quiet_step (first | exact QL.out _ | exact QF.out _))
                  refine wpQuiet_nil ?_
                  intro W17 h17
                  rw [HFE.out] at h17
                  have hS : Lr w W17 bs mb' (i + 1) N ((p16, cells9 v1, 24) :: (p12, cells9 vo, 24) :: (p8, cells9 v1, 24) :: (po, cells12 ⟨id, 5, owner, v⟩, 30) :: []) := h17
                  clear h17 HFE x2 a0 a1 a2 a3 a4 a5 a6 a7 a8 b0 b1 b2 b3 b4 b5 b6 b7 b8 QL QF nonempty_cls hF hne hne2 hne3
                  clear F
                  have cpo1 : W17.cell? ⟨po, 1, none⟩ = some (.int .i64 5) := blk_cell (hS.keep _ (.tail _ (.tail _ (.tail _ (.head _))))).1 1
                  have cp160 : W17.cell? ⟨p16, 0, none⟩ = some (.int .i64 (v1 0)) := blk_cell (hS.keep _ (.head _)).1 0
                  have cp161 : W17.cell? ⟨p16, 1, none⟩ = some (.int .i64 (v1 1)) := blk_cell (hS.keep _ (.head _)).1 1
                  have cp162 : W17.cell? ⟨p16, 2, none⟩ = some (.int .i64 (v1 2)) := blk_cell (hS.keep _ (.head _)).1 2
                  have cp163 : W17.cell? ⟨p16, 3, none⟩ = some (.int .i64 (v1 3)) := blk_cell (hS.keep _ (.head _)).1 3
                  have cp164 : W17.cell? ⟨p16, 4, none⟩ = some (.int .i64 (v1 4)) := blk_cell (hS.keep _ (.head _)).1 4
                  have cp165 : W17.cell? ⟨p16, 5, none⟩ = some (.int .i64 (v1 5)) := blk_cell (hS.keep _ (.head _)).1 5
                  have cp166 : W17.cell? ⟨p16, 6, none⟩ = some (.int .i64 (v1 6)) := blk_cell (hS.keep _ (.head _)).1 6
                  have cp167 : W17.cell? ⟨p16, 7, none⟩ = some (.int .i64 (v1 7)) := blk_cell (hS.keep _ (.head _)).1 7
                  have cp168 : W17.cell? ⟨p16, 8, none⟩ = some (.int .i64 (v1 8)) := blk_cell (hS.keep _ (.head _)).1 8
                  have cp80 : W17.cell? ⟨p8, 0, none⟩ = some (.int .i64 (v1 0)) := blk_cell (hS.keep _ (.tail _ (.tail _ (.head _)))).1 0
                  have cp81 : W17.cell? ⟨p8, 1, none⟩ = some (.int .i64 (v1 1)) := blk_cell (hS.keep _ (.tail _ (.tail _ (.head _)))).1 1
                  have cp82 : W17.cell? ⟨p8, 2, none⟩ = some (.int .i64 (v1 2)) := blk_cell (hS.keep _ (.tail _ (.tail _ (.head _)))).1 2
                  have cp83 : W17.cell? ⟨p8, 3, none⟩ = some (.int .i64 (v1 3)) := blk_cell (hS.keep _ (.tail _ (.tail _ (.head _)))).1 3
                  have cp84 : W17.cell? ⟨p8, 4, none⟩ = some (.int .i64 (v1 4)) := blk_cell (hS.keep _ (.tail _ (.tail _ (.head _)))).1 4
                  have cp85 : W17.cell? ⟨p8, 5, none⟩ = some (.int .i64 (v1 5)) := blk_cell (hS.keep _ (.tail _ (.tail _ (.head _)))).1 5
                  have cp86 : W17.cell? ⟨p8, 6, none⟩ = some (.int .i64 (v1 6)) := blk_cell (hS.keep _ (.tail _ (.tail _ (.head _)))).1 6
                  have cp87 : W17.cell? ⟨p8, 7, none⟩ = some (.int .i64 (v1 7)) := blk_cell (hS.keep _ (.tail _ (.tail _ (.head _)))).1 7
                  have cp88 : W17.cell? ⟨p8, 8, none⟩ = some (.int .i64 (v1 8)) := blk_cell (hS.keep _ (.tail _ (.tail _ (.head _)))).1 8
                  go_wp2_with fail
                  go_roundw
                  case rel => exact ⟨i + 1, mb', N, by omega, by go_num, Lib.hid hS.drop⟩
                  case measure => simp [intOf]; omega
              · injection e4 with e6 e7
                clear HD
                try simp only at e6 e7
                subst e1 e2 e3 e6 e7
                as_aux_lemma =>
                  obtain ⟨F, hFe⟩ : ∃ F : World → Prop, F = fun W => Lr w W bs mb' (i + 1) N ((p16, cells9 v1, 24) :: (p12, cells9 vo, 24) :: (p8, cells9 v0, 24) :: (po, cells12 ⟨id, 6, owner, v1⟩, 30) :: []) := ⟨_, rfl⟩
                  have hF : F W16.drew := by rw [hFe]; exact hS.drew
                  have x2 : ∀ d : Line.Cls F, d.W.cell? ⟨po, 2, none⟩ = some (.int .i64 owner) := fun d => blk_cell ((hFe ▸ d.h : Lr w d.W bs mb' (i + 1) N ((p16, cells9 v1, 24) :: (p12, cells9 vo, 24) :: (p8, cells9 v0, 24) :: (po, cells12 ⟨id, 6, owner, v1⟩, 30) :: [])).keep _ (.tail _ (.tail _ (.tail _ (.head _))))).1 2
                  have a0 : ∀ d : Line.Cls F, d.W.cell? ⟨p12, 0, none⟩ = some (.int .i64 (vo 0)) := fun d => blk_cell ((hFe ▸ d.h : Lr w d.W bs mb' (i + 1) N ((p16, cells9 v1, 24) :: (p12, cells9 vo, 24) :: (p8, cells9 v0, 24) :: (po, cells12 ⟨id, 6, owner, v1⟩, 30) :: [])).keep _ (.tail _ (.head _))).1 0
                  have a1 : ∀ d : Line.Cls F, d.W.cell? ⟨p12, 1, none⟩ = some (.int .i64 (vo 1)) := fun d => blk_cell ((hFe ▸ d.h : Lr w d.W bs mb' (i + 1) N ((p16, cells9 v1, 24) :: (p12, cells9 vo, 24) :: (p8, cells9 v0, 24) :: (po, cells12 ⟨id, 6, owner, v1⟩, 30) :: [])).keep _ (.tail _ (.head _))).1 1
                  have a2 : ∀ d : Line.Cls F, d.W.cell? ⟨p12, 2, none⟩ = some (.int .i64 (vo 2)) := fun d => blk_cell ((hFe ▸ d.h : Lr w d.W bs mb' (i + 1) N ((p16, cells9 v1, 24) :: (p12, cells9 vo, 24) :: (p8, cells9 v0, 24) :: (po, cells12 ⟨id, 6, owner, v1⟩, 30) :: [])).keep _ (.tail _ (.head _))).1 2
                  have a3 : ∀ d : Line.Cls F, d.W.cell? ⟨p12, 3, none⟩ = some (.int .i64 (vo 3)) := fun d => blk_cell ((hFe ▸ d.h : Lr w d.W bs mb' (i + 1) N ((p16, cells9 v1, 24) :: (p12, cells9 vo, 24) :: (p8, cells9 v0, 24) :: (po, cells12 ⟨id, 6, owner, v1⟩, 30) :: [])).keep _ (.tail _ (.head _))).1 3
                  have a4 : ∀ d : Line.Cls F, d.W.cell? ⟨p12, 4, none⟩ = some (.int .i64 (vo 4)) := fun d => blk_cell ((hFe ▸ d.h : Lr w d.W bs mb' (i + 1) N ((p16, cells9 v1, 24) :: (p12, cells9 vo, 24) :: (p8, cells9 v0, 24) :: (po, cells12 ⟨id, 6, owner, v1⟩, 30) :: [])).keep _ (.tail _ (.head _))).1 4
                  have a5 : ∀ d : Line.Cls F, d.W.cell? ⟨p12, 5, none⟩ = some (.int .i64 (vo 5)) := fun d => blk_cell ((hFe ▸ d.h : Lr w d.W bs mb' (i + 1) N ((p16, cells9 v1, 24) :: (p12, cells9 vo, 24) :: (p8, cells9 v0, 24) :: (po, cells12 ⟨id, 6, owner, v1⟩, 30) :: [])).keep _ (.tail _ (.head _))).1 5
                  have a6 : ∀ d : Line.Cls F, d.W.cell? ⟨p12, 6, none⟩ = some (.int .i64 (vo 6)) := fun d => blk_cell ((hFe ▸ d.h : Lr w d.W bs mb' (i + 1) N ((p16, cells9 v1, 24) :: (p12, cells9 vo, 24) :: (p8, cells9 v0, 24) :: (po, cells12 ⟨id, 6, owner, v1⟩, 30) :: [])).keep _ (.tail _ (.head _))).1 6
                  have a7 : ∀ d : Line.Cls F, d.W.cell? ⟨p12, 7, none⟩ = some (.int .i64 (vo 7)) := fun d => blk_cell ((hFe ▸ d.h : Lr w d.W bs mb' (i + 1) N ((p16, cells9 v1, 24) :: (p12, cells9 vo, 24) :: (p8, cells9 v0, 24) :: (po, cells12 ⟨id, 6, owner, v1⟩, 30) :: [])).keep _ (.tail _ (.head _))).1 7
                  have a8 : ∀ d : Line.Cls F, d.W.cell? ⟨p12, 8, none⟩ = some (.int .i64 (vo 8)) := fun d => blk_cell ((hFe ▸ d.h : Lr w d.W bs mb' (i + 1) N ((p16, cells9 v1, 24) :: (p12, cells9 vo, 24) :: (p8, cells9 v0, 24) :: (po, cells12 ⟨id, 6, owner, v1⟩, 30) :: [])).keep _ (.tail _ (.head _))).1 8
                  have b0 : ∀ d : Line.Cls F, d.W.cell? ⟨p16, 0, none⟩ = some (.int .i64 (v1 0)) := fun d => blk_cell ((hFe ▸ d.h : Lr w d.W bs mb' (i + 1) N ((p16, cells9 v1, 24) :: (p12, cells9 vo, 24) :: (p8, cells9 v0, 24) :: (po, cells12 ⟨id, 6, owner, v1⟩, 30) :: [])).keep _ (.head _)).1 0
                  have b1 : ∀ d : Line.Cls F, d.W.cell? ⟨p16, 1, none⟩ = some (.int .i64 (v1 1)) := fun d => blk_cell ((hFe ▸ d.h : Lr w d.W bs mb' (i + 1) N ((p16, cells9 v1, 24) :: (p12, cells9 vo, 24) :: (p8, cells9 v0, 24) :: (po, cells12 ⟨id, 6, owner, v1⟩, 30) :: [])).keep _ (.head _)).1 1
                  have b2 : ∀ d : Line.Cls F, d.W.cell? ⟨p16, 2, none⟩ = some (.int .i64 (v1 2)) := fun d => blk_cell ((hFe ▸ d.h : Lr w d.W bs mb' (i + 1) N ((p16, cells9 v1, 24) :: (p12, cells9 vo, 24) :: (p8, cells9 v0, 24) :: (po, cells12 ⟨id, 6, owner, v1⟩, 30) :: [])).keep _ (.head _)).1 2
                  have b3 : ∀ d : Line.Cls F, d.W.cell? ⟨p16, 3, none⟩ = some (.int .i64 (v1 3)) := fun d => blk_cell ((hFe ▸ d.h : Lr w d.W bs mb' (i + 1) N ((p16, cells9 v1, 24) :: (p12, cells9 vo, 24) :: (p8, cells9 v0, 24) :: (po, cells12 ⟨id, 6, owner, v1⟩, 30) :: [])).keep _ (.head _)).1 3
                  have b4 : ∀ d : Line.Cls F, d.W.cell? ⟨p16, 4, none⟩ = some (.int .i64 (v1 4)) := fun d => blk_cell ((hFe ▸ d.h : Lr w d.W bs mb' (i + 1) N ((p16, cells9 v1, 24) :: (p12, cells9 vo, 24) :: (p8, cells9 v0, 24) :: (po, cells12 ⟨id, 6, owner, v1⟩, 30) :: [])).keep _ (.head _)).1 4
                  have b5 : ∀ d : Line.Cls F, d.W.cell? ⟨p16, 5, none⟩ = some (.int .i64 (v1 5)) := fun d => blk_cell ((hFe ▸ d.h : Lr w d.W bs mb' (i + 1) N ((p16, cells9 v1, 24) :: (p12, cells9 vo, 24) :: (p8, cells9 v0, 24) :: (po, cells12 ⟨id, 6, owner, v1⟩, 30) :: [])).keep _ (.head _)).1 5
                  have b6 : ∀ d : Line.Cls F, d.W.cell? ⟨p16, 6, none⟩ = some (.int .i64 (v1 6)) := fun d => blk_cell ((hFe ▸ d.h : Lr w d.W bs mb' (i + 1) N ((p16, cells9 v1, 24) :: (p12, cells9 vo, 24) :: (p8, cells9 v0, 24) :: (po, cells12 ⟨id, 6, owner, v1⟩, 30) :: [])).keep _ (.head _)).1 6
                  have b7 : ∀ d : Line.Cls F, d.W.cell? ⟨p16, 7, none⟩ = some (.int .i64 (v1 7)) := fun d => blk_cell ((hFe ▸ d.h : Lr w d.W bs mb' (i + 1) N ((p16, cells9 v1, 24) :: (p12, cells9 vo, 24) :: (p8, cells9 v0, 24) :: (po, cells12 ⟨id, 6, owner, v1⟩, 30) :: [])).keep _ (.head _)).1 7
                  have b8 : ∀ d : Line.Cls F, d.W.cell? ⟨p16, 8, none⟩ = some (.int .i64 (v1 8)) := fun d => blk_cell ((hFe ▸ d.h : Lr w d.W bs mb' (i + 1) N ((p16, cells9 v1, 24) :: (p12, cells9 vo, 24) :: (p8, cells9 v0, 24) :: (po, cells12 ⟨id, 6, owner, v1⟩, 30) :: [])).keep _ (.head _)).1 8
                  have mv : ∀ W W', F W → Below W.heap.size W W' → F W' := fun W W' h hb => by rw [hFe] at h ⊢; exact Lr.move h hb
                  have QL := Lib.hid (Line.cls_call mv (fun W hW => HPL.out W (by rw [hFe] at hW; exact Lr.drop hW)))
                  have QF := Lib.hid (Line.cls_call mv (fun W hW => HPF.out W (by rw [hFe] at hW; exact Lr.drop hW)))
                  clear HPL HPF mv hS
                  have HFE := Lib.hid hFe
                  clear hFe
                  have nonempty_cls : Nonempty (Line.Cls F) := ⟨⟨_, hF⟩⟩
                  go_wp2_with fail
                  refine Line.wp_region_cls (F := F) (by kernel_rfl) (by kernel_rfl) hF ?_
                  repeat (go_big_quiet_step (first | exact QL.out _ | exact QF.out _))
                  refine wpQuiet_nil ?_
                  intro W17 h17
                  rw [HFE.out] at h17
                  have hS : Lr w W17 bs mb' (i + 1) N ((p16, cells9 v1, 24) :: (p12, cells9 vo, 24) :: (p8, cells9 v0, 24) :: (po, cells12 ⟨id, 6, owner, v1⟩, 30) :: []) := h17
                  clear h17 HFE x2 a0 a1 a2 a3 a4 a5 a6 a7 a8 b0 b1 b2 b3 b4 b5 b6 b7 b8 QL QF nonempty_cls hF hne hne2 hne3
                  clear F
                  have cpo1 : W17.cell? ⟨po, 1, none⟩ = some (.int .i64 6) := blk_cell (hS.keep _ (.tail _ (.tail _ (.tail _ (.head _))))).1 1
                  have cp160 : W17.cell? ⟨p16, 0, none⟩ = some (.int .i64 (v1 0)) := blk_cell (hS.keep _ (.head _)).1 0
                  have cp161 : W17.cell? ⟨p16, 1, none⟩ = some (.int .i64 (v1 1)) := blk_cell (hS.keep _ (.head _)).1 1
                  have cp162 : W17.cell? ⟨p16, 2, none⟩ = some (.int .i64 (v1 2)) := blk_cell (hS.keep _ (.head _)).1 2
                  have cp163 : W17.cell? ⟨p16, 3, none⟩ = some (.int .i64 (v1 3)) := blk_cell (hS.keep _ (.head _)).1 3
                  have cp164 : W17.cell? ⟨p16, 4, none⟩ = some (.int .i64 (v1 4)) := blk_cell (hS.keep _ (.head _)).1 4
                  have cp165 : W17.cell? ⟨p16, 5, none⟩ = some (.int .i64 (v1 5)) := blk_cell (hS.keep _ (.head _)).1 5
                  have cp166 : W17.cell? ⟨p16, 6, none⟩ = some (.int .i64 (v1 6)) := blk_cell (hS.keep _ (.head _)).1 6
                  have cp167 : W17.cell? ⟨p16, 7, none⟩ = some (.int .i64 (v1 7)) := blk_cell (hS.keep _ (.head _)).1 7
                  have cp168 : W17.cell? ⟨p16, 8, none⟩ = some (.int .i64 (v1 8)) := blk_cell (hS.keep _ (.head _)).1 8
                  have cpo3 : W17.cell? ⟨po, 3, none⟩ = some (.int .i64 (v1 0)) := blk_cell (hS.keep _ (.tail _ (.tail _ (.tail _ (.head _))))).1 3
                  have cpo4 : W17.cell? ⟨po, 4, none⟩ = some (.int .i64 (v1 1)) := blk_cell (hS.keep _ (.tail _ (.tail _ (.tail _ (.head _))))).1 4
                  have cpo5 : W17.cell? ⟨po, 5, none⟩ = some (.int .i64 (v1 2)) := blk_cell (hS.keep _ (.tail _ (.tail _ (.tail _ (.head _))))).1 5
                  have cpo6 : W17.cell? ⟨po, 6, none⟩ = some (.int .i64 (v1 3)) := blk_cell (hS.keep _ (.tail _ (.tail _ (.tail _ (.head _))))).1 6
                  have cpo7 : W17.cell? ⟨po, 7, none⟩ = some (.int .i64 (v1 4)) := blk_cell (hS.keep _ (.tail _ (.tail _ (.tail _ (.head _))))).1 7
                  have cpo8 : W17.cell? ⟨po, 8, none⟩ = some (.int .i64 (v1 5)) := blk_cell (hS.keep _ (.tail _ (.tail _ (.tail _ (.head _))))).1 8
                  have cpo9 : W17.cell? ⟨po, 9, none⟩ = some (.int .i64 (v1 6)) := blk_cell (hS.keep _ (.tail _ (.tail _ (.tail _ (.head _))))).1 9
                  have cpo10 : W17.cell? ⟨po, 10, none⟩ = some (.int .i64 (v1 7)) := blk_cell (hS.keep _ (.tail _ (.tail _ (.tail _ (.head _))))).1 10
                  have cpo11 : W17.cell? ⟨po, 11, none⟩ = some (.int .i64 (v1 8)) := blk_cell (hS.keep _ (.tail _ (.tail _ (.tail _ (.head _))))).1 11
                  go_wp2_with fail
                  go_roundw
                  case rel => exact ⟨i + 1, mb', N, by omega, by go_num, Lib.hid hS.drop⟩
                  case measure => simp [intOf]; omega
            · have hNM := HST.out hw
              have HLN := Lib.hid (congrArg List.length hNM)
              have el : l1 = l0 := by rw [← HL1.out, ← HL0.out, hNM]
              have et : (⟨v1, r1⟩ : Ten) = ⟨v0, r0⟩ := by rw [← HT1.out, ← HT0.out, hNM]
              have HD := Lib.hid (fun h : l1 = false => (HT1.out.symm.trans (HZ.out (HL1.out.trans h)) : (⟨v1, r1⟩ : Ten) = zeroT))
              have hw1 : (wy == 0) = false := beq_eq_false_iff_ne.2 hw
              have hw2 : (wy != 0) = true := bne_iff_ne.2 hw
              have hw3 : decide (wy = 0) = false := decide_eq_false hw
              have HA2 := Lib.hid (fun (W : World) (h : Lr w W bs mb' (i + 1) N []) => (by have := HA.out W h; rw [HLN.out] at this; exact this : Calls Try.prog 24 #[.pointer (some ⟨bs, 0, none⟩)] W fun e w' => ∃ A1 c1, e = .returned (.slice A1 (List.length M) c1) ∧ Below W.heap.size W w'))
              injection et with e6 e7
              subst e6 e7 el
              clear hNM HT HST HL0 HT0 HL1 HT1 HZ HOT HLO HTO HA HLN
              rcases hl : l1 with _ | _
              · have e4 := HD.out hl
                injection e4 with e6 e7
                subst e6 e7 hl
                clear HD
                as_aux_lemma =>
                  obtain ⟨F, hFe⟩ : ∃ F : World → Prop, F = fun W => Lr w W bs mb' (i + 1) N ((p16, cells9 zeroC, 24) :: (p12, cells9 vo, 24) :: (p8, cells9 zeroC, 24) :: (po, cells12 ⟨id, op, owner, v⟩, 30) :: []) := ⟨_, rfl⟩
                  have hF : F W16.drew := by rw [hFe]; exact hS.drew
                  have x2 : ∀ d : Line.Cls F, d.W.cell? ⟨po, 2, none⟩ = some (.int .i64 owner) := fun d => blk_cell ((hFe ▸ d.h : Lr w d.W bs mb' (i + 1) N ((p16, cells9 zeroC, 24) :: (p12, cells9 vo, 24) :: (p8, cells9 zeroC, 24) :: (po, cells12 ⟨id, op, owner, v⟩, 30) :: [])).keep _ (.tail _ (.tail _ (.tail _ (.head _))))).1 2
                  have a0 : ∀ d : Line.Cls F, d.W.cell? ⟨p12, 0, none⟩ = some (.int .i64 (vo 0)) := fun d => blk_cell ((hFe ▸ d.h : Lr w d.W bs mb' (i + 1) N ((p16, cells9 zeroC, 24) :: (p12, cells9 vo, 24) :: (p8, cells9 zeroC, 24) :: (po, cells12 ⟨id, op, owner, v⟩, 30) :: [])).keep _ (.tail _ (.head _))).1 0
                  have a1 : ∀ d : Line.Cls F, d.W.cell? ⟨p12, 1, none⟩ = some (.int .i64 (vo 1)) := fun d => blk_cell ((hFe ▸ d.h : Lr w d.W bs mb' (i + 1) N ((p16, cells9 zeroC, 24) :: (p12, cells9 vo, 24) :: (p8, cells9 zeroC, 24) :: (po, cells12 ⟨id, op, owner, v⟩, 30) :: [])).keep _ (.tail _ (.head _))).1 1
                  have a2 : ∀ d : Line.Cls F, d.W.cell? ⟨p12, 2, none⟩ = some (.int .i64 (vo 2)) := fun d => blk_cell ((hFe ▸ d.h : Lr w d.W bs mb' (i + 1) N ((p16, cells9 zeroC, 24) :: (p12, cells9 vo, 24) :: (p8, cells9 zeroC, 24) :: (po, cells12 ⟨id, op, owner, v⟩, 30) :: [])).keep _ (.tail _ (.head _))).1 2
                  have a3 : ∀ d : Line.Cls F, d.W.cell? ⟨p12, 3, none⟩ = some (.int .i64 (vo 3)) := fun d => blk_cell ((hFe ▸ d.h : Lr w d.W bs mb' (i + 1) N ((p16, cells9 zeroC, 24) :: (p12, cells9 vo, 24) :: (p8, cells9 zeroC, 24) :: (po, cells12 ⟨id, op, owner, v⟩, 30) :: [])).keep _ (.tail _ (.head _))).1 3
                  have a4 : ∀ d : Line.Cls F, d.W.cell? ⟨p12, 4, none⟩ = some (.int .i64 (vo 4)) := fun d => blk_cell ((hFe ▸ d.h : Lr w d.W bs mb' (i + 1) N ((p16, cells9 zeroC, 24) :: (p12, cells9 vo, 24) :: (p8, cells9 zeroC, 24) :: (po, cells12 ⟨id, op, owner, v⟩, 30) :: [])).keep _ (.tail _ (.head _))).1 4
                  have a5 : ∀ d : Line.Cls F, d.W.cell? ⟨p12, 5, none⟩ = some (.int .i64 (vo 5)) := fun d => blk_cell ((hFe ▸ d.h : Lr w d.W bs mb' (i + 1) N ((p16, cells9 zeroC, 24) :: (p12, cells9 vo, 24) :: (p8, cells9 zeroC, 24) :: (po, cells12 ⟨id, op, owner, v⟩, 30) :: [])).keep _ (.tail _ (.head _))).1 5
                  have a6 : ∀ d : Line.Cls F, d.W.cell? ⟨p12, 6, none⟩ = some (.int .i64 (vo 6)) := fun d => blk_cell ((hFe ▸ d.h : Lr w d.W bs mb' (i + 1) N ((p16, cells9 zeroC, 24) :: (p12, cells9 vo, 24) :: (p8, cells9 zeroC, 24) :: (po, cells12 ⟨id, op, owner, v⟩, 30) :: [])).keep _ (.tail _ (.head _))).1 6
                  have a7 : ∀ d : Line.Cls F, d.W.cell? ⟨p12, 7, none⟩ = some (.int .i64 (vo 7)) := fun d => blk_cell ((hFe ▸ d.h : Lr w d.W bs mb' (i + 1) N ((p16, cells9 zeroC, 24) :: (p12, cells9 vo, 24) :: (p8, cells9 zeroC, 24) :: (po, cells12 ⟨id, op, owner, v⟩, 30) :: [])).keep _ (.tail _ (.head _))).1 7
                  have a8 : ∀ d : Line.Cls F, d.W.cell? ⟨p12, 8, none⟩ = some (.int .i64 (vo 8)) := fun d => blk_cell ((hFe ▸ d.h : Lr w d.W bs mb' (i + 1) N ((p16, cells9 zeroC, 24) :: (p12, cells9 vo, 24) :: (p8, cells9 zeroC, 24) :: (po, cells12 ⟨id, op, owner, v⟩, 30) :: [])).keep _ (.tail _ (.head _))).1 8
                  have b0 : ∀ d : Line.Cls F, d.W.cell? ⟨p16, 0, none⟩ = some (.int .i64 0) := fun d => blk_cell ((hFe ▸ d.h : Lr w d.W bs mb' (i + 1) N ((p16, cells9 zeroC, 24) :: (p12, cells9 vo, 24) :: (p8, cells9 zeroC, 24) :: (po, cells12 ⟨id, op, owner, v⟩, 30) :: [])).keep _ (.head _)).1 0
                  have b1 : ∀ d : Line.Cls F, d.W.cell? ⟨p16, 1, none⟩ = some (.int .i64 0) := fun d => blk_cell ((hFe ▸ d.h : Lr w d.W bs mb' (i + 1) N ((p16, cells9 zeroC, 24) :: (p12, cells9 vo, 24) :: (p8, cells9 zeroC, 24) :: (po, cells12 ⟨id, op, owner, v⟩, 30) :: [])).keep _ (.head _)).1 1
                  have b2 : ∀ d : Line.Cls F, d.W.cell? ⟨p16, 2, none⟩ = some (.int .i64 0) := fun d => blk_cell ((hFe ▸ d.h : Lr w d.W bs mb' (i + 1) N ((p16, cells9 zeroC, 24) :: (p12, cells9 vo, 24) :: (p8, cells9 zeroC, 24) :: (po, cells12 ⟨id, op, owner, v⟩, 30) :: [])).keep _ (.head _)).1 2
                  have b3 : ∀ d : Line.Cls F, d.W.cell? ⟨p16, 3, none⟩ = some (.int .i64 0) := fun d => blk_cell ((hFe ▸ d.h : Lr w d.W bs mb' (i + 1) N ((p16, cells9 zeroC, 24) :: (p12, cells9 vo, 24) :: (p8, cells9 zeroC, 24) :: (po, cells12 ⟨id, op, owner, v⟩, 30) :: [])).keep _ (.head _)).1 3
                  have b4 : ∀ d : Line.Cls F, d.W.cell? ⟨p16, 4, none⟩ = some (.int .i64 0) := fun d => blk_cell ((hFe ▸ d.h : Lr w d.W bs mb' (i + 1) N ((p16, cells9 zeroC, 24) :: (p12, cells9 vo, 24) :: (p8, cells9 zeroC, 24) :: (po, cells12 ⟨id, op, owner, v⟩, 30) :: [])).keep _ (.head _)).1 4
                  have b5 : ∀ d : Line.Cls F, d.W.cell? ⟨p16, 5, none⟩ = some (.int .i64 0) := fun d => blk_cell ((hFe ▸ d.h : Lr w d.W bs mb' (i + 1) N ((p16, cells9 zeroC, 24) :: (p12, cells9 vo, 24) :: (p8, cells9 zeroC, 24) :: (po, cells12 ⟨id, op, owner, v⟩, 30) :: [])).keep _ (.head _)).1 5
                  have b6 : ∀ d : Line.Cls F, d.W.cell? ⟨p16, 6, none⟩ = some (.int .i64 0) := fun d => blk_cell ((hFe ▸ d.h : Lr w d.W bs mb' (i + 1) N ((p16, cells9 zeroC, 24) :: (p12, cells9 vo, 24) :: (p8, cells9 zeroC, 24) :: (po, cells12 ⟨id, op, owner, v⟩, 30) :: [])).keep _ (.head _)).1 6
                  have b7 : ∀ d : Line.Cls F, d.W.cell? ⟨p16, 7, none⟩ = some (.int .i64 0) := fun d => blk_cell ((hFe ▸ d.h : Lr w d.W bs mb' (i + 1) N ((p16, cells9 zeroC, 24) :: (p12, cells9 vo, 24) :: (p8, cells9 zeroC, 24) :: (po, cells12 ⟨id, op, owner, v⟩, 30) :: [])).keep _ (.head _)).1 7
                  have b8 : ∀ d : Line.Cls F, d.W.cell? ⟨p16, 8, none⟩ = some (.int .i64 0) := fun d => blk_cell ((hFe ▸ d.h : Lr w d.W bs mb' (i + 1) N ((p16, cells9 zeroC, 24) :: (p12, cells9 vo, 24) :: (p8, cells9 zeroC, 24) :: (po, cells12 ⟨id, op, owner, v⟩, 30) :: [])).keep _ (.head _)).1 8
                  have mv : ∀ W W', F W → Below W.heap.size W W' → F W' := fun W W' h hb => by rw [hFe] at h ⊢; exact Lr.move h hb
                  have QL := Lib.hid (Line.cls_call mv (fun W hW => HPL.out W (by rw [hFe] at hW; exact Lr.drop hW)))
                  have QF := Lib.hid (Line.cls_call mv (fun W hW => HPF.out W (by rw [hFe] at hW; exact Lr.drop hW)))
                  clear HPL HPF mv hS
                  have HFE := Lib.hid hFe
                  clear hFe
                  have nonempty_cls : Nonempty (Line.Cls F) := ⟨⟨_, hF⟩⟩
                  go_wp2_with fail
                  refine Line.wp_region_cls (F := F) (by kernel_rfl) (by kernel_rfl) hF ?_
                  repeat (go_big_quiet_step (first | exact QL.out _ | exact QF.out _))
                  refine wpQuiet_nil ?_
                  intro W17 h17
                  rw [HFE.out] at h17
                  have hS : Lr w W17 bs mb' (i + 1) N ((p16, cells9 zeroC, 24) :: (p12, cells9 vo, 24) :: (p8, cells9 zeroC, 24) :: (po, cells12 ⟨id, op, owner, v⟩, 30) :: []) := h17
                  clear h17 HFE x2 a0 a1 a2 a3 a4 a5 a6 a7 a8 b0 b1 b2 b3 b4 b5 b6 b7 b8 QL QF nonempty_cls hF hne hne2 hne3
                  clear F
                  have cp160 : W17.cell? ⟨p16, 0, none⟩ = some (.int .i64 0) := blk_cell (hS.keep _ (.head _)).1 0
                  have cp161 : W17.cell? ⟨p16, 1, none⟩ = some (.int .i64 0) := blk_cell (hS.keep _ (.head _)).1 1
                  have cp162 : W17.cell? ⟨p16, 2, none⟩ = some (.int .i64 0) := blk_cell (hS.keep _ (.head _)).1 2
                  have cp163 : W17.cell? ⟨p16, 3, none⟩ = some (.int .i64 0) := blk_cell (hS.keep _ (.head _)).1 3
                  have cp164 : W17.cell? ⟨p16, 4, none⟩ = some (.int .i64 0) := blk_cell (hS.keep _ (.head _)).1 4
                  have cp165 : W17.cell? ⟨p16, 5, none⟩ = some (.int .i64 0) := blk_cell (hS.keep _ (.head _)).1 5
                  have cp166 : W17.cell? ⟨p16, 6, none⟩ = some (.int .i64 0) := blk_cell (hS.keep _ (.head _)).1 6
                  have cp167 : W17.cell? ⟨p16, 7, none⟩ = some (.int .i64 0) := blk_cell (hS.keep _ (.head _)).1 7
                  have cp168 : W17.cell? ⟨p16, 8, none⟩ = some (.int .i64 0) := blk_cell (hS.keep _ (.head _)).1 8
                  have cp80 : W17.cell? ⟨p8, 0, none⟩ = some (.int .i64 0) := blk_cell (hS.keep _ (.tail _ (.tail _ (.head _)))).1 0
                  have cp81 : W17.cell? ⟨p8, 1, none⟩ = some (.int .i64 0) := blk_cell (hS.keep _ (.tail _ (.tail _ (.head _)))).1 1
                  have cp82 : W17.cell? ⟨p8, 2, none⟩ = some (.int .i64 0) := blk_cell (hS.keep _ (.tail _ (.tail _ (.head _)))).1 2
                  have cp83 : W17.cell? ⟨p8, 3, none⟩ = some (.int .i64 0) := blk_cell (hS.keep _ (.tail _ (.tail _ (.head _)))).1 3
                  have cp84 : W17.cell? ⟨p8, 4, none⟩ = some (.int .i64 0) := blk_cell (hS.keep _ (.tail _ (.tail _ (.head _)))).1 4
                  have cp85 : W17.cell? ⟨p8, 5, none⟩ = some (.int .i64 0) := blk_cell (hS.keep _ (.tail _ (.tail _ (.head _)))).1 5
                  have cp86 : W17.cell? ⟨p8, 6, none⟩ = some (.int .i64 0) := blk_cell (hS.keep _ (.tail _ (.tail _ (.head _)))).1 6
                  have cp87 : W17.cell? ⟨p8, 7, none⟩ = some (.int .i64 0) := blk_cell (hS.keep _ (.tail _ (.tail _ (.head _)))).1 7
                  have cp88 : W17.cell? ⟨p8, 8, none⟩ = some (.int .i64 0) := blk_cell (hS.keep _ (.tail _ (.tail _ (.head _)))).1 8
                  go_wp2_with (go_at_call 24; refine (HA2.out _ hS.drop).mono ?_; rintro e w18 ⟨A1, c1, rfl, hb⟩; replace hS := hS.move hb; clear hb)
                  go_roundw
                  case rel => exact ⟨i + 1, mb', N, by omega, by go_num, Lib.hid hS.drop⟩
                  case measure => simp [intOf]; omega
              · subst hl
                clear HD
                as_aux_lemma =>
                  obtain ⟨F, hFe⟩ : ∃ F : World → Prop, F = fun W => Lr w W bs mb' (i + 1) N ((p16, cells9 v1, 24) :: (p12, cells9 vo, 24) :: (p8, cells9 v1, 24) :: (po, cells12 ⟨id, op, owner, v⟩, 30) :: []) := ⟨_, rfl⟩
                  have hF : F W16.drew := by rw [hFe]; exact hS.drew
                  have x2 : ∀ d : Line.Cls F, d.W.cell? ⟨po, 2, none⟩ = some (.int .i64 owner) := fun d => blk_cell ((hFe ▸ d.h : Lr w d.W bs mb' (i + 1) N ((p16, cells9 v1, 24) :: (p12, cells9 vo, 24) :: (p8, cells9 v1, 24) :: (po, cells12 ⟨id, op, owner, v⟩, 30) :: [])).keep _ (.tail _ (.tail _ (.tail _ (.head _))))).1 2
                  have a0 : ∀ d : Line.Cls F, d.W.cell? ⟨p12, 0, none⟩ = some (.int .i64 (vo 0)) := fun d => blk_cell ((hFe ▸ d.h : Lr w d.W bs mb' (i + 1) N ((p16, cells9 v1, 24) :: (p12, cells9 vo, 24) :: (p8, cells9 v1, 24) :: (po, cells12 ⟨id, op, owner, v⟩, 30) :: [])).keep _ (.tail _ (.head _))).1 0
                  have a1 : ∀ d : Line.Cls F, d.W.cell? ⟨p12, 1, none⟩ = some (.int .i64 (vo 1)) := fun d => blk_cell ((hFe ▸ d.h : Lr w d.W bs mb' (i + 1) N ((p16, cells9 v1, 24) :: (p12, cells9 vo, 24) :: (p8, cells9 v1, 24) :: (po, cells12 ⟨id, op, owner, v⟩, 30) :: [])).keep _ (.tail _ (.head _))).1 1
                  have a2 : ∀ d : Line.Cls F, d.W.cell? ⟨p12, 2, none⟩ = some (.int .i64 (vo 2)) := fun d => blk_cell ((hFe ▸ d.h : Lr w d.W bs mb' (i + 1) N ((p16, cells9 v1, 24) :: (p12, cells9 vo, 24) :: (p8, cells9 v1, 24) :: (po, cells12 ⟨id, op, owner, v⟩, 30) :: [])).keep _ (.tail _ (.head _))).1 2
                  have a3 : ∀ d : Line.Cls F, d.W.cell? ⟨p12, 3, none⟩ = some (.int .i64 (vo 3)) := fun d => blk_cell ((hFe ▸ d.h : Lr w d.W bs mb' (i + 1) N ((p16, cells9 v1, 24) :: (p12, cells9 vo, 24) :: (p8, cells9 v1, 24) :: (po, cells12 ⟨id, op, owner, v⟩, 30) :: [])).keep _ (.tail _ (.head _))).1 3
                  have a4 : ∀ d : Line.Cls F, d.W.cell? ⟨p12, 4, none⟩ = some (.int .i64 (vo 4)) := fun d => blk_cell ((hFe ▸ d.h : Lr w d.W bs mb' (i + 1) N ((p16, cells9 v1, 24) :: (p12, cells9 vo, 24) :: (p8, cells9 v1, 24) :: (po, cells12 ⟨id, op, owner, v⟩, 30) :: [])).keep _ (.tail _ (.head _))).1 4
                  have a5 : ∀ d : Line.Cls F, d.W.cell? ⟨p12, 5, none⟩ = some (.int .i64 (vo 5)) := fun d => blk_cell ((hFe ▸ d.h : Lr w d.W bs mb' (i + 1) N ((p16, cells9 v1, 24) :: (p12, cells9 vo, 24) :: (p8, cells9 v1, 24) :: (po, cells12 ⟨id, op, owner, v⟩, 30) :: [])).keep _ (.tail _ (.head _))).1 5
                  have a6 : ∀ d : Line.Cls F, d.W.cell? ⟨p12, 6, none⟩ = some (.int .i64 (vo 6)) := fun d => blk_cell ((hFe ▸ d.h : Lr w d.W bs mb' (i + 1) N ((p16, cells9 v1, 24) :: (p12, cells9 vo, 24) :: (p8, cells9 v1, 24) :: (po, cells12 ⟨id, op, owner, v⟩, 30) :: [])).keep _ (.tail _ (.head _))).1 6
                  have a7 : ∀ d : Line.Cls F, d.W.cell? ⟨p12, 7, none⟩ = some (.int .i64 (vo 7)) := fun d => blk_cell ((hFe ▸ d.h : Lr w d.W bs mb' (i + 1) N ((p16, cells9 v1, 24) :: (p12, cells9 vo, 24) :: (p8, cells9 v1, 24) :: (po, cells12 ⟨id, op, owner, v⟩, 30) :: [])).keep _ (.tail _ (.head _))).1 7
                  have a8 : ∀ d : Line.Cls F, d.W.cell? ⟨p12, 8, none⟩ = some (.int .i64 (vo 8)) := fun d => blk_cell ((hFe ▸ d.h : Lr w d.W bs mb' (i + 1) N ((p16, cells9 v1, 24) :: (p12, cells9 vo, 24) :: (p8, cells9 v1, 24) :: (po, cells12 ⟨id, op, owner, v⟩, 30) :: [])).keep _ (.tail _ (.head _))).1 8
                  have b0 : ∀ d : Line.Cls F, d.W.cell? ⟨p16, 0, none⟩ = some (.int .i64 (v1 0)) := fun d => blk_cell ((hFe ▸ d.h : Lr w d.W bs mb' (i + 1) N ((p16, cells9 v1, 24) :: (p12, cells9 vo, 24) :: (p8, cells9 v1, 24) :: (po, cells12 ⟨id, op, owner, v⟩, 30) :: [])).keep _ (.head _)).1 0
                  have b1 : ∀ d : Line.Cls F, d.W.cell? ⟨p16, 1, none⟩ = some (.int .i64 (v1 1)) := fun d => blk_cell ((hFe ▸ d.h : Lr w d.W bs mb' (i + 1) N ((p16, cells9 v1, 24) :: (p12, cells9 vo, 24) :: (p8, cells9 v1, 24) :: (po, cells12 ⟨id, op, owner, v⟩, 30) :: [])).keep _ (.head _)).1 1
                  have b2 : ∀ d : Line.Cls F, d.W.cell? ⟨p16, 2, none⟩ = some (.int .i64 (v1 2)) := fun d => blk_cell ((hFe ▸ d.h : Lr w d.W bs mb' (i + 1) N ((p16, cells9 v1, 24) :: (p12, cells9 vo, 24) :: (p8, cells9 v1, 24) :: (po, cells12 ⟨id, op, owner, v⟩, 30) :: [])).keep _ (.head _)).1 2
                  have b3 : ∀ d : Line.Cls F, d.W.cell? ⟨p16, 3, none⟩ = some (.int .i64 (v1 3)) := fun d => blk_cell ((hFe ▸ d.h : Lr w d.W bs mb' (i + 1) N ((p16, cells9 v1, 24) :: (p12, cells9 vo, 24) :: (p8, cells9 v1, 24) :: (po, cells12 ⟨id, op, owner, v⟩, 30) :: [])).keep _ (.head _)).1 3
                  have b4 : ∀ d : Line.Cls F, d.W.cell? ⟨p16, 4, none⟩ = some (.int .i64 (v1 4)) := fun d => blk_cell ((hFe ▸ d.h : Lr w d.W bs mb' (i + 1) N ((p16, cells9 v1, 24) :: (p12, cells9 vo, 24) :: (p8, cells9 v1, 24) :: (po, cells12 ⟨id, op, owner, v⟩, 30) :: [])).keep _ (.head _)).1 4
                  have b5 : ∀ d : Line.Cls F, d.W.cell? ⟨p16, 5, none⟩ = some (.int .i64 (v1 5)) := fun d => blk_cell ((hFe ▸ d.h : Lr w d.W bs mb' (i + 1) N ((p16, cells9 v1, 24) :: (p12, cells9 vo, 24) :: (p8, cells9 v1, 24) :: (po, cells12 ⟨id, op, owner, v⟩, 30) :: [])).keep _ (.head _)).1 5
                  have b6 : ∀ d : Line.Cls F, d.W.cell? ⟨p16, 6, none⟩ = some (.int .i64 (v1 6)) := fun d => blk_cell ((hFe ▸ d.h : Lr w d.W bs mb' (i + 1) N ((p16, cells9 v1, 24) :: (p12, cells9 vo, 24) :: (p8, cells9 v1, 24) :: (po, cells12 ⟨id, op, owner, v⟩, 30) :: [])).keep _ (.head _)).1 6
                  have b7 : ∀ d : Line.Cls F, d.W.cell? ⟨p16, 7, none⟩ = some (.int .i64 (v1 7)) := fun d => blk_cell ((hFe ▸ d.h : Lr w d.W bs mb' (i + 1) N ((p16, cells9 v1, 24) :: (p12, cells9 vo, 24) :: (p8, cells9 v1, 24) :: (po, cells12 ⟨id, op, owner, v⟩, 30) :: [])).keep _ (.head _)).1 7
                  have b8 : ∀ d : Line.Cls F, d.W.cell? ⟨p16, 8, none⟩ = some (.int .i64 (v1 8)) := fun d => blk_cell ((hFe ▸ d.h : Lr w d.W bs mb' (i + 1) N ((p16, cells9 v1, 24) :: (p12, cells9 vo, 24) :: (p8, cells9 v1, 24) :: (po, cells12 ⟨id, op, owner, v⟩, 30) :: [])).keep _ (.head _)).1 8
                  have mv : ∀ W W', F W → Below W.heap.size W W' → F W' := fun W W' h hb => by rw [hFe] at h ⊢; exact Lr.move h hb
                  have QL := Lib.hid (Line.cls_call mv (fun W hW => HPL.out W (by rw [hFe] at hW; exact Lr.drop hW)))
                  have QF := Lib.hid (Line.cls_call mv (fun W hW => HPF.out W (by rw [hFe] at hW; exact Lr.drop hW)))
                  clear HPL HPF mv hS
                  have HFE := Lib.hid hFe
                  clear hFe
                  have nonempty_cls : Nonempty (Line.Cls F) := ⟨⟨_, hF⟩⟩
                  go_wp2_with fail
                  refine Line.wp_region_cls (F := F) (by kernel_rfl) (by kernel_rfl) hF ?_
                  repeat (go_big_quiet_step (first | exact QL.out _ | exact QF.out _))
                  refine wpQuiet_nil ?_
                  intro W17 h17
                  rw [HFE.out] at h17
                  have hS : Lr w W17 bs mb' (i + 1) N ((p16, cells9 v1, 24) :: (p12, cells9 vo, 24) :: (p8, cells9 v1, 24) :: (po, cells12 ⟨id, op, owner, v⟩, 30) :: []) := h17
                  clear h17 HFE x2 a0 a1 a2 a3 a4 a5 a6 a7 a8 b0 b1 b2 b3 b4 b5 b6 b7 b8 QL QF nonempty_cls hF hne hne2 hne3
                  clear F
                  have cp160 : W17.cell? ⟨p16, 0, none⟩ = some (.int .i64 (v1 0)) := blk_cell (hS.keep _ (.head _)).1 0
                  have cp161 : W17.cell? ⟨p16, 1, none⟩ = some (.int .i64 (v1 1)) := blk_cell (hS.keep _ (.head _)).1 1
                  have cp162 : W17.cell? ⟨p16, 2, none⟩ = some (.int .i64 (v1 2)) := blk_cell (hS.keep _ (.head _)).1 2
                  have cp163 : W17.cell? ⟨p16, 3, none⟩ = some (.int .i64 (v1 3)) := blk_cell (hS.keep _ (.head _)).1 3
                  have cp164 : W17.cell? ⟨p16, 4, none⟩ = some (.int .i64 (v1 4)) := blk_cell (hS.keep _ (.head _)).1 4
                  have cp165 : W17.cell? ⟨p16, 5, none⟩ = some (.int .i64 (v1 5)) := blk_cell (hS.keep _ (.head _)).1 5
                  have cp166 : W17.cell? ⟨p16, 6, none⟩ = some (.int .i64 (v1 6)) := blk_cell (hS.keep _ (.head _)).1 6
                  have cp167 : W17.cell? ⟨p16, 7, none⟩ = some (.int .i64 (v1 7)) := blk_cell (hS.keep _ (.head _)).1 7
                  have cp168 : W17.cell? ⟨p16, 8, none⟩ = some (.int .i64 (v1 8)) := blk_cell (hS.keep _ (.head _)).1 8
                  have cp80 : W17.cell? ⟨p8, 0, none⟩ = some (.int .i64 (v1 0)) := blk_cell (hS.keep _ (.tail _ (.tail _ (.head _)))).1 0
                  have cp81 : W17.cell? ⟨p8, 1, none⟩ = some (.int .i64 (v1 1)) := blk_cell (hS.keep _ (.tail _ (.tail _ (.head _)))).1 1
                  have cp82 : W17.cell? ⟨p8, 2, none⟩ = some (.int .i64 (v1 2)) := blk_cell (hS.keep _ (.tail _ (.tail _ (.head _)))).1 2
                  have cp83 : W17.cell? ⟨p8, 3, none⟩ = some (.int .i64 (v1 3)) := blk_cell (hS.keep _ (.tail _ (.tail _ (.head _)))).1 3
                  have cp84 : W17.cell? ⟨p8, 4, none⟩ = some (.int .i64 (v1 4)) := blk_cell (hS.keep _ (.tail _ (.tail _ (.head _)))).1 4
                  have cp85 : W17.cell? ⟨p8, 5, none⟩ = some (.int .i64 (v1 5)) := blk_cell (hS.keep _ (.tail _ (.tail _ (.head _)))).1 5
                  have cp86 : W17.cell? ⟨p8, 6, none⟩ = some (.int .i64 (v1 6)) := blk_cell (hS.keep _ (.tail _ (.tail _ (.head _)))).1 6
                  have cp87 : W17.cell? ⟨p8, 7, none⟩ = some (.int .i64 (v1 7)) := blk_cell (hS.keep _ (.tail _ (.tail _ (.head _)))).1 7
                  have cp88 : W17.cell? ⟨p8, 8, none⟩ = some (.int .i64 (v1 8)) := blk_cell (hS.keep _ (.tail _ (.tail _ (.head _)))).1 8
                  go_wp2_with (go_at_call 24; refine (HA2.out _ hS.drop).mono ?_; rintro e w18 ⟨A1, c1, rfl, hb⟩; replace hS := hS.move hb; clear hb)
                  go_roundw
                  case rel => exact ⟨i + 1, mb', N, by omega, by go_num, Lib.hid hS.drop⟩
                  case measure => simp [intOf]; omega
      · have hiL : i = l.length := by omega
        subst hiL
        have hL := Lib.hid HI.out.below
        clear HI
        go_wp2_with (go_at_call 13; refine (awake_ _).mono ?_; rintro e w' ⟨rfl, hB⟩)
        go_ret
        exact ⟨rfl, hL.out.trans (hB.mono hL.out.size)⟩
  · have h201 : ((l.length : Int) > 200) = True := by simp; omega
    go_enter Try.func6, Try.ntmps6
    go_wp2_with (go_at_call 13; refine (awake_ _).mono ?_; rintro e w' ⟨rfl, hB⟩)
    go_ret
    exact ⟨rfl, hB⟩
end Go.Proofs.Ytdnhmlpjohojdaa.Adm.Bk
