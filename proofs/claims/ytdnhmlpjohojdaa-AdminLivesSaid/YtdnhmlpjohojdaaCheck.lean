/-
  conf.Check: by its contract.
-/
import Derived.Test.YtdnhmlpjohojdaaPlaces
import Derived.Test.YtdnhmlpjohojdaaStillIn
import Derived.Lib.Hide
set_option linter.unusedVariables false
set_option linter.unusedSimpArgs false
namespace Go.Proofs.Ytdnhmlpjohojdaa.Adm
open Go.RowKit Go.Shelf Go.Proofs.Ytdnhmlpjohojdaa.Tab
attribute [local go_sem] Oper.semAt_some
/-- A configuration's cells. -/
abbrev cells9 (v : Fin 9 → Int) : Array Value := #[.int .i64 (v 0), .int .i64 (v 1), .int .i64 (v 2), .int .i64 (v 3), .int .i64 (v 4), .int .i64 (v 5), .int .i64 (v 6), .int .i64 (v 7), .int .i64 (v 8)]
theorem cells9_at (v : Fin 9 → Int) (x : Fin 9) : (cells9 v)[x.1]? = some (.int .i64 (v x)) :=
  match x with
  | 0 => rfl | 1 => rfl | 2 => rfl | 3 => rfl | 4 => rfl | 5 => rfl | 6 => rfl | 7 => rfl | 8 => rfl
/-- One number is within its bounds. -/
def in9 (v : Fin 9 → Int) (x : Fin 9) : Prop := least x.1 ≤ v x ∧ v x ≤ most x.1
instance (v : Fin 9 → Int) (x : Fin 9) : Decidable (in9 v x) := by unfold in9; infer_instance
def okB (v : Fin 9 → Int) : Bool := decide (∀ x : Fin 9, in9 v x)
theorem cell_of_cells {W : World} {B : Nat} {cs : Array Value} {t : TypeId} {fr : Nat × Nat} (h : W.heap[B]? = some (.cells cs t fr)) (i : Nat) : W.cell? ⟨B, i, none⟩ = cs[i]? := by
  simp [World.cell?, h]
/-- A block that holds what it holds: whatever turns that is no cells, it stays. -/
theorem block_own {β : Type} (B : Nat) (o : Obj) (ho : o.isCells = true) : Own (fun (_ : β) W => W.heap[B]? = some o) := fun s X Y row hs hg hrow => by
  refine (hg.block B (Array.getElem?_eq_some_iff.1 hs).1 (fun e => ?_)).trans hs
  obtain ⟨o', ho', hc⟩ := hrow B e.symm
  rw [hs] at ho'
  cases ho'
  rw [ho] at hc
  cases hc
def At9 (v : Fin 9 → Int) (B : Nat) (W : World) : Prop := W.heap[B]? = some (.cells (cells9 v) 24 (0, 0))
def AxP (c : Nat) (f : Fin 9 → Value → Act) (x : Fin 9) (a' : Act) (W : World) : Prop :=
  ∃ Bx, W.heap[Bx]? = some (.cells #[.pointer (some ⟨c, x.1, none⟩), .int .i64 (least x.1), .int .i64 (most x.1)] 114 (0, 0)) ∧ a' = f x (.pointer (some ⟨Bx, 0, none⟩))
theorem axP_own (c : Nat) (f : Fin 9 → Value → Act) (B : Nat) (x : Fin 9) (a' : Act) : OwnFrom B (fun (_ : Unit) W => AxP c f x a' W) := fun s X Y row hs hg hrow => by
  obtain ⟨Bx, h2, h3⟩ := hs
  exact ⟨Bx, block_own (β := Unit) Bx _ rfl () X Y row h2 hg (fun r e => (hrow r e).2), h3⟩
theorem mem_upto9 (x : Fin 9) : x ∈ upto9 9 := by
  unfold upto9
  rw [List.take_of_length_le (by simp)]
  exact List.mem_finRange x
/-- OK, or what is formed wrongly. -/
def errB (b : Bool) : Int := if b then 0 else 1
theorem keeps_heap {W W1 W2 : World} (e : W2.heap = W1.heap) (h : KeepsOthers W W1) (B : Nat) : KeepsFrom B W W2 :=
  KeepsOthers.from ⟨by rw [e]; exact h.size, fun k o hk ho => by rw [e]; exact h.same k o hk ho⟩ B
set_option maxRecDepth 100000 in
set_option maxHeartbeats 1000000 in
theorem Check_ (v : Fin 9 → Int) (w : World) :
    Calls Try.prog 47 #[.agg (cells9 v)] w fun e w' => e = .returned (.int .i64 (errB (okB v))) ∧ Below w.heap.size w w' := by
  refine (callsIn_wide (n := 6)).1 ?_
  refine callsIn_of_wp_marks Try.func47 rfl trivial ?_ rfl
  simp only [Try.ntmps47, List.size_toArray, List.length_cons, List.length_nil, Nat.reduceAdd, Nat.reduceSub, Array.replicate_succ, Array.replicate_zero, List.push_toArray, List.append_toArray, List.nil_append, List.cons_append]
  gi_wp2_with (refine ⟨trivial, ?_⟩; gi_at_call 65; refine (callsIn_wide.2 (places _ _)).mono ?_; rintro e w' ⟨rfl, rfl⟩)
  have hsz : (((w.alloc (.cells (cells9 v) 24)).alloc (.cells #[.int .i64 0] 27)).alloc (.cells (placeCells w.heap.size) 120)).drew.heap.size = w.heap.size + 3 := by simp
  have hA : At9 v w.heap.size (((w.alloc (.cells (cells9 v) 24)).alloc (.cells #[.int .i64 0] 27)).alloc (.cells (placeCells w.heap.size) 120)).drew := (Below.heap_alloc _ _ _ (by simp; omega)).trans ((Below.heap_alloc _ _ _ (by simp)).trans (heap_alloc_last w _))
  have hR : Boxed (((w.alloc (.cells (cells9 v) 24)).alloc (.cells #[.int .i64 0] 27)).alloc (.cells (placeCells w.heap.size) 120)).drew (w.heap.size + 1) 27 (.int .i64 0) := (Below.heap_alloc _ _ _ (by simp)).trans (by have := heap_alloc_last (w.alloc (.cells (cells9 v) 24)) (.cells #[.int .i64 0] 27); simpa using this)
  have hP : (((w.alloc (.cells (cells9 v) 24)).alloc (.cells #[.int .i64 0] 27)).alloc (.cells (placeCells w.heap.size) 120)).drew.heap[w.heap.size + 1 + 1]? = some (.cells (placeCells w.heap.size) 120 (0, 0)) := by have := heap_alloc_last ((w.alloc (.cells (cells9 v) 24)).alloc (.cells #[.int .i64 0] 27)) (.cells (placeCells w.heap.size) 120); simp only [World.size_alloc] at this; exact this
  have hB : Below w.heap.size w (((w.alloc (.cells (cells9 v) 24)).alloc (.cells #[.int .i64 0] 27)).alloc (.cells (placeCells w.heap.size) 120)).drew := ((((Below.refl _ w).alloc (Nat.le_refl _) _).alloc (by simp) _).alloc (by simp; omega) _).drew
  generalize (((w.alloc (.cells (cells9 v) 24)).alloc (.cells #[.int .i64 0] 27)).alloc (.cells (placeCells w.heap.size) 120)).drew = W0 at *
  refine wpIn_rangeFunc_ownH rfl (by omega) (gf := 70) (lb := #[.pointer (some ⟨w.heap.size + 1 + 1, 0, none⟩)]) rfl trivial (enters_of Try.func70 (by kernel_rfl) rfl)
    (places_stops Fence.wide _ trivial rfl (by omega) (w.heap.size + 1 + 1) w.heap.size W0 hP) walksK_t walksK_b (Below.refl _ _) (fun _ => rfl)
    (fun pre W => (At9 v w.heap.size W ∧ Boxed W (w.heap.size + 1) 27 (.int .i64 0)) ∧ (Below w.heap.size w W ∧ ∀ x ∈ pre, in9 v x))
    (fun c pre W => (At9 v w.heap.size W ∧ Boxed W (w.heap.size + 1) 27 (.int .i64 1)) ∧ (Below w.heap.size w W ∧ (c = .ret ∧ ∃ x, ¬ in9 v x)))
    (OwnFrom.and (OwnFrom.and (Own.from (block_own _ _ rfl) _) (Own.from (boxed_own _ _ (fun _ => Value.int .i64 0)) _)) (OwnFrom.and (ownFrom_below (Nat.le_refl _) (by omega)) (ownFrom_pure _ (fun pre => ∀ x ∈ pre, in9 v x))))
    (fun c => OwnFrom.and (OwnFrom.and (Own.from (block_own _ _ rfl) _) (Own.from (boxed_own _ _ (fun _ => Value.int .i64 1)) _)) (OwnFrom.and (ownFrom_below (Nat.le_refl _) (by omega)) (ownFrom_pure _ (fun _ => c = .ret ∧ ∃ x, ¬ in9 v x))))
    ⟨⟨hA, hR⟩, hB, by simp⟩
    (AxP w.heap.size (fun x p => { tmps := #[.agg (cells9 v), .pointer (some ⟨w.heap.size, 0, none⟩), .pointer (some ⟨w.heap.size + 1, 0, none⟩), undef, p, .func (.func 70) #[] #[.pointer (some ⟨w.heap.size + 1 + 1, 0, none⟩)], .int .i64 (x.1 : Int), placeV w.heap.size x.1, undef, undef, undef, undef, undef, undef, undef, undef, undef, undef, undef, undef, undef, undef, undef, undef], defers := [] }))
    (axP_own _ _ _) ?assign ?body ?done ?stop
  case assign =>
    rintro l pre x W K ⟨⟨hA', hR'⟩, hB', hp⟩ hK
    simp only [encP, placeV]
    gi_wp2
    refine hK _ _ ((KeepsOthers.alloc W (.cells #[.pointer (some ⟨w.heap.size, x.1, none⟩), .int .i64 (least x.1), .int .i64 (most x.1)] 114)).from _) ((KeepsOthers.alloc W _).walks) ?_ ?_
    · exact ⟨⟨(Below.heap_alloc _ _ _ (Array.getElem?_eq_some_iff.1 hA').1).trans hA', hR'.alloc _⟩, hB'.alloc (hB'.size) _, hp⟩
    · exact ⟨W.heap.size, heap_alloc_last _ _, rfl⟩
  case body =>
    rintro l pre x a' W hl ⟨r, hr⟩ ⟨⟨hA', hR'⟩, hB', hp⟩ ⟨Bx, hX, rfl⟩ hlen
    have hc : W.cell? ⟨w.heap.size, x.1, none⟩ = some (.int .i64 (v x)) := (cell_of_cells hA' x.1).trans (cells9_at v x)
    have hc0 : W.cell? ⟨Bx, 0, none⟩ = some (.pointer (some ⟨w.heap.size, x.1, none⟩)) := cell_of_cells hX 0
    have hc1 : W.cell? ⟨Bx, 1, none⟩ = some (.int .i64 (least x.1)) := cell_of_cells hX 1
    have hc2 : W.cell? ⟨Bx, 2, none⟩ = some (.int .i64 (most x.1)) := cell_of_cells hX 2
    have hrf := hR'.frozen
    have hrc := hR'.cell
    have HA := Lib.hid hA'
    have HX := Lib.hid hX
    have HR := Lib.hid hR'
    have HB := Lib.hid hB'
    have HP := Lib.hid hp
    clear hA' hX hR' hB' hp hr hA hR hP hB hsz
    by_cases h1 : v x < least x.1
    · have hin : Hid (¬ in9 v x) := fun h => by have := h.1; omega
      gi_wp2_with fail
      refine Line.wpIn_region_quiet_lit (Line.open_round _ l) (by kernel_rfl) (by kernel_rfl) (by kernel_rfl) ?_
      repeat (go_big_quiet_step (fail))
      refine wpQuiet_nil ?_
      intro _ hw'
      obtain ⟨nq, hw''⟩ := hw'
      subst hw''
      gi_wp2
      have hk := KeepsOthers.setCell W ⟨w.heap.size + 1, 0, none⟩ (.int .i64 1)
      have ha : At9 v w.heap.size (W.setCell ⟨w.heap.size + 1, 0, none⟩ (.int .i64 1)) := (Below.heap_setCell _ _ _ _ (by simp)).trans HA.out
      have hb := HR.out.set (.int .i64 1)
      have hbl := HB.out.setCell (p := ⟨w.heap.size + 1, 0, none⟩) (by simp) (.int .i64 1)
      exact ⟨keeps_heap (by rfl) hk _, ⟨ha, hb⟩, ⟨hbl.os, hbl.tape, hbl.output, hbl.size, hbl.block⟩, rfl, x, hin⟩
    · have hd1 : decide (v x < least x.1) = false := decide_eq_false h1
      by_cases h2 : most x.1 < v x
      · have hin : Hid (¬ in9 v x) := fun h => by have := h.2; omega
        gi_wp2_with fail
        refine Line.wpIn_region_quiet_lit (Line.open_round _ l) (by kernel_rfl) (by kernel_rfl) (by kernel_rfl) ?_
        repeat (go_big_quiet_step (fail))
        refine wpQuiet_nil ?_
        intro _ hw'
        obtain ⟨nq, hw''⟩ := hw'
        subst hw''
        gi_wp2
        have hk := KeepsOthers.setCell W ⟨w.heap.size + 1, 0, none⟩ (.int .i64 1)
        have ha : At9 v w.heap.size (W.setCell ⟨w.heap.size + 1, 0, none⟩ (.int .i64 1)) := (Below.heap_setCell _ _ _ _ (by simp)).trans HA.out
        have hb := HR.out.set (.int .i64 1)
        have hbl := HB.out.setCell (p := ⟨w.heap.size + 1, 0, none⟩) (by simp) (.int .i64 1)
        exact ⟨keeps_heap (by rfl) hk _, ⟨ha, hb⟩, ⟨hbl.os, hbl.tape, hbl.output, hbl.size, hbl.block⟩, rfl, x, hin⟩
      · have hin : Hid (in9 v x) := ⟨by omega, by omega⟩
        have hd2 : decide (most x.1 < v x) = false := decide_eq_false h2
        gi_wp2_with fail
        refine Line.wpIn_region_quiet_lit (Line.open_round _ l) (by kernel_rfl) (by kernel_rfl) (by kernel_rfl) ?_
        repeat (go_big_quiet_step (fail))
        refine wpQuiet_nil ?_
        intro _ hw'
        obtain ⟨nq, hw''⟩ := hw'
        subst hw''
        gi_wp2
        have hk := KeepsOthers.refl W
        have hbl := HB.out
        exact ⟨keeps_heap (by rfl) hk _, ⟨Nat.le_refl _, fun _ _ h _ => h⟩, ⟨HA.out, HR.out⟩, ⟨hbl.os, hbl.tape, hbl.output, hbl.size, hbl.block⟩, fun y hy => by
          rcases List.mem_append.1 hy with h | h
          · exact HP.out y h
          · obtain rfl : y = x := by simpa using h
            exact hin⟩
  case done =>
    rintro D ys W hD rfl ⟨⟨hA', hR'⟩, hB', hp⟩ hK
    have hok : okB v = true := decide_eq_true (fun x => hp x (mem_upto9 x))
    have hrf := hR'.frozen
    have hrc := hR'.cell
    have HR := Lib.hid hR'
    have HB := Lib.hid hB'
    have HK := Lib.hid hK
    have HO := Lib.hid hok
    clear hR' hB' hp hA hR hP hB hok hK
    gi_wp2
    have hK' := (KeepsOthers.setCell W ⟨w.heap.size + 1, 0, none⟩ (.int .i64 0)).same D _ HK.out rfl
    have hbl := HB.out.setCell (p := ⟨w.heap.size + 1, 0, none⟩) (by simp) (.int .i64 0)
    refine ⟨by simp, .inl ⟨_, _, rfl, run_takeDeferred hK', ?_⟩⟩
    have hc5 := cell_kept (HR.out.set (.int .i64 0)).cell (grownBy_putObj' _ D (.deferred none)) (fun r e => by cases e; exact ⟨_, hK', rfl⟩)
    refine ⟨.int .i64 0, by simp [results, Try.f47, go_sem, hc5], by rw [HO.out]; rfl, hbl.trans (belowK_b (w := w) (Nat.le_refl _) _ D _ _ (by omega) hK' rfl rfl)⟩
  case stop =>
    rintro D c pre W hD _ ⟨⟨hA', hR'⟩, hB', rfl, x, hx⟩ hK
    have hok : okB v = false := decide_eq_false (fun h => hx (h x))
    have HR := Lib.hid hR'
    have HB := Lib.hid hB'
    have HK := Lib.hid hK
    have HO := Lib.hid hok
    clear hR' hB' hA hR hP hB hok hK hx
    gi_wp2
    refine ⟨by simp, .inl ⟨_, _, rfl, run_takeDeferred HK.out, ?_⟩⟩
    have hc5 := cell_kept HR.out.cell (grownBy_putObj' _ D (.deferred none)) (fun r e => by cases e; exact ⟨_, HK.out, rfl⟩)
    refine ⟨.int .i64 1, by simp [results, Try.f47, go_sem, hc5], by rw [HO.out]; rfl, HB.out.trans (belowK_b (w := w) (Nat.le_refl _) _ D _ _ (by omega) HK.out rfl rfl)⟩
end Go.Proofs.Ytdnhmlpjohojdaa.Adm
