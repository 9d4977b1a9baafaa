/-
  fifo.Hall.Push, Pop.
-/
import Derived.Test.YtnccofpkanhfhaaGreatDoorFifo
set_option linter.unusedVariables false
set_option linter.unusedSimpArgs false
namespace Go.Proofs.YtnccofpkanhfhaaGreatDoor.Fifo
open Go.RowKit Go.Maps Go.WideMaps Go.Proofs.YtnccofpkanhfhaaGreatDoor.Tab Go.Proofs.YtnccofpkanhfhaaGreatDoor.Pure
/-- What a push has brought about. -/
def Pushed (w w' : World) (bs off : Nat) (mb : Option Nat) (n : Nat) (M : Tabl) (sz : Int) (s t : ByteArray) : Prop :=
  ∃ (b : Nat) (x' : Q), x'.ts = (match tlook ks M s with | some x => x.ts | none => []) ++ [t] ∧ Hall w' bs off (some b) (n + 1) (tput ks M s x') (sz + grows M s t) ∧ Touch w w' (own bs mb M) ∧ (∀ k, own bs (some b) (tput ks M s x') k → own bs mb M k ∨ w.heap.size ≤ k)
theorem Hall.mono {w : World} {bs off n n' : Nat} {mb : Option Nat} {M : Tabl} {sz : Int} (h : Hall w bs off mb n M sz) (hn : n ≤ n') : Hall w bs off mb n' M sz :=
  ⟨⟨h.tab.c0, h.tab.c1, h.tab.f0, h.tab.f1, h.tab.map.mono hn⟩, h.qs, h.ne, h.apart, h.far⟩
theorem tput_twice (M : Tabl) (s : ByteArray) (x y : Q) : tput ks (tput ks M s x) s y = tput ks M s y := by
  unfold tput
  congr 1
  have hd : ∀ l : Tabl, (∀ p ∈ l, (ks p.1).sameKey (ks s) = false) → tdel ks (tins ks (s, x) l) s = l := by
    intro l
    induction l with
    | nil => intro _; simp [tins, tdel, ks_one.self]
    | cons z r ih =>
      intro h
      have hz := h z (by simp)
      have hr : ∀ p ∈ r, (ks p.1).sameKey (ks s) = false := fun p hp => h p (by simp [hp])
      unfold tins
      split
      · unfold tdel
        rw [List.filter_cons, ks_one.self, if_neg (by simp), List.filter_eq_self]
        intro p hp
        rw [h p hp]; rfl
      · have := ih hr
        unfold tdel at this ⊢
        rw [List.filter_cons, hz, if_pos (show (!false) = true from rfl), this]
  exact hd _ (fun p hp => by unfold tdel at hp; simpa using (List.mem_filter.1 hp).2)
set_option maxRecDepth 100000 in
set_option maxHeartbeats 1000000 in
/-- There is a queue already. -/
theorem Push_there {w : World} {bs off b n : Nat} {M : Tabl} {sz : Int} (h : Hall w bs off (some b) n M sz) (s t : ByteArray) (hs : s.size ≤ 140737488351232) (ht : t.size ≤ 140737488351232) (h0 : 0 ≤ sz) (h1 : sz ≤ 1152921504606846976) {x : Q} (hl : tlook ks M s = some x) (hx : x.ps.length ≤ 1000000) :
    Calls Tryz.prog 90 #[.pointer (some ⟨bs, off, none⟩), .string s, .string t] w fun e w' => e = .returned (.tuple #[]) ∧ Pushed w w' bs off (some b) n M sz s t := by
  have c0 := h.tab.c0
  have c1 := h.tab.c1
  have f1 := h.tab.f1
  have hk := keyOf_string_mk Tryz.underlying9 (s := s) (by unfold maxLen; omega)
  have hg := Grows h.tab.drew s t hs ht
  have hm := fun (W : World) (r : Option Nat) => run_eql_map_nil (P := Tryz.prog) W 58 9 139 r Tryz.underlying58
  obtain ⟨hg0, hg1⟩ := grows_bd M s t
  have HG := hid (rfl : grows M s t = grows M s t)
  generalize hgg : grows M s t = g at hg hg0 hg1
  have hxm := look_mem hl
  have hqx := h.qs _ hxm
  have hne := h.ne _ hxm
  have hW1 : TabAt ks vq Tryz.prog 9 (w.setCell ⟨bs, off + 1, none⟩ (.int .i64 (sz + g))).drew bs off (some b) n M (sz + g) := (h.tab.sized (sz + g)).drew
  have hT1 : Touch w (w.setCell ⟨bs, off + 1, none⟩ (.int .i64 (sz + g))).drew (fun k => k = bs) := (Touch.setCell w _ _ (fun k => k = bs) rfl).drew
  have hq1 : QAt (w.setCell ⟨bs, off + 1, none⟩ (.int .i64 (sz + g))).drew x := hqx.move (fun k hk => hT1.block k (hqx.lt k hk) (h.far _ hxm k hk).1)
  have hz1 : (w.setCell ⟨bs, off + 1, none⟩ (.int .i64 (sz + g))).drew.heap.size = w.heap.size := by simp [World.setCell, World.drew]
  have hlk := hW1.map.run_look false law Tryz.underlying58 (zero _) s hk
  simp only [if_false, Bool.false_eq_true, hl, Option.map_some, Option.getD_some] at hlk
  obtain ⟨la, hla⟩ : ∃ la, x.last = some la := by
    have hne' : x.ps ≠ [] := hne
    have e := hqx.tail hne
    simp only at e
    cases e2 : x.ps.getLast? with
    | none => exact absurd (List.getLast?_eq_none_iff.1 e2) hne'
    | some y => rw [e2] at e; exact ⟨y.1, e⟩
  have hP := hid (push_more hq1 hne hla t hx)
  have H := hid h
  have hwz : IntKind.i64.wrap (sz + g) = sz + g := IntWalk.i64_in _ (by omega)
  clear h hqx
  go_enter Tryz.func90, Tryz.ntmps90
  go_wp2_with fail
  refine wp_region_still_tail 11 (by kernel_rfl) (by kernel_rfl) ?_
  simp only [List.take_succ_cons, List.take_zero, List.drop_succ_cons, List.drop_zero]
  iterate 7 still_step
  still_call hg
  iterate 3 still_step
  refine wpStill_nil ?_
  change wpList _ _ _ _ _ w.drew
  go_wp2_with fail
  refine hP.out.mono ?_
  rintro e w2 ⟨rfl, hq2, ht2⟩
  go_wp2_with fail
  go_end0
  have T12 : Touch w w2 (may bs (some b) M s) := (hT1.mono (fun k _ hk => .inl hk)).trans ht2 (fun k _ hk => .inr (.inr ⟨x, hl, hk⟩))
  have htab2 := hW1.move (w' := w2) (ht2.block bs (by rw [hz1]; exact H.out.lt) (fun hk => (H.out.far _ hxm bs hk).1 rfl)) (fun b' e => ht2.block b' (by rw [hz1]; cases e; exact H.out.tab.map.lt) (fun hk => (H.out.far _ hxm b' hk).2 e))
  rw [hz1] at hq2
  have hput := H.out.put (b := b) (n' := n) (sz' := sz + g) (x' := ⟨x.q, some w.heap.size, x.ps ++ [(w.heap.size, t)]⟩) (.inl rfl) T12 (tab_same htab2 (x := x) rfl hl) hq2 (by simp) (fun k hk => by
    simp only [Q.foot, List.map_append, List.map_cons, List.map_nil, List.mem_cons, List.mem_append, List.mem_singleton, List.not_mem_nil, or_false] at hk
    rcases hk with hk | hk | hk
    · subst hk; exact .inl ⟨x, hl, by simp [Q.foot]⟩
    · exact .inl ⟨x, hl, by unfold Q.foot; exact List.mem_cons_of_mem _ hk⟩
    · subst hk
      refine .inr ⟨Nat.le_refl _, fun e => ?_⟩
      have := H.out.tab.map.lt
      omega)
  refine ⟨rfl, b, _, ?_, ?_, hput.2.1, hput.2.2⟩
  · rw [hl]
    simp only [Q.ts, List.map_append, List.map_cons, List.map_nil]
  · rw [hgg]
    exact hput.1.mono (by omega)
set_option maxRecDepth 100000 in
set_option maxHeartbeats 1000000 in
/-- There is none yet, but a map. -/
theorem Push_new {w : World} {bs off b n : Nat} {M : Tabl} {sz : Int} (h : Hall w bs off (some b) n M sz) (s t : ByteArray) (hs : s.size ≤ 140737488351232) (ht : t.size ≤ 140737488351232) (h0 : 0 ≤ sz) (h1 : sz ≤ 1152921504606846976) (hn : n < maxLen) (hl : tlook ks M s = none) :
    Calls Tryz.prog 90 #[.pointer (some ⟨bs, off, none⟩), .string s, .string t] w fun e w' => e = .returned (.tuple #[]) ∧ Pushed w w' bs off (some b) n M sz s t := by
  have c0 := h.tab.c0
  have c1 := h.tab.c1
  have f1 := h.tab.f1
  have hk := keyOf_string_mk Tryz.underlying9 (s := s) (by unfold maxLen; omega)
  have hg := Grows h.tab.drew s t hs ht
  have hm := fun (W : World) (r : Option Nat) => run_eql_map_nil (P := Tryz.prog) W 58 9 139 r Tryz.underlying58
  obtain ⟨hg0, hg1⟩ := grows_bd M s t
  generalize hgg : grows M s t = g at hg hg0 hg1
  have hW1 : TabAt ks vq Tryz.prog 9 (w.setCell ⟨bs, off + 1, none⟩ (.int .i64 (sz + g))).drew bs off (some b) n M (sz + g) := (h.tab.sized (sz + g)).drew
  have hT1 : Touch w (w.setCell ⟨bs, off + 1, none⟩ (.int .i64 (sz + g))).drew (fun k => k = bs) := (Touch.setCell w _ _ (fun k => k = bs) rfl).drew
  have hlk := hW1.map.run_look false law Tryz.underlying58 (zero _) s hk
  simp only [if_false, Bool.false_eq_true, hl, Option.map_none, Option.getD_none] at hlk
  have hne := h.tab.ne
  have H := hid h
  have hwz : IntKind.i64.wrap (sz + g) = sz + g := IntWalk.i64_in _ (by omega)
  clear h
  go_enter Tryz.func90, Tryz.ntmps90
  go_wp2_with fail
  refine wp_region_still_tail 11 (by kernel_rfl) (by kernel_rfl) ?_
  simp only [List.take_succ_cons, List.take_zero, List.drop_succ_cons, List.drop_zero]
  iterate 7 still_step
  still_call hg
  iterate 3 still_step
  refine wpStill_nil ?_
  change wpList _ _ _ _ _ w.drew
  have hW2 : TabAt ks vq Tryz.prog 9 ((w.setCell ⟨bs, off + 1, none⟩ (.int .i64 (sz + g))).alloc (.cells #[.pointer none, .pointer none, .int .i64 0] 143)).drew bs off (some b) n M (sz + g) := ((H.out.tab.sized (sz + g)).below ((Below.refl _ _).alloc (Nat.le_refl _) _)).drew
  have hz0 : (w.setCell ⟨bs, off + 1, none⟩ (.int .i64 (sz + g))).heap.size = w.heap.size := by simp [World.setCell]
  have hq2 : QAt ((w.setCell ⟨bs, off + 1, none⟩ (.int .i64 (sz + g))).alloc (.cells #[.pointer none, .pointer none, .int .i64 0] 143)).drew (fresh w.heap.size) := by
    have := fresh_at (w.setCell ⟨bs, off + 1, none⟩ (.int .i64 (sz + g))) 143
    rw [hz0] at this
    exact this.move (fun _ _ => rfl)
  have hz2 : ((w.setCell ⟨bs, off + 1, none⟩ (.int .i64 (sz + g))).alloc (.cells #[.pointer none, .pointer none, .int .i64 0] 143)).drew.heap.size = w.heap.size + 1 := by simp [World.setCell, World.drew]
  have hT2 : Touch w ((w.setCell ⟨bs, off + 1, none⟩ (.int .i64 (sz + g))).alloc (.cells #[.pointer none, .pointer none, .int .i64 0] 143)).drew (fun k => k = bs) := ((Touch.setCell w _ _ (fun k => k = bs) rfl).trans (Touch.alloc _ _ (fun _ => False)) (fun _ _ h => h.elim)).drew
  have HW2 := hid hW2
  have HQ2 := hid hq2
  clear hW2 hq2
  go_wp2_with (first
    | (at_mapUpdate; refine wpList_store (ke := ks) (ve := vq) (M := M) (n := n) rfl _ _ _ 58 rfl 139 law Tryz.underlying58 b rfl ?m2 hn (.string s) rfl s hk (fresh w.heap.size) rfl ?_; (case m2 => exact HW2.out.map); intro w3 hM hG; have c2 := hG.cell (a := ⟨bs, off, none⟩) (v := .map (some b)) HW2.out.c0 (fun e => hne e.symm); have T1 := hid hG; clear hG)
    | (at_lookup; refine wpList_look (ke := ks) (ve := vq) (M := tput ks M s (fresh w.heap.size)) (n := n + 1) (mb := some b) (o := ⟨some 47, _, _, _, _, _⟩) rfl _ _ 58 false rfl 139 law Tryz.underlying58 _ (zero _) rfl hM (.string s) rfl s hk ?_; simp only [if_false, Bool.false_eq_true, tlook_put_same ks_one, Option.map_some, Option.getD_some]))
  have hblt : b < w.heap.size := H.out.tab.map.lt
  have hq3 : QAt w3 (fresh w.heap.size) := HQ2.out.move (fun k hk => by
    simp only [fresh, Q.foot, List.map_nil, List.mem_cons, List.not_mem_nil, or_false] at hk
    subst hk
    exact T1.out.block _ (by rw [hz2]; omega) (fun e => by injection e; omega))
  refine (push_first hq3 rfl t).mono ?_
  rintro e w4 ⟨rfl, hq4, ht4⟩
  go_wp2_with fail
  go_end0
  have hs3 : w.heap.size + 1 ≤ w3.heap.size := by have := T1.out.size; rw [hz2] at this; exact this
  have T3 : Touch w w3 (may bs (some b) M s) := (hT2.mono (fun k _ hk => .inl hk)).trans (⟨T1.out.os, T1.out.tape, T1.out.output, T1.out.size, fun k hk hs => T1.out.block k hk (fun e => hs e.symm)⟩ : Touch _ w3 (fun k => some b = some k)) (fun k hk e => .inr (.inl e))
  have T4 : Touch w w4 (may bs (some b) M s) := T3.trans ht4 (fun k hk hkf => by
    simp only [fresh, Q.foot, List.map_nil, List.mem_cons, List.not_mem_nil, or_false] at hkf
    omega)
  have htab3 : TabAt ks vq Tryz.prog 9 w3 bs off (some b) (n + 1) (tput ks M s (fresh w.heap.size)) (sz + g) := HW2.out.stored T1.out hM
  have hnf : ∀ k, k < w.heap.size → k ∉ (fresh w.heap.size).foot := fun k hk hkf => by
    simp only [fresh, Q.foot, List.map_nil, List.mem_cons, List.not_mem_nil, or_false] at hkf
    omega
  have htab4 := htab3.move (w' := w4) (ht4.block bs htab3.lt (hnf bs H.out.lt)) (fun b' e => by cases e; exact ht4.block b htab3.map.lt (hnf b hblt))
  have htab5 : TabAt ks vq Tryz.prog 9 w4 bs off (some b) (n + 1) (tput ks M s ⟨w.heap.size, some w3.heap.size, [(w3.heap.size, t)]⟩) (sz + g) := by
    have := tab_same htab4 (s := s) (x := fresh w.heap.size) (x' := ⟨w.heap.size, some w3.heap.size, [(w3.heap.size, t)]⟩) rfl (tlook_put_same ks_one _ _ _)
    rwa [tput_twice] at this
  have hput := H.out.put (b := b) (n' := n + 1) (sz' := sz + g) (x' := ⟨w.heap.size, some w3.heap.size, [(w3.heap.size, t)]⟩) (.inl rfl) T4 htab5 hq4 (by simp) (fun k hk => by
    simp only [Q.foot, List.map_cons, List.map_nil, List.mem_cons, List.not_mem_nil, or_false] at hk
    rcases hk with hk | hk
    · subst hk; exact .inr ⟨Nat.le_refl _, by omega⟩
    · subst hk; exact .inr ⟨by omega, by omega⟩)
  refine ⟨rfl, b, _, ?_, ?_, hput.2.1, hput.2.2⟩
  · rw [hl]
    rfl
  · rw [hgg]
    exact hput.1
set_option maxRecDepth 100000 in
set_option maxHeartbeats 1000000 in
/-- There is no map yet. -/
theorem Push_nilmap {w : World} {bs off n : Nat} {M : Tabl} {sz : Int} (h : Hall w bs off none n M sz) (s t : ByteArray) (hs : s.size ≤ 140737488351232) (ht : t.size ≤ 140737488351232) (h0 : 0 ≤ sz) (h1 : sz ≤ 1152921504606846976) :
    Calls Tryz.prog 90 #[.pointer (some ⟨bs, off, none⟩), .string s, .string t] w fun e w' => e = .returned (.tuple #[]) ∧ Pushed w w' bs off none n M sz s t := by
  have c0 := h.tab.c0
  have c1 := h.tab.c1
  have f0 := h.tab.f0
  have f1 := h.tab.f1
  have hM0 : M = [] := h.tab.map
  have hl : tlook ks M s = none := by rw [hM0]; rfl
  have hk := keyOf_string_mk Tryz.underlying9 (s := s) (by unfold maxLen; omega)
  have hg := Grows h.tab.drew s t hs ht
  have hm := fun (W : World) (r : Option Nat) => run_eql_map_nil (P := Tryz.prog) W 58 9 139 r Tryz.underlying58
  obtain ⟨hg0, hg1⟩ := grows_bd M s t
  generalize hgg : grows M s t = g at hg hg0 hg1
  have hmm := @run_makeMap Tryz.prog
  have hW1 : TabAt ks vq Tryz.prog 9 (((w.setCell ⟨bs, off + 1, none⟩ (.int .i64 (sz + g))).setCell ⟨bs, off, none⟩ (.map (some w.heap.size))).alloc (.map #[] 0)).drew bs off (some w.heap.size) 0 M (sz + g) := (h.tab.made (sz + g)).drew
  have hz0 : (((w.setCell ⟨bs, off + 1, none⟩ (.int .i64 (sz + g))).setCell ⟨bs, off, none⟩ (.map (some w.heap.size))).alloc (.map #[] 0)).heap.size = w.heap.size + 1 := by simp [World.setCell]
  have hT1 : Touch w (((w.setCell ⟨bs, off + 1, none⟩ (.int .i64 (sz + g))).setCell ⟨bs, off, none⟩ (.map (some w.heap.size))).alloc (.map #[] 0)) (fun k => k = bs) :=
    ((Touch.setCell w _ _ (fun k => k = bs) rfl).trans (Touch.setCell _ _ _ (fun k => k = bs) rfl) (fun _ _ h => h)).trans (Touch.alloc _ _ (fun _ => False)) (fun _ _ h => h.elim)
  have hlk := hW1.map.run_look false law Tryz.underlying58 (zero _) s hk
  simp only [if_false, Bool.false_eq_true, hl, Option.map_none, Option.getD_none] at hlk
  have hlt := h.tab.lt
  have hne : some bs ≠ some w.heap.size := fun e => by injection e; omega
  have H := hid h
  have hwz : IntKind.i64.wrap (sz + g) = sz + g := IntWalk.i64_in _ (by omega)
  clear h
  go_enter Tryz.func90, Tryz.ntmps90
  go_wp2_with fail
  refine wp_region_still_tail 11 (by kernel_rfl) (by kernel_rfl) ?_
  simp only [List.take_succ_cons, List.take_zero, List.drop_succ_cons, List.drop_zero]
  iterate 7 still_step
  still_call hg
  iterate 3 still_step
  refine wpStill_nil ?_
  change wpList _ _ _ _ _ w.drew
  have hW2 : TabAt ks vq Tryz.prog 9 ((((w.setCell ⟨bs, off + 1, none⟩ (.int .i64 (sz + g))).setCell ⟨bs, off, none⟩ (.map (some w.heap.size))).alloc (.map #[] 0)).alloc (.cells #[.pointer none, .pointer none, .int .i64 0] 143)).drew bs off (some w.heap.size) 0 M (sz + g) := ((H.out.tab.made (sz + g)).below ((Below.refl _ _).alloc (Nat.le_refl _) _)).drew
  have hq2 : QAt ((((w.setCell ⟨bs, off + 1, none⟩ (.int .i64 (sz + g))).setCell ⟨bs, off, none⟩ (.map (some w.heap.size))).alloc (.map #[] 0)).alloc (.cells #[.pointer none, .pointer none, .int .i64 0] 143)).drew (fresh (w.heap.size + 1)) := by
    have := fresh_at (((w.setCell ⟨bs, off + 1, none⟩ (.int .i64 (sz + g))).setCell ⟨bs, off, none⟩ (.map (some w.heap.size))).alloc (.map #[] 0)) 143
    rw [hz0] at this
    exact this.move (fun _ _ => rfl)
  have hz2 : ((((w.setCell ⟨bs, off + 1, none⟩ (.int .i64 (sz + g))).setCell ⟨bs, off, none⟩ (.map (some w.heap.size))).alloc (.map #[] 0)).alloc (.cells #[.pointer none, .pointer none, .int .i64 0] 143)).drew.heap.size = w.heap.size + 2 := by simp [World.setCell, World.drew]
  have hT2 : Touch w ((((w.setCell ⟨bs, off + 1, none⟩ (.int .i64 (sz + g))).setCell ⟨bs, off, none⟩ (.map (some w.heap.size))).alloc (.map #[] 0)).alloc (.cells #[.pointer none, .pointer none, .int .i64 0] 143)).drew (fun k => k = bs) := (hT1.trans (Touch.alloc _ _ (fun _ => False)) (fun _ _ h => h.elim)).drew
  have HW2 := hid hW2
  have HQ2 := hid hq2
  clear hW2 hq2
  go_wp2_with (first
    | (at_mapUpdate; refine wpList_store (ke := ks) (ve := vq) (M := M) (n := 0) rfl _ _ _ 58 rfl 139 law Tryz.underlying58 w.heap.size rfl ?m2 (by unfold maxLen; omega) (.string s) rfl s hk (fresh (w.heap.size + 1)) rfl ?_; (case m2 => exact HW2.out.map); intro w3 hM hG; have c2 := hG.cell (a := ⟨bs, off, none⟩) (v := .map (some w.heap.size)) HW2.out.c0 hne; have T1 := hid hG; clear hG)
    | (at_lookup; refine wpList_look (ke := ks) (ve := vq) (M := tput ks M s (fresh (w.heap.size + 1))) (n := 1) (mb := some w.heap.size) (o := ⟨some 47, _, _, _, _, _⟩) rfl _ _ 58 false rfl 139 law Tryz.underlying58 _ (zero _) rfl hM (.string s) rfl s hk ?_; simp only [if_false, Bool.false_eq_true, tlook_put_same ks_one, Option.map_some, Option.getD_some]))
  have hq3 : QAt w3 (fresh (w.heap.size + 1)) := HQ2.out.move (fun k hk => by
    simp only [fresh, Q.foot, List.map_nil, List.mem_cons, List.not_mem_nil, or_false] at hk
    subst hk
    exact T1.out.block _ (by rw [hz2]; omega) (fun e => by injection e; omega))
  refine (push_first hq3 rfl t).mono ?_
  rintro e w4 ⟨rfl, hq4, ht4⟩
  go_wp2_with fail
  go_end0
  have hs3 : w.heap.size + 2 ≤ w3.heap.size := by have := T1.out.size; rw [hz2] at this; exact this
  have T3 : Touch w w3 (may bs none M s) := (hT2.mono (fun k _ hk => .inl hk)).trans (⟨T1.out.os, T1.out.tape, T1.out.output, T1.out.size, fun k hk hs => T1.out.block k hk (fun e => hs e.symm)⟩ : Touch _ w3 (fun k => some w.heap.size = some k)) (fun k hk e => by injection e; omega)
  have T4 : Touch w w4 (may bs none M s) := T3.trans ht4 (fun k hk hkf => by
    simp only [fresh, Q.foot, List.map_nil, List.mem_cons, List.not_mem_nil, or_false] at hkf
    omega)
  have htab3 : TabAt ks vq Tryz.prog 9 w3 bs off (some w.heap.size) 1 (tput ks M s (fresh (w.heap.size + 1))) (sz + g) := HW2.out.stored T1.out hM
  have hnf : ∀ k, k < w.heap.size + 1 → k ∉ (fresh (w.heap.size + 1)).foot := fun k hk hkf => by
    simp only [fresh, Q.foot, List.map_nil, List.mem_cons, List.not_mem_nil, or_false] at hkf
    omega
  have htab4 := htab3.move (w' := w4) (ht4.block bs htab3.lt (hnf bs (by omega))) (fun b' e => by cases e; exact ht4.block _ htab3.map.lt (hnf _ (by omega)))
  have htab5 : TabAt ks vq Tryz.prog 9 w4 bs off (some w.heap.size) 1 (tput ks M s ⟨w.heap.size + 1, some w3.heap.size, [(w3.heap.size, t)]⟩) (sz + g) := by
    have := tab_same htab4 (s := s) (x := fresh (w.heap.size + 1)) (x' := ⟨w.heap.size + 1, some w3.heap.size, [(w3.heap.size, t)]⟩) rfl (tlook_put_same ks_one _ _ _)
    rwa [tput_twice] at this
  have hput := H.out.put (b := w.heap.size) (n' := 1) (sz' := sz + g) (x' := ⟨w.heap.size + 1, some w3.heap.size, [(w3.heap.size, t)]⟩) (.inr ⟨rfl, Nat.le_refl _⟩) T4 htab5 hq4 (by simp) (fun k hk => by
    simp only [Q.foot, List.map_cons, List.map_nil, List.mem_cons, List.not_mem_nil, or_false] at hk
    rcases hk with hk | hk
    · subst hk; exact .inr ⟨by omega, by omega⟩
    · subst hk; exact .inr ⟨by omega, by omega⟩)
  refine ⟨rfl, w.heap.size, _, ?_, ?_, hput.2.1, hput.2.2⟩
  · rw [hl]
    rfl
  · rw [hgg]
    exact hput.1.mono (by omega)
theorem Push {w : World} {bs off n : Nat} {mb : Option Nat} {M : Tabl} {sz : Int} (h : Hall w bs off mb n M sz) (s t : ByteArray) (hs : s.size ≤ 140737488351232) (ht : t.size ≤ 140737488351232) (h0 : 0 ≤ sz) (h1 : sz ≤ 1152921504606846976) (hn : n < maxLen) (hx : ∀ x, tlook ks M s = some x → x.ps.length ≤ 1000000) :
    Calls Tryz.prog 90 #[.pointer (some ⟨bs, off, none⟩), .string s, .string t] w fun e w' => e = .returned (.tuple #[]) ∧ Pushed w w' bs off mb n M sz s t := by
  cases mb with
  | none => exact Push_nilmap h s t hs ht h0 h1
  | some b =>
    cases hl : tlook ks M s with
    | none => exact Push_new h s t hs ht h0 h1 hn hl
    | some x => exact Push_there h s t hs ht h0 h1 hl (hx x hl)
end Go.Proofs.YtnccofpkanhfhaaGreatDoor.Fifo
