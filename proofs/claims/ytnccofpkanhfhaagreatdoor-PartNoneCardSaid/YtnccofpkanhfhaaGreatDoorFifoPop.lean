/-
  fifo.Hall.Pop; a hall that is not there.
-/
import Derived.Test.YtnccofpkanhfhaaGreatDoorFifoPush
set_option linter.unusedVariables false
set_option linter.unusedSimpArgs false
namespace Go.Proofs.YtnccofpkanhfhaaGreatDoor.Fifo
open Go.RowKit Go.Maps Go.WideMaps Go.Proofs.YtnccofpkanhfhaaGreatDoor.Tab Go.Proofs.YtnccofpkanhfhaaGreatDoor.Pure
/-- What is there behind a pop: the queue without its first one, or no queue. -/
def popped (M : Tabl) (s : ByteArray) (x : Q) (r : List (Nat × ByteArray)) : Tabl := if r = [] then tdel ks M s else tput ks M s ⟨x.q, x.last, r⟩
def Popped (w w' : World) (bs off : Nat) (mb : Option Nat) (n : Nat) (M' M : Tabl) (sz' : Int) : Prop :=
  Hall w' bs off mb n M' sz' ∧ Touch w w' (own bs mb M) ∧ (∀ k, own bs mb M' k → own bs mb M k ∨ w.heap.size ≤ k)
theorem Pop_none {w : World} {bs off n : Nat} {mb : Option Nat} {M : Tabl} {sz : Int} (h : Hall w bs off mb n M sz) (s : ByteArray) (hs : s.size ≤ 140737488351232) (hl : tlook ks M s = none) :
    Calls Tryz.prog 92 #[.pointer (some ⟨bs, off, none⟩), .string s] w fun e w' => e = .returned (.tuple #[.string ⟨#[]⟩, .bool false]) ∧ w' = w := by
  have hF := hid (find h.tab s (by unfold maxLen; omega))
  rw [hl] at hF
  simp only [Option.map_none, Option.getD_none] at hF
  clear h
  go_enter Tryz.func92, Tryz.ntmps92
  go_wp2_with (go_at_call 75; refine hF.out.mono ?_; rintro e w' ⟨rfl, rfl⟩)
  go_ret2
  exact ⟨rfl, rfl⟩
set_option maxRecDepth 100000 in
set_option maxHeartbeats 1000000 in
/-- It was the last one: the queue goes. -/
theorem Pop_last {w : World} {bs off b n : Nat} {M : Tabl} {sz : Int} (h : Hall w bs off (some b) n M sz) (s t : ByteArray) (hs : s.size ≤ 140737488351232) (ht : t.size ≤ 140737488351232) (h0 : 0 ≤ sz) (h1 : sz ≤ 1152921504606846976) {x : Q} {b0 : Nat} (hl : tlook ks M s = some x) (hp : x.ps = [(b0, t)]) :
    Calls Tryz.prog 92 #[.pointer (some ⟨bs, off, none⟩), .string s] w fun e w' => e = .returned (.tuple #[.string t, .bool true]) ∧ Popped w w' bs off (some b) n (tdel ks M s) M (sz - (32 + s.size + t.size)) := by
  have hk := keyOf_string_mk Tryz.underlying9 (s := s) (by unfold maxLen; omega)
  have hF := hid (find h.tab s (by unfold maxLen; omega))
  rw [hl] at hF
  simp only [Option.map_some, Option.getD_some] at hF
  have hxm := look_mem hl
  have hP := hid (pop (h.qs _ hxm) hp (by rw [hp]; simp))
  have hfar := h.far _ hxm
  have hbsl := h.lt
  have hbl := h.tab.map.lt
  have htb := h.tab
  have H := hid h
  have hne := h.tab.ne
  have hgn : grows (tdel ks M s) s t = 32 + (s.size : Int) + (t.size : Int) := by
    unfold grows
    rw [tlook_del_same ks_one]
    simp
    omega
  have hwz : IntKind.i64.wrap (sz - (32 + (s.size : Int) + (t.size : Int))) = sz - (32 + (s.size : Int) + (t.size : Int)) := IntWalk.i64_in _ (by omega)
  clear h
  go_enter Tryz.func92, Tryz.ntmps92
  go_wp2_with (go_at_call 75; refine hF.out.mono ?_; rintro e w' ⟨rfl, rfl⟩)
  refine hP.out.mono ?_
  rintro e w1 ⟨rfl, hq1, ht1⟩
  have c2 := hq1.c2
  simp only [List.length_nil] at c2
  have htb1 := hid (htb.move (w' := w1) (ht1.block bs hbsl (fun hk => (hfar bs hk).1 rfl)) (fun b' e => by cases e; exact ht1.block b hbl (fun hk => (hfar b hk).2 rfl)))
  have c0 := htb1.out.c0
  go_wp2_with (first
    | (at_delete; refine wpList_drop (ke := ks) (ve := vq) (M := M) (n := n) rfl _ _ 58 rfl 139 law Tryz.underlying58 b rfl ?m2 (.string s) rfl s hk ?_; (case m2 => exact htb1.out.map); intro w2 hM hG; have T1 := hid hG; clear hG; go_frame))
  have htb2 := htb1.out.stored T1.out hM
  have HT2 := hid htb2
  have c0' := htb2.c0
  have c1' := htb2.c1
  have f1' := htb2.f1
  have hg := Grows htb2.drew s t hs ht
  rw [hgn] at hg
  clear htb2 hM
  refine wp_region_still_tail 11 (by kernel_rfl) (by kernel_rfl) ?_
  simp only [List.take_succ_cons, List.take_zero, List.drop_succ_cons, List.drop_zero]
  iterate 7 still_step
  still_call hg
  iterate 3 still_step
  refine wpStill_nil ?_
  change wpList _ _ _ _ _ w2.drew
  go_wp2_with fail
  go_ret2
  refine ⟨rfl, ?_⟩
  have TA := (ht1.mono (S' := may bs (some b) M s) (fun k _ hk => .inr (.inr ⟨x, hl, hk⟩))).trans (⟨T1.out.os, T1.out.tape, T1.out.output, T1.out.size, fun k hk hs => T1.out.block k hk (fun e => hs e.symm)⟩ : Touch _ w2 (fun k => some b = some k)) (fun k hk e => .inr (.inl e))
  have TB := (TA.trans (Touch.setCell w2 ⟨bs, off + 1, none⟩ (.int .i64 (sz - (32 + (s.size : Int) + (t.size : Int)))) (fun k => k = bs) rfl) (fun k hk e => .inl e)).drew
  have hdel := H.out.del (s := s) (n' := n) (sz' := sz - (32 + (s.size : Int) + (t.size : Int))) TB (HT2.out.sized (sz - (32 + (s.size : Int) + (t.size : Int)))).drew
  exact ⟨hdel.1, hdel.2.1, fun k hk => .inl (hdel.2.2 k hk)⟩
set_option maxRecDepth 100000 in
set_option maxHeartbeats 1000000 in
/-- More stand behind it. -/
theorem Pop_more {w : World} {bs off b n : Nat} {M : Tabl} {sz : Int} (h : Hall w bs off (some b) n M sz) (s t : ByteArray) (hs : s.size ≤ 140737488351232) (ht : t.size ≤ 140737488351232) (h0 : 0 ≤ sz) (h1 : sz ≤ 1152921504606846976) {x : Q} {b0 : Nat} {r : List (Nat × ByteArray)} (hl : tlook ks M s = some x) (hp : x.ps = (b0, t) :: r) (hr : r ≠ []) (hlen : x.ps.length ≤ 1000000) :
    Calls Tryz.prog 92 #[.pointer (some ⟨bs, off, none⟩), .string s] w fun e w' => e = .returned (.tuple #[.string t, .bool true]) ∧ Popped w w' bs off (some b) n (tput ks M s ⟨x.q, x.last, r⟩) M (sz - (16 + t.size)) := by
  have hk := keyOf_string_mk Tryz.underlying9 (s := s) (by unfold maxLen; omega)
  have hF := hid (find h.tab s (by unfold maxLen; omega))
  rw [hl] at hF
  simp only [Option.map_some, Option.getD_some] at hF
  have hxm := look_mem hl
  have hP := hid (pop (h.qs _ hxm) hp hlen)
  have hfar := h.far _ hxm
  have hbsl := h.lt
  have hbl := h.tab.map.lt
  have htb := h.tab
  have H := hid h
  have hne := h.tab.ne
  have hgn : grows (tput ks M s ⟨x.q, x.last, r⟩) s t = 16 + (t.size : Int) := by
    unfold grows
    rw [tlook_put_same ks_one]
    simp
  have hwz : IntKind.i64.wrap (sz - (16 + (t.size : Int))) = sz - (16 + (t.size : Int)) := IntWalk.i64_in _ (by omega)
  have hr0 : (r.length : Int) ≠ 0 := fun e => hr (List.eq_nil_of_length_eq_zero (by omega))
  have hr1 : ((r.length : Int) == 0) = false := by simpa using hr
  have HR := hid hr
  have HPS := hid hp
  clear h hr hp hlen
  go_enter Tryz.func92, Tryz.ntmps92
  go_wp2_with (go_at_call 75; refine hF.out.mono ?_; rintro e w' ⟨rfl, rfl⟩)
  refine hP.out.mono ?_
  rintro e w1 ⟨rfl, hq1, ht1⟩
  have c2 := hq1.c2
  simp only at c2
  have htb1 := htb.move (w' := w1) (ht1.block bs hbsl (fun hk => (hfar bs hk).1 rfl)) (fun b' e => by cases e; exact ht1.block b hbl (fun hk => (hfar b hk).2 rfl))
  replace htb1 := tab_same htb1 (s := s) (x := x) (x' := ⟨x.q, x.last, r⟩) rfl hl
  have HT2 := hid htb1
  have c0' := htb1.c0
  have c1' := htb1.c1
  have f1' := htb1.f1
  have hg := Grows htb1.drew s t hs ht
  rw [hgn] at hg
  clear htb1
  go_wp2_with fail
  refine wp_region_still_tail 11 (by kernel_rfl) (by kernel_rfl) ?_
  simp only [List.take_succ_cons, List.take_zero, List.drop_succ_cons, List.drop_zero]
  iterate 7 still_step
  still_call hg
  iterate 3 still_step
  refine wpStill_nil ?_
  change wpList _ _ _ _ _ w1.drew
  go_wp2_with fail
  go_ret2
  refine ⟨rfl, ?_⟩
  have TA := (ht1.mono (S' := may bs (some b) M s) (fun k _ hk => .inr (.inr ⟨x, hl, hk⟩)))
  have TB := (TA.trans (Touch.setCell w1 ⟨bs, off + 1, none⟩ (.int .i64 (sz - (16 + (t.size : Int)))) (fun k => k = bs) rfl) (fun k hk e => .inl e)).drew
  have hq2 : QAt (w1.setCell ⟨bs, off + 1, none⟩ (.int .i64 (sz - (16 + (t.size : Int))))).drew ⟨x.q, x.last, r⟩ := hq1.move (fun k hk => Below.heap_setCell _ _ _ _ (fun e => (hfar k (by
    simp only [Q.foot, List.mem_cons] at hk ⊢
    rcases hk with hk | hk
    · exact .inl hk
    · exact .inr (by rw [HPS.out]; simp only [List.map_cons, List.mem_cons]; exact .inr hk))).1 e))
  have hput := H.out.put (b := b) (s := s) (n' := n) (sz' := sz - (16 + (t.size : Int))) (x' := ⟨x.q, x.last, r⟩) (.inl rfl) TB (HT2.out.sized (sz - (16 + (t.size : Int)))).drew hq2 HR.out (fun k hk => .inl ⟨x, hl, by
    simp only [Q.foot, List.mem_cons] at hk ⊢
    rcases hk with hk | hk
    · exact .inl hk
    · exact .inr (by rw [HPS.out]; simp only [List.map_cons, List.mem_cons]; exact .inr hk)⟩)
  exact hput
/-! ### no hall -/
theorem find_nil (s : ByteArray) (w : World) : Calls Tryz.prog 75 #[.pointer none, .string s] w fun e w' => e = .returned (.pointer none) ∧ w' = w := by
  go_enter Tryz.func75, Tryz.ntmps75
  go_wp2
  go_ret
  exact ⟨rfl, rfl⟩
theorem Pop_nil (s : ByteArray) (w : World) : Calls Tryz.prog 92 #[.pointer none, .string s] w fun e w' => e = .returned (.tuple #[.string ⟨#[]⟩, .bool false]) ∧ w' = w := by
  have hF := hid (find_nil s w)
  go_enter Tryz.func92, Tryz.ntmps92
  go_wp2_with (go_at_call 75; refine hF.out.mono ?_; rintro e w' ⟨rfl, rfl⟩)
  go_ret2
  exact ⟨rfl, rfl⟩
theorem Push_nil (s t : ByteArray) (w : World) : Calls Tryz.prog 90 #[.pointer none, .string s, .string t] w fun e w' => e = .returned (.tuple #[]) ∧ w' = w := by
  go_enter Tryz.func90, Tryz.ntmps90
  go_wp2
  refine bodyPost_ret (results_none rfl _ _ _) rfl ?_
  exact ⟨rfl, rfl⟩
theorem Size_nil (w : World) : Calls Tryz.prog 22 #[.pointer none] w fun e w' => e = .returned (.int .i64 0) ∧ w' = w := by
  go_enter Tryz.func22, Tryz.ntmps22
  go_wp2
  go_ret
  exact ⟨rfl, rfl⟩
theorem Waits_nil (s : ByteArray) (w : World) : Calls Tryz.prog 40 #[.pointer none, .string s] w fun e w' => e = .returned (.int .i64 0) ∧ w' = w := by
  have hF := hid (find_nil s w)
  go_enter Tryz.func40, Tryz.ntmps40
  go_wp2_with (go_at_call 75; refine hF.out.mono ?_; rintro e w' ⟨rfl, rfl⟩)
  go_ret
  exact ⟨rfl, rfl⟩
set_option maxRecDepth 100000 in
theorem Grows_nil (s t : ByteArray) (hs : s.size ≤ 140737488351232) (ht : t.size ≤ 140737488351232) (w : World) : Calls Tryz.prog 88 #[.pointer none, .string s, .string t] w fun e w' => e = .returned (.int .i64 (grows [] s t)) ∧ w' = w := by
  have hF := hid (find_nil s w)
  have hG : Hid (grows [] s t = 16 + (t.size : Int) + (16 + (s.size : Int))) := hid (by unfold grows; rw [if_neg (by simp [tlook])]; omega)
  go_enter Tryz.func88, Tryz.ntmps88
  go_wp2_with (go_at_call 75; refine hF.out.mono ?_; rintro e w' ⟨rfl, rfl⟩)
  go_ret
  exact ⟨by rw [hG.out]; rfl, rfl⟩
end Go.Proofs.YtnccofpkanhfhaaGreatDoor.Fifo
