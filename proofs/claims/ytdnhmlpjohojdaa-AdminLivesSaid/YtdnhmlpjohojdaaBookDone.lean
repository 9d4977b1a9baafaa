/-
  admin.Book's Do where nobody has lived yet, and Do in all cases: by its contract.
-/
import Derived.Test.YtdnhmlpjohojdaaBookDo
set_option linter.unusedVariables false
set_option linter.unusedSimpArgs false
namespace Go.Proofs.Ytdnhmlpjohojdaa.Adm.Bk
open Go.RowKit Go.Maps Go.WideMaps Go.Proofs.Ytdnhmlpjohojdaa.Tab Go.Proofs.Ytdnhmlpjohojdaa.Adm
attribute [local go_sem ↓] Go.wp_at_zero Go.wp_at_succ
theorem made_at {w : World} {bs n : Nat} {M : Mp} (h : BookAt w bs none n M) : BookAt ((w.setCell ⟨bs, 0, none⟩ (.map (some w.heap.size))).alloc (.map #[] 0)) bs (some w.heap.size) 0 M := by
  have hM : M = [] := h.map
  subst hM
  have hz : (w.setCell ⟨bs, 0, none⟩ (.map (some w.heap.size))).heap.size = w.heap.size := by simp [World.setCell]
  have hb : Boxed w bs 54 (.map none) := h.box
  have hmap := World.ownsMap_made (H := Value) (w.setCell ⟨bs, 0, none⟩ (.map (some w.heap.size))) Try.prog 3 heldR
  rw [hz] at hmap
  exact ⟨(Below.heap_alloc _ _ _ (by rw [hz]; exact h.lt)).trans (hb.set _), hmap⟩
theorem made_grown {w w1 w2 : World} {C : Array Value} {t : TypeId} {bs b : Nat} {v : Value} (hb : Below w.heap.size w w1) (hbs : bs < w.heap.size) (hw : w.heap.size ≤ b) (hg : (((w1.setCell ⟨bs, 0, none⟩ v).alloc (.map #[] 0)).alloc (.cells C t)).drew.drew.grownBy w2 (some b)) : w.grownBy w2 (some bs) := by
  have hz : (w1.setCell ⟨bs, 0, none⟩ v).heap.size = w1.heap.size := by simp [World.setCell]
  have hz2 : (((w1.setCell ⟨bs, 0, none⟩ v).alloc (.map #[] 0)).alloc (.cells C t)).drew.drew.heap.size = w1.heap.size + 2 := by
    show (((w1.setCell ⟨bs, 0, none⟩ v).alloc (.map #[] 0)).alloc (.cells C t)).heap.size = _
    rw [World.size_alloc, World.size_alloc, hz]
  have h1 := hb.size
  have hg1 := hg.size
  rw [hz2] at hg1
  refine ⟨hg.os.trans hb.os, hg.tape.trans hb.tape, hg.output.trans hb.output, by omega, fun k hk hne => ?_⟩
  have hk1 : k ≠ bs := fun e => hne (by rw [e])
  have hk2 : k ≠ b := by omega
  refine (hg.block k (by rw [hz2]; omega) (fun e => hk2 (by injection e))).trans ?_
  refine (Below.heap_alloc _ _ k (by rw [World.size_alloc, hz]; omega)).trans ?_
  refine (Below.heap_alloc _ _ k (by rw [hz]; omega)).trans ?_
  exact (Below.heap_setCell _ _ _ _ hk1).trans (hb.block k hk)
theorem done_made {w w2 : World} {C : Array Value} {t : TypeId} {bs n n' : Nat} {M M1 M' : Mp} (h : BookAt w bs none n M) (hm : MapAt ki tenV Try.prog 3 w2 (some w.heap.size) n' M1) (hg : (((w.setCell ⟨bs, 0, none⟩ (.map (some w.heap.size))).alloc (.map #[] 0)).alloc (.cells C t)).drew.drew.grownBy w2 (some w.heap.size)) (e : M' = M1) : BookAt w2 bs (some w.heap.size) n' M' := by
  subst e
  have h1 := (made_at h)
  have h2 := h1.below ((Below.refl _ _).alloc (Nat.le_refl _) (.cells C t))
  have hlt := h.lt
  exact ⟨(hg.block bs (Nat.lt_of_lt_of_le h2.lt (Nat.le_refl _)) (fun e => by injection e with e; omega)).trans h2.box, hm⟩
set_option maxRecDepth 100000 in
set_option maxHeartbeats 4000000 in
theorem Do_none {w : World} {bs n : Nat} {M : Mp} (h : BookAt w bs none n M) (o : Order) (hx : (Lit.int .i64 o.owner).wf = true) (hw : why M o = 0) (ho : o.op = 1) :
    Calls Try.prog 20 #[.pointer (some ⟨bs, 0, none⟩), ordV o] w fun e w' => e = .returned (.int .i64 0) ∧ ∃ b, w.heap.size ≤ b ∧ BookAt w' bs (some b) 1 (doM M o) ∧ w.grownBy w' (some bs) := by
  have hB : Below w.heap.size w (w.alloc (.cells (cells12 o) 30)) := (Below.refl _ _).alloc (Nat.le_refl _) _
  have HB := Lib.hid hB
  have HN := Lib.hid (Check_k (h.below hB) o hx)
  rw [hw] at HN
  have hkey := keyOf_int_mk Try.underlying3 hx
  have H := Lib.hid h
  have hbs := h.lt
  have hm := fun (W : World) (r : Option Nat) => run_eql_map_nil (P := Try.prog) W 52 3 78 r Try.underlying52
  have hl0 := fun (W : World) (b : Nat) (hW : BookAt W bs (some b) 0 M) => hW.map.run_look false lawB Try.underlying52 (zeroB _) o.owner hkey
  simp only [Bool.false_eq_true, if_false, ten_get] at hl0
  have HL := Lib.hid hl0
  have HD := Lib.hid (show ∀ a, doM M o = a ↔ (if o.op = 4 then tdel ki M o.owner else tput ki M o.owner (newT (ten M o.owner) o)) = a from fun _ => Iff.rfl)
  generalize doM M o = M' at *
  generalize ten M o.owner = t at *
  obtain ⟨tv, r⟩ := t
  clear hB h hx hw hl0
  obtain ⟨id, op, owner, v⟩ := o
  simp only at HN HL HD ho hkey ⊢
  subst ho
  have HKey := Lib.hid hkey
  have hmm := @run_makeMap Try.prog
  clear hkey
  go_enter Try.func20, Try.ntmps20
  go_wp2_with fail
  refine HN.out.mono ?_
  rintro e w1 ⟨rfl, hb⟩
  have HB1 := Lib.hid (HB.out.trans (hb.mono (by simp)))
  have hq := fun i => (hb.cell (p := ⟨w.heap.size, i, none⟩) (by simp)).trans (cellsOf_alloc w _ _ i)
  have hz : w.heap.size < w1.heap.size := Nat.lt_of_lt_of_le (by simp) hb.size
  have hbn : w.heap.size ≠ bs := by omega
  have c0 : w1.cell? ⟨bs, 0, none⟩ = some (.map none) := (H.out.below HB1.out).c0
  have f0 : w1.frozen? ⟨bs, 0, none⟩ = false := (H.out.below HB1.out).f0
  have hbs1 : bs < w1.heap.size := by omega
  clear hb
  go_wp2_with fail
  have hWsz : (w1.setCell ⟨bs, 0, none⟩ (.map (some w1.heap.size))).heap.size = w1.heap.size := by simp [World.setCell]
  have hWs : ((w1.setCell ⟨bs, 0, none⟩ (.map (some w1.heap.size))).alloc (.map #[] 0)).heap.size = w1.heap.size + 1 := by rw [World.size_alloc, hWsz]
  have HW := Lib.hid (made_at (H.out.below HB1.out))
  have HGR := Lib.hid (fun (w2 : World) (C : Array Value) (hg : (((w1.setCell ⟨bs, 0, none⟩ (.map (some w1.heap.size))).alloc (.map #[] 0)).alloc (.cells C 78)).drew.drew.grownBy w2 (some w1.heap.size)) => made_grown HB1.out hbs HB1.out.size hg)
  have HDN := Lib.hid (fun (w2 : World) (C : Array Value) (n' : Nat) (M1 : Mp) (hm : MapAt ki tenV Try.prog 3 w2 (some w1.heap.size) n' M1) (hg : (((w1.setCell ⟨bs, 0, none⟩ (.map (some w1.heap.size))).alloc (.map #[] 0)).alloc (.cells C 78)).drew.drew.grownBy w2 (some w1.heap.size)) (e : M' = M1) => done_made (H.out.below HB1.out) hm hg e)
  have hq2 : ∀ i, ((w1.setCell ⟨bs, 0, none⟩ (.map (some w1.heap.size))).alloc (.map #[] 0)).cell? ⟨w.heap.size, i, none⟩ = (cells12 ⟨id, 1, owner, v⟩)[i]? := fun i =>
    (World.cell?_of_block (a := ⟨w.heap.size, i, none⟩) ((Below.heap_alloc _ _ _ (by rw [hWsz]; exact hz)).trans (Below.heap_setCell _ _ _ _ hbn))).trans (hq i)
  generalize (w1.setCell ⟨bs, 0, none⟩ (.map (some w1.heap.size))).alloc (.map #[] 0) = W2 at *
  have hbW := HB1.out.size
  clear c0 f0 hq hWsz hmm hm HB
  generalize w1.heap.size = nb at *
  have c0 := HW.out.c0
  have q2 : W2.cell? ⟨w.heap.size, 2, none⟩ = some (.int .i64 owner) := hq2 2
  have hl1 := HL.out W2.drew nb HW.out.drew
  have hl2 := HL.out ((W2.alloc (.cells #[.int .i64 0, .int .i64 0, .int .i64 0, .int .i64 0, .int .i64 0, .int .i64 0, .int .i64 0, .int .i64 0, .int .i64 0, .bool false] 78)).drew) nb ((HW.out.below ((Below.refl _ _).alloc (Nat.le_refl _) _)).drew)
  have hz2 : W2.heap.size ≠ w.heap.size := by omega
  have hz3 : W2.heap.size ≠ bs := by omega
  have hz4 : w.heap.size < W2.heap.size := by omega
  have hz5 : bs < W2.heap.size := by omega
  clear hWs
  go_region_held3 (fun w' => w'.cell? ⟨bs, 0, none⟩ = some (.map (some nb)) ∧ w'.cell? ⟨w.heap.size, 2, none⟩ = some (.int .i64 owner)) (first | exact ⟨c0, q2⟩ | go_keep) (fail)
  all_goals clear hl1 hl2 hz2
  all_goals
    go_wp2_with fail
    refine Line.still_tail 7 (by kernel_rfl) (by kernel_rfl) ?_
    simp only [List.take_succ_cons, List.take_zero, List.drop_succ_cons, List.drop_zero]
    iterate 7 still_step
    refine wpStill_nil ?_
    go_wp2_with (first
      | (at_mapUpdate; refine wpList_store (ke := ki) (ve := tenV) (M := M) (n := 0) rfl _ _ _ 52 rfl 78 lawB Try.underlying52 nb rfl ?m2 (by unfold maxLen; omega) (.int .i64 owner) rfl owner HKey.out (newT ⟨tv, r⟩ ⟨id, 1, owner, v⟩) rfl ?_; (case m2 => exact ((HW.out.below ((Below.refl _ _).alloc (Nat.le_refl _) _)).drew.drew).map); intro w2 hM hG; have HM := Lib.hid hM; have HG := Lib.hid hG; clear hM hG))
    go_ret
    exact ⟨rfl, nb, hbW, HDN.out _ _ _ _ HM.out HG.out ((HD.out _).2 (if_neg (by decide))), HGR.out _ _ HG.out⟩
/-- Do, whatever stands there. -/
theorem Do_ok {w : World} {bs n : Nat} {mb : Option Nat} {M : Mp} (h : BookAt w bs mb n M) (o : Order) (hx : (Lit.int .i64 o.owner).wf = true) (hw : why M o = 0) (hn : n < maxLen) :
    Calls Try.prog 20 #[.pointer (some ⟨bs, 0, none⟩), ordV o] w fun e w' => e = .returned (.int .i64 0) ∧ ∃ b, (mb = some b ∨ mb = none ∧ w.heap.size ≤ b) ∧ BookAt w' bs (some b) (n + 1) (doM M o) ∧ Turn w w' bs 0 (fun k => k = b) := by
  have hr : inRange o := by
    refine formB_range ?_
    cases hf : formB o
    · unfold why whyB at hw
      rw [hf] at hw
      simp at hw
    · rfl
  cases mb with
  | some b =>
    have hbb : b ≠ bs := by
      rintro rfl
      obtain ⟨es, clock, hb⟩ := h.map.isMap
      rw [h.box] at hb
      cases hb
    refine (Do_some h o hx hw hn hr).mono fun e w' ⟨he, h1, h2⟩ => ⟨he, b, .inl rfl, h1, ?_⟩
    exact Turn.grownBy h.lt h2 (fun e => hbb (by injection e with e; exact e.symm)) (fun k _ e => by injection e)
  | none =>
    have hM : M = [] := h.map
    have ho : o.op = 1 := by
      subst hM
      by_cases h1 : o.op = 1
      · exact h1
      · unfold why whyB at hw
        simp [h1, lives, tlook] at hw
        split at hw <;> simp at hw
    refine (Do_none h o hx hw ho).mono fun e w' ⟨he, b, hb, h1, h2⟩ => ⟨he, b, .inr ⟨rfl, hb⟩, ⟨h1.box, h1.map.mono (by omega)⟩, ?_⟩
    refine ⟨h2.os, h2.tape, h2.output, h2.size, fun k hk hne _ => h2.block k hk (fun e => hne (by injection e)), fun i hi0 _ => ?_, fun i => ?_, fun T hT => ?_⟩
    · rw [cell_of_cells h1.box, cell_of_cells h.box]
      cases i with
      | zero => exact absurd rfl hi0
      | succ i => rfl
    · simp [World.frozen?, h1.box, h.box]
    · obtain ⟨cs, fr, hT⟩ := hT
      rw [h.box] at hT
      cases hT
      exact ⟨_, _, h1.box⟩
end Go.Proofs.Ytdnhmlpjohojdaa.Adm.Bk
