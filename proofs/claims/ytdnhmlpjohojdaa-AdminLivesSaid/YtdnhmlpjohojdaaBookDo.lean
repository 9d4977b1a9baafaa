/-
  admin.Book's Do: by its contracts.
-/
import Derived.Test.YtdnhmlpjohojdaaBookCheck
import Derived.Outline
set_option linter.unusedVariables false
set_option linter.unusedSimpArgs false
namespace Go.Proofs.Ytdnhmlpjohojdaa.Adm.Bk
open Go.RowKit Go.Maps Go.WideMaps Go.Proofs.Ytdnhmlpjohojdaa.Tab Go.Proofs.Ytdnhmlpjohojdaa.Adm
attribute [local go_sem ↓] Go.wp_at_zero Go.wp_at_succ
/-- What stands under the owner behind an order that was done (but for a deletion). -/
def newT (t : Ten) (o : Order) : Ten :=
  ⟨if o.op = 1 ∨ o.op = 6 then o.v else t.v, if o.op = 1 then false else if o.op = 2 then true else if o.op = 3 then false else t.rests⟩
def doM (M : Mp) (o : Order) : Mp := if o.op = 4 then tdel ki M o.owner else tput ki M o.owner (newT (ten M o.owner) o)
set_option maxRecDepth 100000 in
set_option maxHeartbeats 1000000 in
theorem Do_nil (o : Order) (w : World) : Calls Try.prog 20 #[.pointer none, ordV o] w fun e w' => e = .returned (.int .i64 17) ∧ Below w.heap.size w w' := by
  have hB : Below w.heap.size w (w.alloc (.cells (cells12 o) 30)) := (Below.refl _ _).alloc (Nat.le_refl _) _
  have HB := Lib.hid hB
  have HN := Lib.hid (Check_nil o)
  clear hB
  obtain ⟨id, op, owner, v⟩ := o
  go_enter Try.func20, Try.ntmps20
  go_wp2_with (first
    | (go_at_call 17; refine (HN.out _).mono ?_; rintro e w1 ⟨rfl, hb⟩; have HB1 := Lib.hid (HB.out.trans (hb.mono (by simp))); clear hb))
  go_ret
  exact ⟨rfl, HB1.out⟩
set_option maxRecDepth 100000 in
set_option maxHeartbeats 1000000 in
theorem Do_bad {w : World} {bs n : Nat} {mb : Option Nat} {M : Mp} (h : BookAt w bs mb n M) (o : Order) (hx : (Lit.int .i64 o.owner).wf = true) (hw : why M o ≠ 0) :
    Calls Try.prog 20 #[.pointer (some ⟨bs, 0, none⟩), ordV o] w fun e w' => e = .returned (.int .i64 (why M o)) ∧ Below w.heap.size w w' := by
  have hB : Below w.heap.size w (w.alloc (.cells (cells12 o) 30)) := (Below.refl _ _).alloc (Nat.le_refl _) _
  have HB := Lib.hid hB
  have HN := Lib.hid (Check_k (h.below hB) o hx)
  have hne : (why M o == 0) = false := beq_eq_false_iff_ne.2 hw
  have hne2 : (why M o != 0) = true := by rw [bne_iff_ne]; exact hw
  generalize why M o = y at *
  clear hB h hx hw
  obtain ⟨id, op, owner, v⟩ := o
  go_enter Try.func20, Try.ntmps20
  go_wp2_with (first
    | (go_at_call 17; refine HN.out.mono ?_; rintro e w1 ⟨rfl, hb⟩; have HB1 := Lib.hid (HB.out.trans (hb.mono (by simp))); clear hb))
  go_ret
  exact ⟨rfl, HB1.out⟩
theorem done_put {w w2 : World} {C : Array Value} {t : TypeId} {bs b n n' : Nat} {M M1 M' : Mp} (h : BookAt w bs (some b) n M) (hm : MapAt ki tenV Try.prog 3 w2 (some b) n' M1) (hg : (w.alloc (.cells C t)).drew.drew.grownBy w2 (some b)) (e : M' = M1) : BookAt w2 bs (some b) n' M' := by
  subst e
  have hb : b ≠ bs := by
    rintro rfl
    obtain ⟨es, clock, hb⟩ := h.map.isMap
    rw [h.box] at hb
    cases hb
  have h1 := (Below.heap_alloc w (.cells C t) bs h.lt).trans h.box
  exact ⟨(hg.block bs (Nat.lt_of_lt_of_le h.lt (by rw [show (w.alloc (.cells C t)).drew.drew.heap.size = (w.alloc (.cells C t)).heap.size from rfl, World.size_alloc]; omega)) (fun e => hb (by injection e with e; exact e.symm))).trans h1, hm⟩
theorem below_grown {w w1 w2 : World} {C : Array Value} {t : TypeId} {b : Nat} (hb : Below w.heap.size w w1) (hg : (w1.alloc (.cells C t)).drew.drew.grownBy w2 (some b)) : w.grownBy w2 (some b) := by
  have h1 := hb.trans (((Below.refl _ _).alloc hb.size (.cells C t)).drew.drew)
  exact ⟨hg.os.trans h1.os, hg.tape.trans h1.tape, hg.output.trans h1.output, Nat.le_trans h1.size hg.size, fun k hk hne => (hg.block k (Nat.lt_of_lt_of_le hk h1.size) hne).trans (h1.block k hk)⟩
set_option maxRecDepth 100000 in
set_option maxHeartbeats 4000000 in
theorem Do_some {w : World} {bs n b : Nat} {M : Mp} (h : BookAt w bs (some b) n M) (o : Order) (hx : (Lit.int .i64 o.owner).wf = true) (hw : why M o = 0) (hn : n < maxLen) (hr : inRange o) :
    Calls Try.prog 20 #[.pointer (some ⟨bs, 0, none⟩), ordV o] w fun e w' => e = .returned (.int .i64 0) ∧ BookAt w' bs (some b) (n + 1) (doM M o) ∧ w.grownBy w' (some b) := by
  have hB : Below w.heap.size w (w.alloc (.cells (cells12 o) 30)) := (Below.refl _ _).alloc (Nat.le_refl _) _
  have HB := Lib.hid hB
  have HN := Lib.hid (Check_k (h.below hB) o hx)
  rw [hw] at HN
  have hkey := keyOf_int_mk Try.underlying3 hx
  have H := Lib.hid h
  have hbs := h.lt
  have hm := fun (W : World) (r : Option Nat) => run_eql_map_nil (P := Try.prog) W 52 3 78 r Try.underlying52
  have hl0 := fun (W : World) (hW : BookAt W bs (some b) n M) => hW.map.run_look false lawB Try.underlying52 (zeroB _) o.owner hkey
  simp only [Bool.false_eq_true, if_false, ten_get] at hl0
  have HL := Lib.hid hl0
  have HD := Lib.hid (show ∀ a, doM M o = a ↔ (if o.op = 4 then tdel ki M o.owner else tput ki M o.owner (newT (ten M o.owner) o)) = a from fun _ => Iff.rfl)
  generalize doM M o = M' at *
  generalize ten M o.owner = t at *
  obtain ⟨tv, r⟩ := t
  obtain ⟨h1, h2, _, _⟩ := hr
  have h3 : o.op = 1 ∨ o.op = 2 ∨ o.op = 3 ∨ o.op = 4 ∨ o.op = 5 ∨ o.op = 6 := by omega
  clear hB h hx hw hl0 h1 h2
  obtain ⟨id, op, owner, v⟩ := o
  simp only at HN HL HD h3 hkey ⊢
  have HKey := Lib.hid hkey
  clear hkey
  go_enter Try.func20, Try.ntmps20
  go_wp2_with (first
    | (go_at_call 17; refine HN.out.mono ?_; rintro e w1 ⟨rfl, hb⟩; have HB1 := Lib.hid (HB.out.trans (hb.mono (by simp))); have hq := fun i => (hb.cell (p := ⟨w.heap.size, i, none⟩) (by simp)).trans (cellsOf_alloc w _ _ i); have hz : w.heap.size < w1.heap.size := Nat.lt_of_lt_of_le (by simp) hb.size; have c0 : w1.cell? ⟨bs, 0, none⟩ = some (.map (some b)) := (H.out.below HB1.out).c0; clear hb))
  have q2 : w1.cell? ⟨w.heap.size, 2, none⟩ = some (.int .i64 owner) := hq 2
  have hl1 := HL.out w1.drew (H.out.below HB1.out).drew
  have hl2 := HL.out ((w1.alloc (.cells #[.int .i64 0, .int .i64 0, .int .i64 0, .int .i64 0, .int .i64 0, .int .i64 0, .int .i64 0, .int .i64 0, .int .i64 0, .bool false] 78)).drew) (((H.out.below HB1.out).below ((Below.refl _ _).alloc (Nat.le_refl _) _)).drew)
  have hz2 : w1.heap.size ≠ w.heap.size := by omega
  have hz3 : w1.heap.size ≠ bs := by omega
  go_region_held3 (fun w' => w'.cell? ⟨bs, 0, none⟩ = some (.map (some b)) ∧ w'.cell? ⟨w.heap.size, 2, none⟩ = some (.int .i64 owner)) (first | exact ⟨c0, q2⟩ | go_keep) (fail)
  all_goals clear hl1 hl2 hz2 hm
  all_goals have hbs1 : bs < w1.heap.size := by omega
  all_goals
    rcases h3 with rfl | rfl | rfl | rfl | rfl | rfl
    · go_wp2_with fail
      refine Line.still_tail 7 (by kernel_rfl) (by kernel_rfl) ?_
      simp only [List.take_succ_cons, List.take_zero, List.drop_succ_cons, List.drop_zero]
      iterate 7 still_step
      refine wpStill_nil ?_
      go_wp2_with (first
        | (at_mapUpdate; refine wpList_store (ke := ki) (ve := tenV) (M := M) (n := n) rfl _ _ _ 52 rfl 78 lawB Try.underlying52 b rfl ?m2 hn (.int .i64 owner) rfl owner HKey.out (newT ⟨tv, r⟩ ⟨id, 1, owner, v⟩) rfl ?_; (case m2 => exact (((H.out.below HB1.out).below ((Below.refl _ _).alloc (Nat.le_refl _) _)).drew.drew).map); intro w2 hM hG; have HM := Lib.hid hM; have HG := Lib.hid hG; clear hM hG))
      go_ret
      exact ⟨rfl, done_put (H.out.below HB1.out) HM.out HG.out ((HD.out _).2 (if_neg (by decide))), below_grown HB1.out HG.out⟩
    · go_wp2_with fail
      refine Line.still_tail 7 (by kernel_rfl) (by kernel_rfl) ?_
      simp only [List.take_succ_cons, List.take_zero, List.drop_succ_cons, List.drop_zero]
      iterate 7 still_step
      refine wpStill_nil ?_
      go_wp2_with (first
        | (at_mapUpdate; refine wpList_store (ke := ki) (ve := tenV) (M := M) (n := n) rfl _ _ _ 52 rfl 78 lawB Try.underlying52 b rfl ?m2 hn (.int .i64 owner) rfl owner HKey.out (newT ⟨tv, r⟩ ⟨id, 2, owner, v⟩) rfl ?_; (case m2 => exact (((H.out.below HB1.out).below ((Below.refl _ _).alloc (Nat.le_refl _) _)).drew.drew).map); intro w2 hM hG; have HM := Lib.hid hM; have HG := Lib.hid hG; clear hM hG))
      go_ret
      exact ⟨rfl, done_put (H.out.below HB1.out) HM.out HG.out ((HD.out _).2 (if_neg (by decide))), below_grown HB1.out HG.out⟩
    · go_wp2_with fail
      refine Line.still_tail 7 (by kernel_rfl) (by kernel_rfl) ?_
      simp only [List.take_succ_cons, List.take_zero, List.drop_succ_cons, List.drop_zero]
      iterate 7 still_step
      refine wpStill_nil ?_
      go_wp2_with (first
        | (at_mapUpdate; refine wpList_store (ke := ki) (ve := tenV) (M := M) (n := n) rfl _ _ _ 52 rfl 78 lawB Try.underlying52 b rfl ?m2 hn (.int .i64 owner) rfl owner HKey.out (newT ⟨tv, r⟩ ⟨id, 3, owner, v⟩) rfl ?_; (case m2 => exact (((H.out.below HB1.out).below ((Below.refl _ _).alloc (Nat.le_refl _) _)).drew.drew).map); intro w2 hM hG; have HM := Lib.hid hM; have HG := Lib.hid hG; clear hM hG))
      go_ret
      exact ⟨rfl, done_put (H.out.below HB1.out) HM.out HG.out ((HD.out _).2 (if_neg (by decide))), below_grown HB1.out HG.out⟩
    · go_wp2_with fail
      refine Line.still_tail 6 (by kernel_rfl) (by kernel_rfl) ?_
      simp only [List.take_succ_cons, List.take_zero, List.drop_succ_cons, List.drop_zero]
      iterate 6 still_step
      refine wpStill_nil ?_
      go_wp2_with (first
        | (at_delete; refine wpList_drop (ke := ki) (ve := tenV) (M := M) (n := n) rfl _ _ 52 rfl 78 lawB Try.underlying52 b rfl ?m2 (.int .i64 owner) rfl owner HKey.out ?_; (case m2 => exact (((H.out.below HB1.out).below ((Below.refl _ _).alloc (Nat.le_refl _) _)).drew.drew).map); intro w2 hM hG; have HM := Lib.hid (MapAt.mono hM (Nat.le_succ _)); have HG := Lib.hid hG; clear hM hG))
      go_ret
      exact ⟨rfl, done_put (H.out.below HB1.out) HM.out HG.out ((HD.out _).2 (by simp)), below_grown HB1.out HG.out⟩
    · go_wp2_with fail
      refine Line.still_tail 7 (by kernel_rfl) (by kernel_rfl) ?_
      simp only [List.take_succ_cons, List.take_zero, List.drop_succ_cons, List.drop_zero]
      iterate 7 still_step
      refine wpStill_nil ?_
      go_wp2_with (first
        | (at_mapUpdate; refine wpList_store (ke := ki) (ve := tenV) (M := M) (n := n) rfl _ _ _ 52 rfl 78 lawB Try.underlying52 b rfl ?m2 hn (.int .i64 owner) rfl owner HKey.out (newT ⟨tv, r⟩ ⟨id, 5, owner, v⟩) rfl ?_; (case m2 => exact (((H.out.below HB1.out).below ((Below.refl _ _).alloc (Nat.le_refl _) _)).drew.drew).map); intro w2 hM hG; have HM := Lib.hid hM; have HG := Lib.hid hG; clear hM hG))
      go_ret
      exact ⟨rfl, done_put (H.out.below HB1.out) HM.out HG.out ((HD.out _).2 (if_neg (by decide))), below_grown HB1.out HG.out⟩
    · go_wp2_with fail
      refine Line.still_tail 7 (by kernel_rfl) (by kernel_rfl) ?_
      simp only [List.take_succ_cons, List.take_zero, List.drop_succ_cons, List.drop_zero]
      iterate 7 still_step
      refine wpStill_nil ?_
      go_wp2_with (first
        | (at_mapUpdate; refine wpList_store (ke := ki) (ve := tenV) (M := M) (n := n) rfl _ _ _ 52 rfl 78 lawB Try.underlying52 b rfl ?m2 hn (.int .i64 owner) rfl owner HKey.out (newT ⟨tv, r⟩ ⟨id, 6, owner, v⟩) rfl ?_; (case m2 => exact (((H.out.below HB1.out).below ((Below.refl _ _).alloc (Nat.le_refl _) _)).drew.drew).map); intro w2 hM hG; have HM := Lib.hid hM; have HG := Lib.hid hG; clear hM hG))
      go_ret
      exact ⟨rfl, done_put (H.out.below HB1.out) HM.out HG.out ((HD.out _).2 (if_neg (by decide))), below_grown HB1.out HG.out⟩
end Go.Proofs.Ytdnhmlpjohojdaa.Adm.Bk
