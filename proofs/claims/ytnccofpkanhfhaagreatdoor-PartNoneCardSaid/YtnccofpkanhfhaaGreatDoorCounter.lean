/-
  The methods of counter.Book, each by its contract: what it answers of what the book holds, and what turns.
-/
import Derived.Test.YtnccofpkanhfhaaGreatDoorTab
import Derived.Test.YtnccofpkanhfhaaGreatDoorProg
import Derived.StillTailTactics
import Derived.WalkSpells
set_option linter.unusedVariables false
set_option linter.unusedSimpArgs false
namespace Go.Proofs.YtnccofpkanhfhaaGreatDoor.Counter
open Go.RowKit Go.Maps Go.WideMaps Go.Proofs.YtnccofpkanhfhaaGreatDoor.Tab

abbrev vi (x : Int) : Value := .int .i64 x
theorem law : Keyed Tryz.prog 9 := string_keyed Tryz.underlying9
theorem zero (w : World) : (zeroValue 2).run Tryz.prog w = .ok (.int .i64 0) w := by kernel_rfl

abbrev Book (w : World) (bs off : Nat) (mb : Option Nat) (n : Nat) (M : List (ByteArray × Int)) (sz : Int) : Prop := TabAt ks vi Tryz.prog 9 w bs off mb n M sz
def val (M : List (ByteArray × Int)) (s : ByteArray) : Int := (tlook ks M s).getD 0
def grows (M : List (ByteArray × Int)) (s : ByteArray) : Int := if (tlook ks M s).isSome then 0 else 24 + s.size

theorem val_get (M : List (ByteArray × Int)) (s : ByteArray) : ((tlook ks M s).map vi).getD (.int .i64 0) = .int .i64 (val M s) := by
  unfold val
  cases tlook ks M s <;> rfl

section
variable {w : World} {bs off : Nat} {mb : Option Nat} {n : Nat} {M : List (ByteArray × Int)} {sz : Int}
theorem Value_ (h : Book w bs off mb n M sz) (s : ByteArray) (hs : s.size ≤ maxLen) :
    Calls Tryz.prog 36 #[.pointer (some ⟨bs, off, none⟩), .string s] w fun e w' => e = .returned (.int .i64 (val M s)) ∧ w' = w := by
  have c0 := h.c0
  have hl := h.map.run_look false law Tryz.underlying55 (zero w) s (keyOf_string_mk Tryz.underlying9 hs)
  simp only [if_false, Bool.false_eq_true, val_get] at hl
  clear h
  go_enter Tryz.func36, Tryz.ntmps36
  go_wp2
  go_ret
  exact ⟨rfl, rfl⟩
theorem Size_ (h : Book w bs off mb n M sz) :
    Calls Tryz.prog 21 #[.pointer (some ⟨bs, off, none⟩)] w fun e w' => e = .returned (.int .i64 sz) ∧ w' = w := by
  have c1 := h.c1
  clear h
  go_enter Tryz.func21, Tryz.ntmps21
  go_wp2
  go_ret
  exact ⟨rfl, rfl⟩
set_option maxRecDepth 100000 in
theorem Grows (h : Book w bs off mb n M sz) (s : ByteArray) (hs : s.size ≤ 140737488351232) :
    Calls Tryz.prog 51 #[.pointer (some ⟨bs, off, none⟩), .string s] w fun e w' => e = .returned (.int .i64 (grows M s)) ∧ w' = w := by
  have c0 := h.c0
  have hl := h.map.run_look true law Tryz.underlying55 (zero w) s (keyOf_string_mk Tryz.underlying9 (by unfold maxLen; omega))
  simp only [if_true, val_get] at hl
  clear h
  unfold grows
  cases hb : (tlook ks M s).isSome with
  | true =>
    rw [hb] at hl
    clear hb
    go_enter Tryz.func51, Tryz.ntmps51
    go_wp2
    go_ret
    exact ⟨rfl, rfl⟩
  | false =>
    rw [hb] at hl
    clear hb
    go_enter Tryz.func51, Tryz.ntmps51
    go_wp2
    go_ret
    exact ⟨by simp, rfl⟩
end

set_option maxRecDepth 100000 in
set_option maxHeartbeats 1000000 in
theorem Add_some {w : World} {bs off b n : Nat} {M : List (ByteArray × Int)} {sz : Int} (h : Book w bs off (some b) n M sz) (s : ByteArray) (hs : s.size ≤ 140737488351232) (x : Int) (h0 : 0 ≤ sz) (h1 : sz ≤ 1152921504606846976) (hn : n < maxLen) :
    Calls Tryz.prog 53 #[.pointer (some ⟨bs, off, none⟩), .string s, .int .i64 x] w fun e w' => e = .returned (.int .i64 (wrap64 (val M s + x))) ∧
      Book w' bs off (some b) (n + 1) (tput ks M s (wrap64 (val M s + x))) (sz + grows M s) ∧ Turn w w' bs off (fun k => k = b) := by
  have c0 := h.c0
  have c1 := h.c1
  have f1 := h.f1
  have hk := keyOf_string_mk Tryz.underlying9 (s := s) (by unfold maxLen; omega)
  have hg := Grows (h.drew) s hs
  have hm := fun (W : World) (r : Option Nat) => run_eql_map_nil (P := Tryz.prog) W 55 9 2 r Tryz.underlying55
  have hg0 : 0 ≤ grows M s := by unfold grows; split <;> omega
  have hg1 : grows M s ≤ 140737488351256 := by unfold grows; split <;> omega
  generalize grows M s = g at *
  have hne := h.ne
  have H := hid h
  clear h
  go_enter Tryz.func53, Tryz.ntmps53
  go_wp2_with fail
  refine wp_region_still_tail 10 (by kernel_rfl) (by kernel_rfl) ?_
  simp only [List.take_succ_cons, List.take_zero, List.drop_succ_cons, List.drop_zero]
  iterate 6 still_step
  still_call hg
  iterate 3 still_step
  refine wpStill_nil ?_
  change wpList _ _ _ _ _ w.drew
  go_wp2_with (first
    | (at_lookup; refine wpList_look (ke := ks) (ve := vi) (M := M) (n := n) (mb := some b) (o := ⟨some 33, _, _, _, _, _⟩) rfl _ _ 55 false rfl 2 law Tryz.underlying55 _ (zero _) rfl ?m1 (.string s) rfl s hk ?_; (case m1 => exact H.out.map.move (fun b' e => Below.heap_setCell _ _ _ _ (fun e' => H.out.ne (by rw [e, e'])))); simp only [if_false, Bool.false_eq_true, val_get])
    | (at_mapUpdate; refine wpList_store (ke := ks) (ve := vi) (M := M) (n := n) rfl _ _ _ 55 rfl 2 law Tryz.underlying55 b rfl ?m2 hn (.string s) rfl s hk (wrap64 (val M s + x)) rfl ?_; (case m2 => exact H.out.map.move (fun b' e => Below.heap_setCell _ _ _ _ (fun e' => H.out.ne (by rw [e, e'])))); intro w1 hM hG; have c2 := hG.cell (a := ⟨bs, off, none⟩) (v := .map (some b)) (by go_simp) (fun e => hne e.symm); have T1 := hid hG; clear hG)
    | (at_lookup; refine wpList_look (ke := ks) (ve := vi) (M := tput ks M s (wrap64 (val M s + x))) (n := n + 1) (mb := some b) (o := ⟨some 41, _, _, _, _, _⟩) rfl _ _ 55 false rfl 2 law Tryz.underlying55 _ (zero _) rfl hM (.string s) rfl s hk ?_; simp only [if_false, Bool.false_eq_true, tlook_put_same ks_one, Option.map_some, Option.getD_some]))
  go_ret
  exact ⟨rfl, H.out.written T1.out hM⟩

set_option maxRecDepth 100000 in
set_option maxHeartbeats 1000000 in
theorem Add_none {w : World} {bs off n : Nat} {M : List (ByteArray × Int)} {sz : Int} (h : Book w bs off none n M sz) (s : ByteArray) (hs : s.size ≤ 140737488351232) (x : Int) (h0 : 0 ≤ sz) (h1 : sz ≤ 1152921504606846976) :
    Calls Tryz.prog 53 #[.pointer (some ⟨bs, off, none⟩), .string s, .int .i64 x] w fun e w' => e = .returned (.int .i64 (wrap64 (val M s + x))) ∧
      Book w' bs off (some w.heap.size) 1 (tput ks M s (wrap64 (val M s + x))) (sz + grows M s) ∧ Turn w w' bs off (fun k => k = w.heap.size) := by
  have c0 := h.c0
  have c1 := h.c1
  have f0 := h.f0
  have f1 := h.f1
  have hk := keyOf_string_mk Tryz.underlying9 (s := s) (by unfold maxLen; omega)
  have hg := Grows (h.drew) s hs
  have hm := fun (W : World) (r : Option Nat) => run_eql_map_nil (P := Tryz.prog) W 55 9 2 r Tryz.underlying55
  have hg0 : 0 ≤ grows M s := by unfold grows; split <;> omega
  have hg1 : grows M s ≤ 140737488351256 := by unfold grows; split <;> omega
  generalize grows M s = g at *
  have hmm := @run_makeMap Tryz.prog
  have hlt := h.lt
  have hne : some bs ≠ some w.heap.size := fun e => by injection e; omega
  have H := hid h
  clear h
  go_enter Tryz.func53, Tryz.ntmps53
  go_wp2_with fail
  refine wp_region_still_tail 10 (by kernel_rfl) (by kernel_rfl) ?_
  simp only [List.take_succ_cons, List.take_zero, List.drop_succ_cons, List.drop_zero]
  iterate 6 still_step
  still_call hg
  iterate 3 still_step
  refine wpStill_nil ?_
  change wpList _ _ _ _ _ w.drew
  go_wp2_with (first
    | (at_lookup; refine wpList_look (ke := ks) (ve := vi) (M := M) (n := 0) (mb := some w.heap.size) (o := ⟨some 33, _, _, _, _, _⟩) rfl _ _ 55 false rfl 2 law Tryz.underlying55 _ (zero _) rfl ?m1 (.string s) rfl s hk ?_; (case m1 => exact (H.out.made (sz + g)).drew.map); simp only [if_false, Bool.false_eq_true, val_get])
    | (at_mapUpdate; refine wpList_store (ke := ks) (ve := vi) (M := M) (n := 0) rfl _ _ _ 55 rfl 2 law Tryz.underlying55 w.heap.size rfl ?m2 (by unfold maxLen; omega) (.string s) rfl s hk (wrap64 (val M s + x)) rfl ?_; (case m2 => exact (H.out.made (sz + g)).drew.map); intro w1 hM hG; have c2 := hG.cell (H.out.made (sz + g)).drew.c0 hne; have T1 := hid hG; clear hG)
    | (at_lookup; refine wpList_look (ke := ks) (ve := vi) (M := tput ks M s (wrap64 (val M s + x))) (n := 1) (mb := some w.heap.size) (o := ⟨some 41, _, _, _, _, _⟩) rfl _ _ 55 false rfl 2 law Tryz.underlying55 _ (zero _) rfl hM (.string s) rfl s hk ?_; simp only [if_false, Bool.false_eq_true, tlook_put_same ks_one, Option.map_some, Option.getD_some]))
  go_ret
  exact ⟨rfl, H.out.begun T1.out hM⟩

theorem Add {w : World} {bs off n : Nat} {mb : Option Nat} {M : List (ByteArray × Int)} {sz : Int} (h : Book w bs off mb n M sz) (s : ByteArray) (hs : s.size ≤ 140737488351232) (x : Int) (h0 : 0 ≤ sz) (h1 : sz ≤ 1152921504606846976) (hn : n < maxLen) :
    Calls Tryz.prog 53 #[.pointer (some ⟨bs, off, none⟩), .string s, .int .i64 x] w fun e w' => e = .returned (.int .i64 (wrap64 (val M s + x))) ∧
      ∃ b, (mb = some b ∨ mb = none ∧ b = w.heap.size) ∧ Book w' bs off (some b) (n + 1) (tput ks M s (wrap64 (val M s + x))) (sz + grows M s) ∧ Turn w w' bs off (fun k => k = b) := by
  cases mb with
  | some b => exact (Add_some h s hs x h0 h1 hn).mono fun e w' ⟨he, h2, h3⟩ => ⟨he, b, .inl rfl, h2, h3⟩
  | none => exact (Add_none h s hs x h0 h1).mono fun e w' ⟨he, h2, h3⟩ => ⟨he, _, .inr ⟨rfl, rfl⟩, ⟨h2.c0, h2.c1, h2.f0, h2.f1, h2.map.mono (by omega)⟩, h3⟩

/-! ### no book -/
theorem Grows_nil (s : ByteArray) (hs : s.size ≤ 140737488351232) (w : World) : Calls Tryz.prog 51 #[.pointer none, .string s] w fun e w' => e = .returned (.int .i64 (24 + s.size)) ∧ w' = w := by
  obtain ⟨m, hm⟩ : ∃ m, m = 140737488351232 := ⟨_, rfl⟩
  go_enter Tryz.func51, Tryz.ntmps51
  go_wp2
  go_ret
  exact ⟨rfl, rfl⟩
theorem Add_nil (s : ByteArray) (x : Int) (w : World) : Calls Tryz.prog 53 #[.pointer none, .string s, .int .i64 x] w fun e w' => e = .returned (.int .i64 0) ∧ w' = w := by
  go_enter Tryz.func53, Tryz.ntmps53
  go_wp2
  go_ret
  exact ⟨rfl, rfl⟩
theorem Value_nil (s : ByteArray) (w : World) : Calls Tryz.prog 36 #[.pointer none, .string s] w fun e w' => e = .returned (.int .i64 0) ∧ w' = w := by
  go_enter Tryz.func36, Tryz.ntmps36
  go_wp2
  go_ret
  exact ⟨rfl, rfl⟩
theorem Size_nil (w : World) : Calls Tryz.prog 21 #[.pointer none] w fun e w' => e = .returned (.int .i64 0) ∧ w' = w := by
  go_enter Tryz.func21, Tryz.ntmps21
  go_wp2
  go_ret
  exact ⟨rfl, rfl⟩
/-- A book that was made just now. -/
theorem made (w : World) (n : Nat) : Book (w.alloc (.cells #[.map none, .int .i64 0] 57)) w.heap.size 0 none n [] 0 := TabAt.new w _ n
end Go.Proofs.YtnccofpkanhfhaaGreatDoor.Counter
