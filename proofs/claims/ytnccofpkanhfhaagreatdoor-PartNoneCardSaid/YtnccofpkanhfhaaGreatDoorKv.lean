/-
  The methods of kv.Store, each by its contract: what it answers of what the store holds, and what turns.
-/
import Derived.Test.YtnccofpkanhfhaaGreatDoorTabb
import Derived.Test.YtnccofpkanhfhaaGreatDoorProg
import Derived.StillTailTactics
import Derived.Deep.RegionHeld3
import Derived.Deep.DrawnRows
import Derived.WalkSpells
import Derived.Outline
set_option linter.unusedVariables false
set_option linter.unusedSimpArgs false
namespace Go.Proofs.YtnccofpkanhfhaaGreatDoor.Kv
open Go.RowKit Go.Maps Go.WideMaps Go.Proofs.YtnccofpkanhfhaaGreatDoor.Tab
attribute [local go_sem ↓] Go.wp_at_zero Go.wp_at_succ
abbrev vs (x : ByteArray) : Value := .agg #[.string x]
theorem law : Keyed Tryz.prog 9 := string_keyed Tryz.underlying9
theorem zero (w : World) : (zeroValue 135).run Tryz.prog w = .ok (.agg #[.string ⟨#[]⟩]) w := by kernel_rfl
abbrev Store (w : World) (bs off : Nat) (mb : Option Nat) (n : Nat) (M : List (ByteArray × ByteArray)) (sz : Int) : Prop := TabAt ks vs Tryz.prog 9 w bs off mb n M sz
def val (M : List (ByteArray × ByteArray)) (s : ByteArray) : ByteArray := (tlook ks M s).getD ⟨#[]⟩
/-- What is there of a key weighs. -/
def has (M : List (ByteArray × ByteArray)) (s : ByteArray) : Int := if (tlook ks M s).isSome then 16 + s.size + (val M s).size else 0
def grows (M : List (ByteArray × ByteArray)) (s v : ByteArray) : Int := 16 + s.size + v.size - has M s
theorem val_get (M : List (ByteArray × ByteArray)) (s : ByteArray) : ((tlook ks M s).map vs).getD (.agg #[.string ⟨#[]⟩]) = .agg #[.string (val M s)] := by
  unfold val
  cases tlook ks M s <;> rfl
theorem made (w : World) (n : Nat) : Store (w.alloc (.cells #[.map none, .int .i64 0] 54)) w.heap.size 0 none n [] 0 := TabAt.new w _ n
section
variable {w : World} {bs off : Nat} {mb : Option Nat} {n : Nat} {M : List (ByteArray × ByteArray)} {sz : Int}
theorem Size_ (h : Store w bs off mb n M sz) :
    Calls Tryz.prog 20 #[.pointer (some ⟨bs, off, none⟩)] w fun e w' => e = .returned (.int .i64 sz) ∧ w' = w := by
  have c1 := h.c1
  clear h
  go_enter Tryz.func20, Tryz.ntmps20
  go_wp2
  go_ret
  exact ⟨rfl, rfl⟩
theorem Get_ (h : Store w bs off mb n M sz) (s : ByteArray) (hs : s.size ≤ maxLen) :
    Calls Tryz.prog 31 #[.pointer (some ⟨bs, off, none⟩), .string s] w fun e w' => e = .returned (.tuple #[.string (val M s), .bool (tlook ks M s).isSome]) ∧ Below w.heap.size w w' := by
  have c0 := h.c0
  have hl := h.map.run_look true law Tryz.underlying52 (zero w) s (keyOf_string_mk Tryz.underlying9 hs)
  simp only [if_true, val_get] at hl
  clear h
  go_enter Tryz.func31, Tryz.ntmps31
  go_wp2
  go_ret2
  exact ⟨rfl, (Below.refl _ _).alloc (Nat.le_refl _) _⟩
theorem Get_nil (s : ByteArray) : Calls Tryz.prog 31 #[.pointer none, .string s] w fun e w' => e = .returned (.tuple #[.string ⟨#[]⟩, .bool false]) ∧ w' = w := by
  go_enter Tryz.func31, Tryz.ntmps31
  go_wp2
  go_ret2
  exact ⟨rfl, rfl⟩
set_option maxRecDepth 100000 in
theorem Grows (h : Store w bs off mb n M sz) (s v : ByteArray) (hs : s.size ≤ 140737488351232) (hv : v.size ≤ 140737488351232) (hx : (val M s).size ≤ 140737488351232) :
    Calls Tryz.prog 82 #[.pointer (some ⟨bs, off, none⟩), .string s, .string v] w fun e w' => e = .returned (.int .i64 (grows M s v)) ∧ Below w.heap.size w w' := by
  have hG := hid (Get_ h s (by unfold maxLen; omega))
  have HM : Hid (grows M s v = if (tlook ks M s).isSome then 16 + (s.size : Int) + (v.size : Int) - (16 + (s.size : Int) + ((val M s).size : Int)) else 16 + (s.size : Int) + (v.size : Int)) := hid (by unfold grows has; split <;> omega)
  clear h
  generalize val M s = x at *
  cases hb : (tlook ks M s).isSome
  all_goals
    rw [hb] at hG HM
    go_enter Tryz.func82, Tryz.ntmps82
    go_wp2_with (go_at_call 31; refine hG.out.mono ?_; rintro e w' ⟨rfl, hB⟩)
    go_ret
    exact ⟨by rw [HM.out]; simp, hB⟩
end
theorem grows_bd (M : List (ByteArray × ByteArray)) (s v : ByteArray) (hs : s.size ≤ 140737488351232) (hv : v.size ≤ 140737488351232) (hx : (val M s).size ≤ 140737488351232) : -281474976702480 ≤ grows M s v ∧ grows M s v ≤ 281474976702480 := by
  unfold grows has
  split <;> omega
set_option maxRecDepth 100000 in
set_option maxHeartbeats 1000000 in
theorem Put_some {w : World} {bs off b n : Nat} {M : List (ByteArray × ByteArray)} {sz : Int} (h : Store w bs off (some b) n M sz) (s v : ByteArray) (hs : s.size ≤ 140737488351232) (hv : v.size ≤ 140737488351232) (hx : (val M s).size ≤ 140737488351232) (h0 : 0 ≤ sz) (h1 : sz ≤ 1152921504606846976) (hn : n < maxLen) :
    Calls Tryz.prog 84 #[.pointer (some ⟨bs, off, none⟩), .string s, .string v] w fun e w' => e = .returned (.tuple #[]) ∧
      Store w' bs off (some b) (n + 1) (tput ks M s v) (sz + grows M s v) ∧ Turn w w' bs off (fun k => k = b) := by
  have c0 := h.c0
  have c1 := h.c1
  have f1 := h.f1
  have hk := keyOf_string_mk Tryz.underlying9 (s := s) (by unfold maxLen; omega)
  have hg := hid (Grows (h.drew) s v hs hv hx)
  have hm := fun (W : World) (r : Option Nat) => run_eql_map_nil (P := Tryz.prog) W 52 9 135 r Tryz.underlying52
  obtain ⟨hg0, hg1⟩ := grows_bd M s v hs hv hx
  generalize grows M s v = g at *
  have hne := h.ne
  have hlt := h.lt
  have hwz : IntKind.i64.wrap (sz + g) = sz + g := IntWalk.i64_in _ (by omega)
  have H := hid h
  clear h
  go_enter Tryz.func84, Tryz.ntmps84
  go_wp2_with fail
  go_region_with (first
      | (go_at_call 82; refine hg.out.mono ?_; rintro e w1 ⟨rfl, hB⟩; replace c1 := (World.cell?_of_block (hB.block bs hlt)).trans c1; replace c0 := (World.cell?_of_block (hB.block bs hlt)).trans c0; replace f1 := (World.frozen?_of_block (hB.block bs hlt)).trans f1))
  all_goals have h2 := hid (H.out.drew.below hB)
  all_goals go_wp2_with (first
    | (at_mapUpdate; refine wpList_store (ke := ks) (ve := vs) (M := M) (n := n) rfl _ _ _ 52 rfl 135 law Tryz.underlying52 b rfl ?m2 hn (.string s) rfl s hk v rfl ?_; (case m2 => exact (h2.out.sized (sz + g)).map); intro w2 hM hG; have T1 := hid hG; clear hG))
  all_goals go_end0
  all_goals have h3 := h2.out.wrote T1.out hM
  all_goals exact ⟨rfl, h3.1, (Turn.ofDrew (Turn.below hlt hB)).trans h3.2 (fun _ _ h => h)⟩
set_option maxRecDepth 100000 in
set_option maxHeartbeats 1000000 in
theorem Put_none {w : World} {bs off n : Nat} {M : List (ByteArray × ByteArray)} {sz : Int} (h : Store w bs off none n M sz) (s v : ByteArray) (hs : s.size ≤ 140737488351232) (hv : v.size ≤ 140737488351232) (hx : (val M s).size ≤ 140737488351232) (h0 : 0 ≤ sz) (h1 : sz ≤ 1152921504606846976) :
    Calls Tryz.prog 84 #[.pointer (some ⟨bs, off, none⟩), .string s, .string v] w fun e w' => e = .returned (.tuple #[]) ∧
      ∃ b, w.heap.size ≤ b ∧ Store w' bs off (some b) 1 (tput ks M s v) (sz + grows M s v) ∧ Turn w w' bs off (fun k => k = b) := by
  have c0 := h.c0
  have c1 := h.c1
  have f0 := h.f0
  have f1 := h.f1
  have hk := keyOf_string_mk Tryz.underlying9 (s := s) (by unfold maxLen; omega)
  have hg := hid (Grows (h.drew) s v hs hv hx)
  have hm := fun (W : World) (r : Option Nat) => run_eql_map_nil (P := Tryz.prog) W 52 9 135 r Tryz.underlying52
  obtain ⟨hg0, hg1⟩ := grows_bd M s v hs hv hx
  generalize grows M s v = g at *
  have hmm := @run_makeMap Tryz.prog
  have hlt := h.lt
  have hwz : IntKind.i64.wrap (sz + g) = sz + g := IntWalk.i64_in _ (by omega)
  have H := hid h
  clear h
  go_enter Tryz.func84, Tryz.ntmps84
  go_wp2_with fail
  go_region_with (first
      | (go_at_call 82; refine hg.out.mono ?_; rintro e w1 ⟨rfl, hB⟩; replace c1 := (World.cell?_of_block (hB.block bs hlt)).trans c1; replace c0 := (World.cell?_of_block (hB.block bs hlt)).trans c0; replace f1 := (World.frozen?_of_block (hB.block bs hlt)).trans f1; replace f0 := (World.frozen?_of_block (hB.block bs hlt)).trans f0))
  all_goals have h2 := hid (H.out.drew.below hB)
  all_goals have hlt2 := h2.out.lt
  all_goals go_wp2_with (first
    | (at_mapUpdate; refine wpList_store (ke := ks) (ve := vs) (M := M) (n := 0) rfl _ _ _ 52 rfl 135 law Tryz.underlying52 w1.heap.size rfl ?m2 (by unfold maxLen; omega) (.string s) rfl s hk v rfl ?_; (case m2 => exact (h2.out.made (sz + g)).map); intro w2 hM hG; have T1 := hid hG; clear hG))
  all_goals go_end0
  all_goals have h3 := h2.out.started T1.out hM
  all_goals exact ⟨rfl, w1.heap.size, hB.size, h3.1, (Turn.ofDrew (Turn.below hlt hB)).trans h3.2 (fun _ _ h => h)⟩
theorem Put {w : World} {bs off n : Nat} {mb : Option Nat} {M : List (ByteArray × ByteArray)} {sz : Int} (h : Store w bs off mb n M sz) (s v : ByteArray) (hs : s.size ≤ 140737488351232) (hv : v.size ≤ 140737488351232) (hx : (val M s).size ≤ 140737488351232) (h0 : 0 ≤ sz) (h1 : sz ≤ 1152921504606846976) (hn : n < maxLen) :
    Calls Tryz.prog 84 #[.pointer (some ⟨bs, off, none⟩), .string s, .string v] w fun e w' => e = .returned (.tuple #[]) ∧
      ∃ b, (mb = some b ∨ mb = none ∧ w.heap.size ≤ b) ∧ Store w' bs off (some b) (n + 1) (tput ks M s v) (sz + grows M s v) ∧ Turn w w' bs off (fun k => k = b) := by
  cases mb with
  | some b => exact (Put_some h s v hs hv hx h0 h1 hn).mono fun e w' ⟨he, h2, h3⟩ => ⟨he, b, .inl rfl, h2, h3⟩
  | none => exact (Put_none h s v hs hv hx h0 h1).mono fun e w' ⟨he, b, hb, h2, h3⟩ => ⟨he, b, .inr ⟨rfl, hb⟩, ⟨h2.c0, h2.c1, h2.f0, h2.f1, h2.map.mono (by omega)⟩, h3⟩
theorem Put_nil (s v : ByteArray) (w : World) : Calls Tryz.prog 84 #[.pointer none, .string s, .string v] w fun e w' => e = .returned (.tuple #[]) ∧ w' = w := by
  go_enter Tryz.func84, Tryz.ntmps84
  go_wp2
  refine bodyPost_ret (results_none rfl _ _ _) rfl ?_
  exact ⟨rfl, rfl⟩
theorem Size_nil (w : World) : Calls Tryz.prog 20 #[.pointer none] w fun e w' => e = .returned (.int .i64 0) ∧ w' = w := by
  go_enter Tryz.func20, Tryz.ntmps20
  go_wp2
  go_ret
  exact ⟨rfl, rfl⟩
set_option maxRecDepth 100000 in
theorem Grows_nil (s v : ByteArray) (w : World) (hs : s.size ≤ 140737488351232) (hv : v.size ≤ 140737488351232) :
    Calls Tryz.prog 82 #[.pointer none, .string s, .string v] w fun e w' => e = .returned (.int .i64 (16 + (s.size : Int) + (v.size : Int))) ∧ w' = w := by
  have hG := hid (Get_nil (w := w) s)
  go_enter Tryz.func82, Tryz.ntmps82
  go_wp2_with (go_at_call 31; refine hG.out.mono ?_; rintro e w' ⟨rfl, rfl⟩)
  go_ret
  exact ⟨rfl, rfl⟩
theorem Del_nil (s : ByteArray) (w : World) :
    Calls Tryz.prog 86 #[.pointer none, .string s] w fun e w' => e = .returned (.bool false) ∧ w' = w := by
  have hG := hid (Get_nil (w := w) s)
  go_enter Tryz.func86, Tryz.ntmps86
  go_wp2_with (go_at_call 31; refine hG.out.mono ?_; rintro e w' ⟨rfl, rfl⟩)
  go_ret
  exact ⟨rfl, rfl⟩
/-- Not there: nothing is taken out. -/
theorem Del_none {w : World} {bs off n : Nat} {mb : Option Nat} {M : List (ByteArray × ByteArray)} {sz : Int} (h : Store w bs off mb n M sz) (s : ByteArray) (hs : s.size ≤ maxLen) (hl : tlook ks M s = none) :
    Calls Tryz.prog 86 #[.pointer (some ⟨bs, off, none⟩), .string s] w fun e w' => e = .returned (.bool false) ∧ Below w.heap.size w w' := by
  have hG := hid (Get_ h s hs)
  rw [hl] at hG
  simp only [Option.isSome_none] at hG
  clear h
  go_enter Tryz.func86, Tryz.ntmps86
  go_wp2_with (go_at_call 31; refine hG.out.mono ?_; rintro e w' ⟨rfl, hB⟩)
  go_ret
  exact ⟨rfl, hB⟩
set_option maxRecDepth 100000 in
set_option maxHeartbeats 1000000 in
theorem Del_some {w : World} {bs off b n : Nat} {M : List (ByteArray × ByteArray)} {sz : Int} (h : Store w bs off (some b) n M sz) (s x : ByteArray) (hs : s.size ≤ 140737488351232) (hl : tlook ks M s = some x) (hx : x.size ≤ 140737488351232) (h0 : 0 ≤ sz) (h1 : sz ≤ 1152921504606846976) :
    Calls Tryz.prog 86 #[.pointer (some ⟨bs, off, none⟩), .string s] w fun e w' => e = .returned (.bool true) ∧
      Store w' bs off (some b) n (tdel ks M s) (sz - (16 + (s.size : Int) + (x.size : Int))) ∧ Turn w w' bs off (fun k => k = b) := by
  have c0 := h.c0
  have c1 := h.c1
  have f1 := h.f1
  have hk := keyOf_string_mk Tryz.underlying9 (s := s) (by unfold maxLen; omega)
  have hG := hid (Get_ h s (by unfold maxLen; omega))
  have hv : val M s = x := by unfold val; rw [hl]; rfl
  rw [hl, hv] at hG
  simp only [Option.isSome_some] at hG
  have hlt := h.lt
  have hwz : IntKind.i64.wrap (sz - (16 + (s.size : Int) + (x.size : Int))) = sz - (16 + (s.size : Int) + (x.size : Int)) := IntWalk.i64_in _ (by omega)
  have H := hid h
  clear h hl hv
  go_enter Tryz.func86, Tryz.ntmps86
  go_wp2_with (first
    | (go_at_call 31; refine hG.out.mono ?_; rintro e w1 ⟨rfl, hB⟩; replace c1 := (World.cell?_of_block (hB.block bs hlt)).trans c1; replace c0 := (World.cell?_of_block (hB.block bs hlt)).trans c0; replace f1 := (World.frozen?_of_block (hB.block bs hlt)).trans f1; have h2 := hid (H.out.below hB))
    | (at_delete; refine wpList_drop (ke := ks) (ve := vs) (M := M) (n := n) rfl _ _ 52 rfl 135 law Tryz.underlying52 b rfl ?m2 (.string s) rfl s hk ?_; (case m2 => exact (h2.out.sized (sz - (16 + (s.size : Int) + (x.size : Int)))).map); intro w2 hM hG; have T1 := hid hG; clear hG))
  go_ret
  have h3 := h2.out.wrote T1.out hM
  exact ⟨rfl, h3.1, (Turn.below hlt hB).trans h3.2 (fun _ _ h => h)⟩
end Go.Proofs.YtnccofpkanhfhaaGreatDoor.Kv
