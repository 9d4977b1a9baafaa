/-
  The methods of lease.Leases, each by its contract.
-/
import Derived.Test.YtnccofpkanhfhaaGreatDoorTabb
import Derived.Test.YtnccofpkanhfhaaGreatDoorKeys
import Derived.StillTailTactics
import Derived.Deep.RegionHeld3
import Derived.Deep.DrawnRows
import Derived.WalkSpells
import Derived.Outline
set_option linter.unusedVariables false
set_option linter.unusedSimpArgs false
namespace Go.Proofs.YtnccofpkanhfhaaGreatDoor.Lease
open Go.RowKit Go.Maps Go.WideMaps Go.Sort Go.Proofs.YtnccofpkanhfhaaGreatDoor.Tab Go.Proofs.YtnccofpkanhfhaaGreatDoorW.PrintWords
attribute [local go_sem ↓] Go.wp_at_zero Go.wp_at_succ
abbrev vh (x : ByteArray × Int) : Value := .agg #[.string x.1, .int .i64 x.2]
abbrev Tabl := List (ByteArray × (ByteArray × Int))
theorem law : Keyed Tryz.prog 9 := string_keyed Tryz.underlying9
theorem zero (w : World) : (zeroValue 108).run Tryz.prog w = .ok (.agg #[.string ⟨#[]⟩, .int .i64 0]) w := by kernel_rfl
abbrev Leases (w : World) (bs off : Nat) (mb : Option Nat) (n : Nat) (M : Tabl) (sz : Int) : Prop := TabAt ks vh Tryz.prog 9 w bs off mb n M sz
def val (M : Tabl) (s : ByteArray) : ByteArray × Int := (tlook ks M s).getD (⟨#[]⟩, 0)
def grows (M : Tabl) (s v : ByteArray) : Int := if (tlook ks M s).isSome then 0 else 24 + s.size + v.size
theorem val_get (M : Tabl) (s : ByteArray) : ((tlook ks M s).map vh).getD (.agg #[.string ⟨#[]⟩, .int .i64 0]) = .agg #[.string (val M s).1, .int .i64 (val M s).2] := by
  unfold val
  cases tlook ks M s <;> rfl
theorem field0 (x : ByteArray × Int) (W : World) : (Instr.field 108 (vh x) 0).run Tryz.prog W = .ok (.string x.1) W := by kernel_rfl
theorem field1 (x : ByteArray × Int) (W : World) : (Instr.field 108 (vh x) 1).run Tryz.prog W = .ok (.int .i64 x.2) W := by kernel_rfl
theorem made (w : World) (n : Nat) : Leases (w.alloc (.cells #[.map none, .int .i64 0] 63)) w.heap.size 0 none n [] 0 := TabAt.new w _ n
section
variable {w : World} {bs off : Nat} {mb : Option Nat} {n : Nat} {M : Tabl} {sz : Int}
theorem Size_ (h : Leases w bs off mb n M sz) :
    Calls Tryz.prog 23 #[.pointer (some ⟨bs, off, none⟩)] w fun e w' => e = .returned (.int .i64 sz) ∧ w' = w := by
  have c1 := h.c1
  clear h
  go_enter Tryz.func23, Tryz.ntmps23
  go_wp2
  go_ret
  exact ⟨rfl, rfl⟩
theorem Holder_ (h : Leases w bs off mb n M sz) (s : ByteArray) (hs : s.size ≤ maxLen) :
    Calls Tryz.prog 43 #[.pointer (some ⟨bs, off, none⟩), .string s] w fun e w' => e = .returned (.tuple #[.string (val M s).1, .int .i64 (val M s).2, .bool (tlook ks M s).isSome]) ∧ Below w.heap.size w w' := by
  have c0 := h.c0
  have hl := h.map.run_look true law Tryz.underlying61 (zero w) s (keyOf_string_mk Tryz.underlying9 hs)
  simp only [if_true, val_get] at hl
  clear h
  go_enter Tryz.func43, Tryz.ntmps43
  go_wp2_with fail
  have q0 : (w.alloc (.cells #[.string (val M s).1, .int .i64 (val M s).2] 108)).cell? ⟨w.heap.size, 0, none⟩ = some (.string (val M s).1) := World.cell?_alloc_at _ _ _ _ rfl
  have q1 : (w.alloc (.cells #[.string (val M s).1, .int .i64 (val M s).2] 108)).cell? ⟨w.heap.size, 1, none⟩ = some (.int .i64 (val M s).2) := World.cell?_alloc_at _ _ _ _ rfl
  go_region_held3 (fun w' => w'.cell? ⟨w.heap.size, 0, none⟩ = some (.string (val M s).1) ∧ w'.cell? ⟨w.heap.size, 1, none⟩ = some (.int .i64 (val M s).2)) (first | exact ⟨q0, q1⟩ | go_keep) (fail)
  all_goals go_wp2_with fail
  all_goals go_ret3
  all_goals exact ⟨rfl, ((Below.refl _ _).alloc (Nat.le_refl _) _).drew⟩
set_option maxRecDepth 100000 in
theorem Grows (h : Leases w bs off mb n M sz) (s v : ByteArray) (hs : s.size ≤ 140737488351232) (hv : v.size ≤ 140737488351232) :
    Calls Tryz.prog 55 #[.pointer (some ⟨bs, off, none⟩), .string s, .string v] w fun e w' => e = .returned (.int .i64 (grows M s v)) ∧ Below w.heap.size w w' := by
  have hG := hid (Holder_ h s (by unfold maxLen; omega))
  have HM : Hid (grows M s v = if (tlook ks M s).isSome then 0 else 24 + (s.size : Int) + (v.size : Int)) := hid rfl
  clear h
  generalize val M s = x at *
  cases hb : (tlook ks M s).isSome
  all_goals
    rw [hb] at hG HM
    go_enter Tryz.func55, Tryz.ntmps55
    go_wp2_with (go_at_call 43; refine hG.out.mono ?_; rintro e w' ⟨rfl, hB⟩)
    go_ret
    exact ⟨by rw [HM.out]; simp, hB⟩
set_option maxRecDepth 100000 in
set_option maxHeartbeats 1000000 in
theorem drop {b : Nat} (h : Leases w bs off (some b) n M sz) (s : ByteArray) (x : ByteArray × Int) (hs : s.size ≤ 140737488351232) (hl : tlook ks M s = some x) (hx : x.1.size ≤ 140737488351232) (h0 : 0 ≤ sz) (h1 : sz ≤ 1152921504606846976) :
    Calls Tryz.prog 62 #[.pointer (some ⟨bs, off, none⟩), .string s] w fun e w' => e = .returned (.tuple #[]) ∧
      Leases w' bs off (some b) n (tdel ks M s) (sz - (24 + (s.size : Int) + (x.1.size : Int))) ∧ Turn w w' bs off (fun k => k = b) := by
  have c0 := h.c0
  have c1 := h.c1
  have f1 := h.f1
  have hk := keyOf_string_mk Tryz.underlying9 (s := s) (by unfold maxLen; omega)
  have hv : val M s = x := by unfold val; rw [hl]; rfl
  have hlk := h.drew.map.run_look false law Tryz.underlying61 (zero w.drew) s hk
  simp only [if_false, Bool.false_eq_true, val_get, hv] at hlk
  have hfl := field0 x w.drew
  have hlt := h.lt
  have hwz : IntKind.i64.wrap (sz - (24 + (s.size : Int) + (x.1.size : Int))) = sz - (24 + (s.size : Int) + (x.1.size : Int)) := IntWalk.i64_in _ (by omega)
  have H := hid h
  clear h hl hv
  go_enter Tryz.func62, Tryz.ntmps62
  go_wp2_with fail
  refine wp_region_still_tail 19 (by kernel_rfl) (by kernel_rfl) ?_
  simp only [List.take_succ_cons, List.take_zero, List.drop_succ_cons, List.drop_zero]
  iterate 19 still_step
  refine wpStill_nil ?_
  change wpList _ _ _ _ _ w.drew
  go_wp2_with (first
    | (at_delete; refine wpList_drop (ke := ks) (ve := vh) (M := M) (n := n) rfl _ _ 61 rfl 108 law Tryz.underlying61 b rfl ?m2 (.string s) rfl s hk ?_; (case m2 => exact (H.out.drew.sized (sz - (24 + (s.size : Int) + (x.1.size : Int)))).map); intro w2 hM hG; have T1 := hid hG; clear hG))
  go_end0
  exact ⟨rfl, H.out.written T1.out hM⟩
end
theorem grows_bd (M : Tabl) (s v : ByteArray) : 0 ≤ grows M s v ∧ grows M s v ≤ 24 + s.size + v.size := by
  unfold grows
  split <;> omega
set_option maxRecDepth 100000 in
set_option maxHeartbeats 1000000 in
/-- Somebody else has it. -/
theorem Take_blocked {w : World} {bs off n : Nat} {mb : Option Nat} {M : Tabl} {sz : Int} (h : Leases w bs off mb n M sz) (s v : ByteArray) (x : ByteArray × Int) (hs : s.size ≤ maxLen) (hl : tlook ks M s = some x) (hx : 1 ≤ x.2) (hne : x.1 ≠ v) (ticks now : Int) :
    Calls Tryz.prog 57 #[.pointer (some ⟨bs, off, none⟩), .string s, .string v, .int .i64 ticks, .int .i64 now] w fun e w' => e = .returned (.bool false) ∧ Below w.heap.size w w' := by
  have c0 := h.c0
  have hv : val M s = x := by unfold val; rw [hl]; rfl
  have hlk := h.map.run_look false law Tryz.underlying61 (zero w) s (keyOf_string_mk Tryz.underlying9 hs)
  simp only [if_false, Bool.false_eq_true, val_get, hv] at hlk
  have hne2 : (x.1.toList == v.toList) = false := by
    rw [beq_eq_false_iff_ne, ByteArray.toList_eq, ByteArray.toList_eq]
    exact fun e => hne (bytes_ext e)
  clear h hl hv
  go_enter Tryz.func57, Tryz.ntmps57
  go_wp2
  go_ret
  exact ⟨rfl, (Below.refl _ _).alloc (Nat.le_refl _) _⟩
def till (ticks now : Int) : Int := max 0 (min now 1099511627776) + max 1 (min ticks 1048576)
set_option maxRecDepth 100000 in
set_option maxHeartbeats 1000000 in
theorem Take_some {w : World} {bs off b n : Nat} {M : Tabl} {sz : Int} (h : Leases w bs off (some b) n M sz) (s v : ByteArray) (hs : s.size ≤ 140737488351232) (hv : v.size ≤ 140737488351232) (hgo : val M s = (⟨#[]⟩, 0) ∨ (1 ≤ (val M s).2 ∧ (val M s).1 = v)) (ticks now : Int) (h0 : 0 ≤ sz) (h1 : sz ≤ 1152921504606846976) (hn : n < maxLen) :
    Calls Tryz.prog 57 #[.pointer (some ⟨bs, off, none⟩), .string s, .string v, .int .i64 ticks, .int .i64 now] w fun e w' => e = .returned (.bool true) ∧
      Leases w' bs off (some b) (n + 1) (tput ks M s (v, till ticks now)) (sz + grows M s v) ∧ Turn w w' bs off (fun k => k = b) := by
  have c0 := h.c0
  have c1 := h.c1
  have f1 := h.f1
  have hk := keyOf_string_mk Tryz.underlying9 (s := s) (by unfold maxLen; omega)
  have hlk := h.map.run_look false law Tryz.underlying61 (zero w) s hk
  simp only [if_false, Bool.false_eq_true, val_get] at hlk
  have hm := fun (W : World) (r : Option Nat) => run_eql_map_nil (P := Tryz.prog) W 61 9 108 r Tryz.underlying61
  have hg := hid (fun W (hb : Below w.heap.size w W) => (Grows (h.below hb) s v hs hv).mono fun e w' ⟨he, hb'⟩ => (⟨he, below_then hb hb.size hb'⟩ : _ ∧ Below w.heap.size w w'))
  obtain ⟨hg0, hg1⟩ := grows_bd M s v
  generalize val M s = x at *
  generalize grows M s v = g at *
  have hne := h.ne
  have hlt := h.lt
  have hwz : IntKind.i64.wrap (sz + g) = sz + g := IntWalk.i64_in _ (by omega)
  have H := hid h
  clear h
  rcases hgo with rfl | ⟨hx2, rfl⟩
  all_goals
    go_enter Tryz.func57, Tryz.ntmps57
    go_wp2_with fail
  all_goals go_region_with (first
      | (go_at_call 55; refine (hg.out _ ?_).mono ?_; (exact ((Below.refl _ _).alloc (Nat.le_refl _) _).drew); rintro e w1 ⟨rfl, hB⟩; replace c1 := (World.cell?_of_block (hB.block bs hlt)).trans c1; replace c0 := (World.cell?_of_block (hB.block bs hlt)).trans c0; replace f1 := (World.frozen?_of_block (hB.block bs hlt)).trans f1))
  all_goals have h2 := hid (H.out.below hB)
  all_goals go_wp2_with (first
    | (at_mapUpdate; refine wpList_store (ke := ks) (ve := vh) (M := M) (n := n) rfl _ _ _ 61 rfl 108 law Tryz.underlying61 b rfl ?m2 hn (.string s) rfl s hk (_, till ticks now) rfl ?_; (case m2 => exact (h2.out.sized (sz + g)).map); intro w2 hM hG; have T1 := hid hG; clear hG))
  all_goals go_ret
  all_goals have h3 := h2.out.wrote T1.out hM
  all_goals exact ⟨rfl, h3.1, (Turn.below hlt hB).trans h3.2 (fun _ _ h => h)⟩
set_option maxRecDepth 100000 in
set_option maxHeartbeats 1000000 in
theorem Take_none {w : World} {bs off n : Nat} {M : Tabl} {sz : Int} (h : Leases w bs off none n M sz) (s v : ByteArray) (hs : s.size ≤ 140737488351232) (hv : v.size ≤ 140737488351232) (ticks now : Int) (h0 : 0 ≤ sz) (h1 : sz ≤ 1152921504606846976) :
    Calls Tryz.prog 57 #[.pointer (some ⟨bs, off, none⟩), .string s, .string v, .int .i64 ticks, .int .i64 now] w fun e w' => e = .returned (.bool true) ∧
      ∃ b, w.heap.size ≤ b ∧ Leases w' bs off (some b) 1 (tput ks M s (v, till ticks now)) (sz + grows M s v) ∧ Turn w w' bs off (fun k => k = b) := by
  have c0 := h.c0
  have c1 := h.c1
  have f0 := h.f0
  have f1 := h.f1
  have hk := keyOf_string_mk Tryz.underlying9 (s := s) (by unfold maxLen; omega)
  have hlk := h.map.run_look false law Tryz.underlying61 (zero w) s hk
  have hM0 : M = [] := h.map
  simp only [if_false, Bool.false_eq_true, val_get] at hlk
  rw [show val M s = (⟨#[]⟩, 0) by rw [hM0]; rfl] at hlk
  have hm := fun (W : World) (r : Option Nat) => run_eql_map_nil (P := Tryz.prog) W 61 9 108 r Tryz.underlying61
  have hg := hid (fun W (hb : Below w.heap.size w W) => (Grows (h.below hb) s v hs hv).mono fun e w' ⟨he, hb'⟩ => (⟨he, below_then hb hb.size hb'⟩ : _ ∧ Below w.heap.size w w'))
  obtain ⟨hg0, hg1⟩ := grows_bd M s v
  generalize grows M s v = g at *
  have hmm := @run_makeMap Tryz.prog
  have hlt := h.lt
  have hwz : IntKind.i64.wrap (sz + g) = sz + g := IntWalk.i64_in _ (by omega)
  have H := hid h
  clear h hM0
  go_enter Tryz.func57, Tryz.ntmps57
  go_wp2_with fail
  go_region_with (first
      | (go_at_call 55; refine (hg.out _ ?_).mono ?_; (exact ((Below.refl _ _).alloc (Nat.le_refl _) _).drew); rintro e w1 ⟨rfl, hB⟩; replace c1 := (World.cell?_of_block (hB.block bs hlt)).trans c1; replace c0 := (World.cell?_of_block (hB.block bs hlt)).trans c0; replace f1 := (World.frozen?_of_block (hB.block bs hlt)).trans f1; replace f0 := (World.frozen?_of_block (hB.block bs hlt)).trans f0))
  all_goals have h2 := hid (H.out.below hB)
  all_goals have hlt2 := h2.out.lt
  all_goals go_wp2_with (first
    | (at_mapUpdate; refine wpList_store (ke := ks) (ve := vh) (M := M) (n := 0) rfl _ _ _ 61 rfl 108 law Tryz.underlying61 w1.heap.size rfl ?m2 (by unfold maxLen; omega) (.string s) rfl s hk (_, till ticks now) rfl ?_; (case m2 => exact (h2.out.made (sz + g)).map); intro w2 hM hG; have T1 := hid hG; clear hG))
  all_goals go_ret
  all_goals have h3 := h2.out.started T1.out hM
  all_goals exact ⟨rfl, w1.heap.size, hB.size, h3.1, (Turn.below hlt hB).trans h3.2 (fun _ _ h => h)⟩
theorem Take {w : World} {bs off n : Nat} {mb : Option Nat} {M : Tabl} {sz : Int} (h : Leases w bs off mb n M sz) (s v : ByteArray) (hs : s.size ≤ 140737488351232) (hv : v.size ≤ 140737488351232) (hgo : val M s = (⟨#[]⟩, 0) ∨ (1 ≤ (val M s).2 ∧ (val M s).1 = v)) (ticks now : Int) (h0 : 0 ≤ sz) (h1 : sz ≤ 1152921504606846976) (hn : n < maxLen) :
    Calls Tryz.prog 57 #[.pointer (some ⟨bs, off, none⟩), .string s, .string v, .int .i64 ticks, .int .i64 now] w fun e w' => e = .returned (.bool true) ∧
      ∃ b, (mb = some b ∨ mb = none ∧ w.heap.size ≤ b) ∧ Leases w' bs off (some b) (n + 1) (tput ks M s (v, till ticks now)) (sz + grows M s v) ∧ Turn w w' bs off (fun k => k = b) := by
  cases mb with
  | some b => exact (Take_some h s v hs hv hgo ticks now h0 h1 hn).mono fun e w' ⟨he, h2, h3⟩ => ⟨he, b, .inl rfl, h2, h3⟩
  | none => exact (Take_none h s v hs hv ticks now h0 h1).mono fun e w' ⟨he, b, hb, h2, h3⟩ => ⟨he, b, .inr ⟨rfl, hb⟩, ⟨h2.c0, h2.c1, h2.f0, h2.f1, h2.map.mono (by omega)⟩, h3⟩
/-- Not there, or another's: nothing goes. -/
theorem Free_not {w : World} {bs off n : Nat} {mb : Option Nat} {M : Tabl} {sz : Int} (h : Leases w bs off mb n M sz) (s v : ByteArray) (hs : s.size ≤ maxLen) (hno : tlook ks M s = none ∨ (val M s).1 ≠ v) :
    Calls Tryz.prog 60 #[.pointer (some ⟨bs, off, none⟩), .string s, .string v] w fun e w' => e = .returned (.bool false) ∧ Below w.heap.size w w' := by
  have hG := hid (Holder_ h s hs)
  clear h
  rcases hno with hl | hne
  · rw [hl] at hG
    simp only [Option.isSome_none] at hG
    go_enter Tryz.func60, Tryz.ntmps60
    go_wp2_with (go_at_call 43; refine hG.out.mono ?_; rintro e w' ⟨rfl, hB⟩)
    go_ret
    exact ⟨rfl, hB⟩
  · have hne2 : ((val M s).1.toList == v.toList) = false := by
      rw [beq_eq_false_iff_ne, ByteArray.toList_eq, ByteArray.toList_eq]
      exact fun e => hne (bytes_ext e)
    generalize (tlook ks M s).isSome = t at *
    cases t
    all_goals
      go_enter Tryz.func60, Tryz.ntmps60
      go_wp2_with (go_at_call 43; refine hG.out.mono ?_; rintro e w' ⟨rfl, hB⟩)
      go_ret
      exact ⟨rfl, hB⟩
theorem Free_some {w : World} {bs off b n : Nat} {M : Tabl} {sz : Int} (h : Leases w bs off (some b) n M sz) (s : ByteArray) (x : ByteArray × Int) (hs : s.size ≤ 140737488351232) (hl : tlook ks M s = some x) (hx : x.1.size ≤ 140737488351232) (h0 : 0 ≤ sz) (h1 : sz ≤ 1152921504606846976) :
    Calls Tryz.prog 60 #[.pointer (some ⟨bs, off, none⟩), .string s, .string x.1] w fun e w' => e = .returned (.bool true) ∧
      Leases w' bs off (some b) n (tdel ks M s) (sz - (24 + (s.size : Int) + (x.1.size : Int))) ∧ Turn w w' bs off (fun k => k = b) := by
  have hG := hid (Holder_ h s (by unfold maxLen; omega))
  have hv : val M s = x := by unfold val; rw [hl]; rfl
  rw [hl, hv] at hG
  simp only [Option.isSome_some] at hG
  have hD := hid (fun W (hb : Below w.heap.size w W) => drop (h.below hb) s x hs hl hx h0 h1)
  have hlt := h.lt
  clear h hl hv
  go_enter Tryz.func60, Tryz.ntmps60
  go_wp2_with (first
    | (go_at_call 43; refine hG.out.mono ?_; rintro e w1 ⟨rfl, hB⟩)
    | (go_at_call 62; refine (hD.out _ ?_).mono ?_; (exact hB); rintro e w2 ⟨rfl, h2, h3⟩))
  go_ret
  exact ⟨rfl, h2, (Turn.below hlt hB).trans h3 (fun _ _ h => h)⟩
end Go.Proofs.YtnccofpkanhfhaaGreatDoor.Lease
