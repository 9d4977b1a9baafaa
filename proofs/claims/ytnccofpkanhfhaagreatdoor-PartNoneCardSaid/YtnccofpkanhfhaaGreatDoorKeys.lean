/-
  The names that stand in a map, rising: counter.Book.Names, kv.Store.Keys, fifo.Hall.Names (one text at three types).
-/
import Derived.Test.YtnccofpkanhfhaaGreatDoorTab
import Derived.Test.YtnccofpkanhfhaaGreatDoorShelf
import Derived.Test.YtnccofpkanhfhaaGreatDoorRh
import Derived.Maps.RangeWalk
import Derived.Sort.KeysCollected
import Derived.Sort.OwnSorted
import Derived.WalkSpells
import Derived.Outline
set_option linter.unusedVariables false
set_option linter.unusedSimpArgs false
namespace Go.Proofs.YtnccofpkanhfhaaGreatDoor.Tab
open Go.RowKit Go.Maps Go.WideMaps Go.Sort Go.Proofs.YtnccofpkanhfhaaGreatDoorW.PrintWords
theorem before_less : ∀ (a b : List UInt8), bytesBefore a b = Op.bytesLess a b
  | [], [] => rfl
  | [], _ :: _ => rfl
  | _ :: _, [] => rfl
  | a :: r, b :: s => by simp [bytesBefore, Op.bytesLess, before_less r s]
theorem before_le {a b : List UInt8} (h : bytesBefore a b = true) : a ≤ b := by
  rw [before_less, bytesLess_eq] at h
  exact List.le_of_lt (by simpa using h)
theorem strKeys_dat {α : Type} (ve : α → Value) (M : List (ByteArray × α)) : strKeys (dat ks ve M) = M.map fun p => p.1.data.toList := by
  show (M.map _).map _ = _
  rw [List.map_map]
  rfl
theorem keys_sort {α : Type} {M : List (ByteArray × α)} (hr : Rising ks M) {ss : List (List UInt8)} (hp : ss.Perm (M.map fun p => p.1.data.toList)) : ss.mergeSort (fun x y => decide (x ≤ y)) = M.map fun p => p.1.data.toList := by
  have h1 := mergeSort_of_perm hp
  have h2 : (M.map fun p => p.1.data.toList).Pairwise (fun a b => decide (a ≤ b) = true) := by
    rw [List.pairwise_map]
    exact hr.imp (fun h => by simpa using before_le h)
  exact h1.trans (List.mergeSort_of_pairwise h2)
theorem keys_vals {α : Type} (M : List (ByteArray × α)) : (M.map fun p => p.1.data.toList).map encStr = encs Value.string (M.map fun p => p.1) := by
  unfold encs
  rw [List.map_map, List.map_map]
  refine List.map_congr_left fun p _ => ?_
  show Value.string ⟨⟨p.1.data.toList⟩⟩ = Value.string p.1
  congr 1
theorem law : Keyed Tryz.prog 9 := string_keyed Tryz.underlying9
theorem infoS : (Tryz.prog.info? 9).map (fun i => (i.zero, i.size, i.bytes)) = some (some (.string ⟨#[]⟩), 1, 16) := by kernel_rfl

set_option maxRecDepth 100000 in
set_option maxHeartbeats 1000000 in
theorem counter_some {α : Type} {ve : α → Value} {w : World} {bs off b n : Nat} {M : List (ByteArray × α)} {sz : Int} (h : TabAt ks ve Tryz.prog 9 w bs off (some b) n M sz) (hn : n * 16 ≤ 140737488355328) :
    Calls Tryz.prog 33 #[.pointer (some ⟨bs, off, none⟩)] w fun e w' => ∃ v, e = .returned v ∧ Kd.R Kd.string 9 w' w.heap.size (fun _ => True) v (M.map fun p => p.1) ∧ Below w.heap.size w w' := by
  obtain ⟨i0, hi, hz0, hz1, hz2⟩ := info_parts infoS
  have c0 := h.c0
  have hrise := hid (h.map.rising law)
  have hown : w.ownsMap Tryz.prog 9 heldR b n (dat ks ve M) := h.map
  have hsz : Maps.size (dat ks ve M) ≤ n := hown.size_le
  have hbl := hown.lt
  have hE : ∀ ss : List (List UInt8), ss.Perm (strKeys (dat ks ve M)) → (ss.mergeSort fun x y => decide (x ≤ y)).map encStr = encs Value.string (M.map fun p => p.1) := fun ss hp => by
    rw [strKeys_dat] at hp
    rw [keys_sort hrise.out hp, keys_vals]
  have HE := hid hE
  clear hE
  generalize hD : dat ks ve M = D0 at *
  clear hD
  clear h
  go_enter Tryz.func33, Tryz.ntmps33
  go_wp2_with (at_range; refine wpList_range_own _ rfl _ 55 rfl 9 2 law Tryz.underlying55 _ b n _ rfl hown ?_; intro w0 hrg0 hg0 hs0)
  go_frame
  go_loopw [3] (fun v wr => ∃ (left : Lit → Bool) (cnt : Nat) (ss : List (List UInt8)), wr.ranges Tryz.prog 9 heldR b w.heap.size n D0 left cnt ∧ ss.length + cnt ≤ Maps.size D0 ∧
      wr.ownsRow w.heap.size 9 1 v ss.length (ss.map encStr) ∧ Collected D0 left ss ∧ Below w.heap.size w wr)
    (fun _ wr => wr.rangeLeft b w.heap.size)
  case atStart => exact ⟨_, _, [], hrg0, by simp, World.ownsRow_nil _ _ _ _, Collected.start D0, (Below.refl _ _).grown hg0 (Nat.le_refl _) (fun j hj => by cases hj)⟩
  case round =>
    obtain ⟨left, cnt, ss, hrg, hcs, hrow, hC, hnx⟩ := hrel
    go_wp2_with (at_next; refine wpList_next_ranges _ rfl _ rfl 9 law heldR encStr (fun c : Value => c) (fun key kl hk => by obtain ⟨x, hx, _⟩ := Maps.keyOf_str Tryz.underlying9 hk; exact ⟨x, hx⟩) (fun v y hv => ⟨v, rfl⟩) b w.heap.size n _ _ _ rfl hrg ?_ ?_)
    · intro hc0 hl0
      have hP := hC.perm hown law Tryz.underlying9 hl0
      rcases hrow.2 with ⟨hnil, hlen0⟩ | ⟨g, cap, cur, hv, hbase, hb, h1, h2, h3, h4⟩
      · subst hnil
        have hss : ss = [] := List.eq_nil_of_length_eq_zero (by simpa using hlen0)
        subst hss
        have hE0 : encs Value.string (M.map fun p => p.1) = [] := by rw [← HE.out [] hP]; simp
        have hM0 : (M.map fun p => p.1) = [] := by simpa [encs] using hE0
        go_wp2_with (go_at_call 71; refine (Tryz.slices_Sort_string_none _ _ _).mono ?_; rintro e w' ⟨rfl, rfl⟩)
        go_ret
        exact ⟨_, rfl, by rw [hM0]; exact Kd.R_nil _ _ _ _ _, hnx⟩
      · subst hv
        have hH : Holds encStr wr g 0 ss.toArray := holds_of_block hb (by simpa using h4)
        have hgl : g < wr.heap.size := (Array.getElem?_eq_some_iff.1 hb).1
        have hc := hid (Tryz.slices_Sort_string g 0 cap ss wr hH hgl (by omega))
        go_wp2_with (go_at_call 71; refine hc.out.mono ?_; rintro e w' ⟨rfl, nn, os, rfl⟩)
        go_ret
        have hL : ss.length = (M.map fun p => p.1).length := by
          have e := congrArg List.length (HE.out ss hP)
          simpa [encs] using e
        have hO := ownsRow_sorted (ss := ss) (ts := ss.mergeSort fun x y => decide (x ≤ y)) (n := nn) (os := os) (by simp) hbase hb h1 h2 h3
        rw [HE.out ss hP] at hO
        exact ⟨_, rfl, Kd.R_of_own (by rw [← hL]; exact hO) (fun _ _ => trivial), hnx.grown (grownBy_sorted _) hnx.size (fun j hj => by cases hj; exact hbase)⟩
    · intro x c kl yd yp w2 cnt2 hkey hlk hv hat hrg2 hlt hg2 hs2 hen
      obtain ⟨x', ex, rfl, _⟩ := Maps.keyOf_str Tryz.underlying9 hkey
      obtain rfl : x = x' := encStr_inj ex
      have hrow2 := hrow.kept hg2 (Or.inr (row_ne_iter hrow hrg).symm)
      clear hs2
      go_wp2_with (at_builtin; refine wpList_append_own _ rfl _ _ 81 rfl w.heap.size 9 i0 (.string ⟨#[]⟩) 1 16 Tryz.underlying81 hi hz0 hz1 hz2 rfl (by decide) _ _ _ rfl (hrow2.alloc _) ⟨w2.heap.size, 0, none⟩ 1 1 [encStr x] rfl rfl (cell_one_new _ _ _) (by simp [Value.oneCell', encStr]) (by unfold maxLen at *; omega) (by omega) (by have := hnx.size; have := hg2.size; simp; omega) ?_; intro v' w3 hown' hg3 hnil3; go_frame)
      have hrg3 := (hrg2.alloc _).kept hg3 (row_ne_low hrow2 hbl) (row_ne_iter hrow2 hrg2)
      go_roundw
      case rel =>
        refine ⟨_, cnt2, ss ++ [x], hrg3, by simp; omega, by simpa using hown', hC.step hlk hat, ?_⟩
        exact ((hnx.grown hg2 hnx.size (fun j hj => by cases hj; exact Nat.le_refl _)).alloc (by have := hnx.size; have := hg2.size; omega) _).grown hg3 (by have := hnx.size; have := hg2.size; simp; omega) (fun j hj => (hrow2.lt j hj).1)
      case measure => rw [hrg3.left_eq, hrg.left_eq]; exact hlt
set_option maxRecDepth 100000 in
theorem counter_nilmap {w : World} {bs off : Nat} (c0 : w.cell? ⟨bs, off, none⟩ = some (.map none)) :
    Calls Tryz.prog 33 #[.pointer (some ⟨bs, off, none⟩)] w fun e w' => e = .returned (.slice none 0 0) ∧ Below w.heap.size w w' := by
  have hrg := run_range_nilMap (P := Tryz.prog) w 55 9 2 Tryz.underlying55
  have hnx : ∀ ty, (Instr.next (.pointer (some ⟨w.heap.size, 0, none⟩)) false ty).run Tryz.prog (w.alloc (.mapIter none 0 #[] 0)) = _ := fun ty => run_next_nilMap _ ty 0 0 #[]
  go_enter Tryz.func33, Tryz.ntmps33
  go_wp2_with fail
  refine wp_loop_rounds 1 ?_
  rw [rounds_succ]
  go_wp2_with (go_at_call 71; refine (Tryz.slices_Sort_string_none _ _ _).mono ?_; rintro e w' ⟨rfl, rfl⟩)
  go_ret
  exact ⟨rfl, (Below.refl _ _).alloc (Nat.le_refl _) _⟩
theorem counter_nil (w : World) : Calls Tryz.prog 33 #[.pointer none] w fun e w' => e = .returned (.slice none 0 0) ∧ w' = w := by
  go_enter Tryz.func33, Tryz.ntmps33
  go_wp2
  go_ret
  exact ⟨rfl, rfl⟩
/-- A book that is there: its names, rising, in a slice of its own. -/
theorem counter_any {α : Type} {ve : α → Value} {w : World} {bs off n : Nat} {mb : Option Nat} {M : List (ByteArray × α)} {sz : Int} (h : TabAt ks ve Tryz.prog 9 w bs off mb n M sz) (hn : n * 16 ≤ 140737488355328) :
    Calls Tryz.prog 33 #[.pointer (some ⟨bs, off, none⟩)] w fun e w' => ∃ v, e = .returned v ∧ Kd.R Kd.string 9 w' w.heap.size (fun _ => True) v (M.map fun p => p.1) ∧ Below w.heap.size w w' := by
  cases mb with
  | some b => exact counter_some h hn
  | none =>
    have hM : M = [] := h.map
    subst hM
    exact (counter_nilmap h.c0).mono fun e w' ⟨he, hb⟩ => ⟨_, he, Kd.R_nil _ _ _ _ _, hb⟩

set_option maxRecDepth 100000 in
set_option maxHeartbeats 1000000 in
theorem kv_some {α : Type} {ve : α → Value} {w : World} {bs off b n : Nat} {M : List (ByteArray × α)} {sz : Int} (h : TabAt ks ve Tryz.prog 9 w bs off (some b) n M sz) (hn : n * 16 ≤ 140737488355328) :
    Calls Tryz.prog 29 #[.pointer (some ⟨bs, off, none⟩)] w fun e w' => ∃ v, e = .returned v ∧ Kd.R Kd.string 9 w' w.heap.size (fun _ => True) v (M.map fun p => p.1) ∧ Below w.heap.size w w' := by
  obtain ⟨i0, hi, hz0, hz1, hz2⟩ := info_parts infoS
  have c0 := h.c0
  have hrise := hid (h.map.rising law)
  have hown : w.ownsMap Tryz.prog 9 heldR b n (dat ks ve M) := h.map
  have hsz : Maps.size (dat ks ve M) ≤ n := hown.size_le
  have hbl := hown.lt
  have hE : ∀ ss : List (List UInt8), ss.Perm (strKeys (dat ks ve M)) → (ss.mergeSort fun x y => decide (x ≤ y)).map encStr = encs Value.string (M.map fun p => p.1) := fun ss hp => by
    rw [strKeys_dat] at hp
    rw [keys_sort hrise.out hp, keys_vals]
  have HE := hid hE
  clear hE
  generalize hD : dat ks ve M = D0 at *
  clear hD
  clear h
  go_enter Tryz.func29, Tryz.ntmps29
  go_wp2_with (at_range; refine wpList_range_own _ rfl _ 52 rfl 9 135 law Tryz.underlying52 _ b n _ rfl hown ?_; intro w0 hrg0 hg0 hs0)
  go_frame
  go_loopw [3] (fun v wr => ∃ (left : Lit → Bool) (cnt : Nat) (ss : List (List UInt8)), wr.ranges Tryz.prog 9 heldR b w.heap.size n D0 left cnt ∧ ss.length + cnt ≤ Maps.size D0 ∧
      wr.ownsRow w.heap.size 9 1 v ss.length (ss.map encStr) ∧ Collected D0 left ss ∧ Below w.heap.size w wr)
    (fun _ wr => wr.rangeLeft b w.heap.size)
  case atStart => exact ⟨_, _, [], hrg0, by simp, World.ownsRow_nil _ _ _ _, Collected.start D0, (Below.refl _ _).grown hg0 (Nat.le_refl _) (fun j hj => by cases hj)⟩
  case round =>
    obtain ⟨left, cnt, ss, hrg, hcs, hrow, hC, hnx⟩ := hrel
    go_wp2_with (at_next; refine wpList_next_ranges _ rfl _ rfl 9 law heldR encStr (fun c : Value => c) (fun key kl hk => by obtain ⟨x, hx, _⟩ := Maps.keyOf_str Tryz.underlying9 hk; exact ⟨x, hx⟩) (fun v y hv => ⟨v, rfl⟩) b w.heap.size n _ _ _ rfl hrg ?_ ?_)
    · intro hc0 hl0
      have hP := hC.perm hown law Tryz.underlying9 hl0
      rcases hrow.2 with ⟨hnil, hlen0⟩ | ⟨g, cap, cur, hv, hbase, hb, h1, h2, h3, h4⟩
      · subst hnil
        have hss : ss = [] := List.eq_nil_of_length_eq_zero (by simpa using hlen0)
        subst hss
        have hE0 : encs Value.string (M.map fun p => p.1) = [] := by rw [← HE.out [] hP]; simp
        have hM0 : (M.map fun p => p.1) = [] := by simpa [encs] using hE0
        go_wp2_with (go_at_call 71; refine (Tryz.slices_Sort_string_none _ _ _).mono ?_; rintro e w' ⟨rfl, rfl⟩)
        go_ret
        exact ⟨_, rfl, by rw [hM0]; exact Kd.R_nil _ _ _ _ _, hnx⟩
      · subst hv
        have hH : Holds encStr wr g 0 ss.toArray := holds_of_block hb (by simpa using h4)
        have hgl : g < wr.heap.size := (Array.getElem?_eq_some_iff.1 hb).1
        have hc := hid (Tryz.slices_Sort_string g 0 cap ss wr hH hgl (by omega))
        go_wp2_with (go_at_call 71; refine hc.out.mono ?_; rintro e w' ⟨rfl, nn, os, rfl⟩)
        go_ret
        have hL : ss.length = (M.map fun p => p.1).length := by
          have e := congrArg List.length (HE.out ss hP)
          simpa [encs] using e
        have hO := ownsRow_sorted (ss := ss) (ts := ss.mergeSort fun x y => decide (x ≤ y)) (n := nn) (os := os) (by simp) hbase hb h1 h2 h3
        rw [HE.out ss hP] at hO
        exact ⟨_, rfl, Kd.R_of_own (by rw [← hL]; exact hO) (fun _ _ => trivial), hnx.grown (grownBy_sorted _) hnx.size (fun j hj => by cases hj; exact hbase)⟩
    · intro x c kl yd yp w2 cnt2 hkey hlk hv hat hrg2 hlt hg2 hs2 hen
      obtain ⟨x', ex, rfl, _⟩ := Maps.keyOf_str Tryz.underlying9 hkey
      obtain rfl : x = x' := encStr_inj ex
      have hrow2 := hrow.kept hg2 (Or.inr (row_ne_iter hrow hrg).symm)
      clear hs2
      go_wp2_with (at_builtin; refine wpList_append_own _ rfl _ _ 81 rfl w.heap.size 9 i0 (.string ⟨#[]⟩) 1 16 Tryz.underlying81 hi hz0 hz1 hz2 rfl (by decide) _ _ _ rfl (hrow2.alloc _) ⟨w2.heap.size, 0, none⟩ 1 1 [encStr x] rfl rfl (cell_one_new _ _ _) (by simp [Value.oneCell', encStr]) (by unfold maxLen at *; omega) (by omega) (by have := hnx.size; have := hg2.size; simp; omega) ?_; intro v' w3 hown' hg3 hnil3; go_frame)
      have hrg3 := (hrg2.alloc _).kept hg3 (row_ne_low hrow2 hbl) (row_ne_iter hrow2 hrg2)
      go_roundw
      case rel =>
        refine ⟨_, cnt2, ss ++ [x], hrg3, by simp; omega, by simpa using hown', hC.step hlk hat, ?_⟩
        exact ((hnx.grown hg2 hnx.size (fun j hj => by cases hj; exact Nat.le_refl _)).alloc (by have := hnx.size; have := hg2.size; omega) _).grown hg3 (by have := hnx.size; have := hg2.size; simp; omega) (fun j hj => (hrow2.lt j hj).1)
      case measure => rw [hrg3.left_eq, hrg.left_eq]; exact hlt
set_option maxRecDepth 100000 in
theorem kv_nilmap {w : World} {bs off : Nat} (c0 : w.cell? ⟨bs, off, none⟩ = some (.map none)) :
    Calls Tryz.prog 29 #[.pointer (some ⟨bs, off, none⟩)] w fun e w' => e = .returned (.slice none 0 0) ∧ Below w.heap.size w w' := by
  have hrg := run_range_nilMap (P := Tryz.prog) w 52 9 135 Tryz.underlying52
  have hnx : ∀ ty, (Instr.next (.pointer (some ⟨w.heap.size, 0, none⟩)) false ty).run Tryz.prog (w.alloc (.mapIter none 0 #[] 0)) = _ := fun ty => run_next_nilMap _ ty 0 0 #[]
  go_enter Tryz.func29, Tryz.ntmps29
  go_wp2_with fail
  refine wp_loop_rounds 1 ?_
  rw [rounds_succ]
  go_wp2_with (go_at_call 71; refine (Tryz.slices_Sort_string_none _ _ _).mono ?_; rintro e w' ⟨rfl, rfl⟩)
  go_ret
  exact ⟨rfl, (Below.refl _ _).alloc (Nat.le_refl _) _⟩
theorem kv_nil (w : World) : Calls Tryz.prog 29 #[.pointer none] w fun e w' => e = .returned (.slice none 0 0) ∧ w' = w := by
  go_enter Tryz.func29, Tryz.ntmps29
  go_wp2
  go_ret
  exact ⟨rfl, rfl⟩
/-- A book that is there: its names, rising, in a slice of its own. -/
theorem kv_any {α : Type} {ve : α → Value} {w : World} {bs off n : Nat} {mb : Option Nat} {M : List (ByteArray × α)} {sz : Int} (h : TabAt ks ve Tryz.prog 9 w bs off mb n M sz) (hn : n * 16 ≤ 140737488355328) :
    Calls Tryz.prog 29 #[.pointer (some ⟨bs, off, none⟩)] w fun e w' => ∃ v, e = .returned v ∧ Kd.R Kd.string 9 w' w.heap.size (fun _ => True) v (M.map fun p => p.1) ∧ Below w.heap.size w w' := by
  cases mb with
  | some b => exact kv_some h hn
  | none =>
    have hM : M = [] := h.map
    subst hM
    exact (kv_nilmap h.c0).mono fun e w' ⟨he, hb⟩ => ⟨_, he, Kd.R_nil _ _ _ _ _, hb⟩

set_option maxRecDepth 100000 in
set_option maxHeartbeats 1000000 in
theorem fifo_some {α : Type} {ve : α → Value} {w : World} {bs off b n : Nat} {M : List (ByteArray × α)} {sz : Int} (h : TabAt ks ve Tryz.prog 9 w bs off (some b) n M sz) (hn : n * 16 ≤ 140737488355328) :
    Calls Tryz.prog 37 #[.pointer (some ⟨bs, off, none⟩)] w fun e w' => ∃ v, e = .returned v ∧ Kd.R Kd.string 9 w' w.heap.size (fun _ => True) v (M.map fun p => p.1) ∧ Below w.heap.size w w' := by
  obtain ⟨i0, hi, hz0, hz1, hz2⟩ := info_parts infoS
  have c0 := h.c0
  have hrise := hid (h.map.rising law)
  have hown : w.ownsMap Tryz.prog 9 heldR b n (dat ks ve M) := h.map
  have hsz : Maps.size (dat ks ve M) ≤ n := hown.size_le
  have hbl := hown.lt
  have hE : ∀ ss : List (List UInt8), ss.Perm (strKeys (dat ks ve M)) → (ss.mergeSort fun x y => decide (x ≤ y)).map encStr = encs Value.string (M.map fun p => p.1) := fun ss hp => by
    rw [strKeys_dat] at hp
    rw [keys_sort hrise.out hp, keys_vals]
  have HE := hid hE
  clear hE
  generalize hD : dat ks ve M = D0 at *
  clear hD
  clear h
  go_enter Tryz.func37, Tryz.ntmps37
  go_wp2_with (at_range; refine wpList_range_own _ rfl _ 58 rfl 9 139 law Tryz.underlying58 _ b n _ rfl hown ?_; intro w0 hrg0 hg0 hs0)
  go_frame
  go_loopw [3] (fun v wr => ∃ (left : Lit → Bool) (cnt : Nat) (ss : List (List UInt8)), wr.ranges Tryz.prog 9 heldR b w.heap.size n D0 left cnt ∧ ss.length + cnt ≤ Maps.size D0 ∧
      wr.ownsRow w.heap.size 9 1 v ss.length (ss.map encStr) ∧ Collected D0 left ss ∧ Below w.heap.size w wr)
    (fun _ wr => wr.rangeLeft b w.heap.size)
  case atStart => exact ⟨_, _, [], hrg0, by simp, World.ownsRow_nil _ _ _ _, Collected.start D0, (Below.refl _ _).grown hg0 (Nat.le_refl _) (fun j hj => by cases hj)⟩
  case round =>
    obtain ⟨left, cnt, ss, hrg, hcs, hrow, hC, hnx⟩ := hrel
    go_wp2_with (at_next; refine wpList_next_ranges _ rfl _ rfl 9 law heldR encStr (fun c : Value => c) (fun key kl hk => by obtain ⟨x, hx, _⟩ := Maps.keyOf_str Tryz.underlying9 hk; exact ⟨x, hx⟩) (fun v y hv => ⟨v, rfl⟩) b w.heap.size n _ _ _ rfl hrg ?_ ?_)
    · intro hc0 hl0
      have hP := hC.perm hown law Tryz.underlying9 hl0
      rcases hrow.2 with ⟨hnil, hlen0⟩ | ⟨g, cap, cur, hv, hbase, hb, h1, h2, h3, h4⟩
      · subst hnil
        have hss : ss = [] := List.eq_nil_of_length_eq_zero (by simpa using hlen0)
        subst hss
        have hE0 : encs Value.string (M.map fun p => p.1) = [] := by rw [← HE.out [] hP]; simp
        have hM0 : (M.map fun p => p.1) = [] := by simpa [encs] using hE0
        go_wp2_with (go_at_call 71; refine (Tryz.slices_Sort_string_none _ _ _).mono ?_; rintro e w' ⟨rfl, rfl⟩)
        go_ret
        exact ⟨_, rfl, by rw [hM0]; exact Kd.R_nil _ _ _ _ _, hnx⟩
      · subst hv
        have hH : Holds encStr wr g 0 ss.toArray := holds_of_block hb (by simpa using h4)
        have hgl : g < wr.heap.size := (Array.getElem?_eq_some_iff.1 hb).1
        have hc := hid (Tryz.slices_Sort_string g 0 cap ss wr hH hgl (by omega))
        go_wp2_with (go_at_call 71; refine hc.out.mono ?_; rintro e w' ⟨rfl, nn, os, rfl⟩)
        go_ret
        have hL : ss.length = (M.map fun p => p.1).length := by
          have e := congrArg List.length (HE.out ss hP)
          simpa [encs] using e
        have hO := ownsRow_sorted (ss := ss) (ts := ss.mergeSort fun x y => decide (x ≤ y)) (n := nn) (os := os) (by simp) hbase hb h1 h2 h3
        rw [HE.out ss hP] at hO
        exact ⟨_, rfl, Kd.R_of_own (by rw [← hL]; exact hO) (fun _ _ => trivial), hnx.grown (grownBy_sorted _) hnx.size (fun j hj => by cases hj; exact hbase)⟩
    · intro x c kl yd yp w2 cnt2 hkey hlk hv hat hrg2 hlt hg2 hs2 hen
      obtain ⟨x', ex, rfl, _⟩ := Maps.keyOf_str Tryz.underlying9 hkey
      obtain rfl : x = x' := encStr_inj ex
      have hrow2 := hrow.kept hg2 (Or.inr (row_ne_iter hrow hrg).symm)
      clear hs2
      go_wp2_with (at_builtin; refine wpList_append_own _ rfl _ _ 81 rfl w.heap.size 9 i0 (.string ⟨#[]⟩) 1 16 Tryz.underlying81 hi hz0 hz1 hz2 rfl (by decide) _ _ _ rfl (hrow2.alloc _) ⟨w2.heap.size, 0, none⟩ 1 1 [encStr x] rfl rfl (cell_one_new _ _ _) (by simp [Value.oneCell', encStr]) (by unfold maxLen at *; omega) (by omega) (by have := hnx.size; have := hg2.size; simp; omega) ?_; intro v' w3 hown' hg3 hnil3; go_frame)
      have hrg3 := (hrg2.alloc _).kept hg3 (row_ne_low hrow2 hbl) (row_ne_iter hrow2 hrg2)
      go_roundw
      case rel =>
        refine ⟨_, cnt2, ss ++ [x], hrg3, by simp; omega, by simpa using hown', hC.step hlk hat, ?_⟩
        exact ((hnx.grown hg2 hnx.size (fun j hj => by cases hj; exact Nat.le_refl _)).alloc (by have := hnx.size; have := hg2.size; omega) _).grown hg3 (by have := hnx.size; have := hg2.size; simp; omega) (fun j hj => (hrow2.lt j hj).1)
      case measure => rw [hrg3.left_eq, hrg.left_eq]; exact hlt
set_option maxRecDepth 100000 in
theorem fifo_nilmap {w : World} {bs off : Nat} (c0 : w.cell? ⟨bs, off, none⟩ = some (.map none)) :
    Calls Tryz.prog 37 #[.pointer (some ⟨bs, off, none⟩)] w fun e w' => e = .returned (.slice none 0 0) ∧ Below w.heap.size w w' := by
  have hrg := run_range_nilMap (P := Tryz.prog) w 58 9 139 Tryz.underlying58
  have hnx : ∀ ty, (Instr.next (.pointer (some ⟨w.heap.size, 0, none⟩)) false ty).run Tryz.prog (w.alloc (.mapIter none 0 #[] 0)) = _ := fun ty => run_next_nilMap _ ty 0 0 #[]
  go_enter Tryz.func37, Tryz.ntmps37
  go_wp2_with fail
  refine wp_loop_rounds 1 ?_
  rw [rounds_succ]
  go_wp2_with (go_at_call 71; refine (Tryz.slices_Sort_string_none _ _ _).mono ?_; rintro e w' ⟨rfl, rfl⟩)
  go_ret
  exact ⟨rfl, (Below.refl _ _).alloc (Nat.le_refl _) _⟩
theorem fifo_nil (w : World) : Calls Tryz.prog 37 #[.pointer none] w fun e w' => e = .returned (.slice none 0 0) ∧ w' = w := by
  go_enter Tryz.func37, Tryz.ntmps37
  go_wp2
  go_ret
  exact ⟨rfl, rfl⟩
/-- A book that is there: its names, rising, in a slice of its own. -/
theorem fifo_any {α : Type} {ve : α → Value} {w : World} {bs off n : Nat} {mb : Option Nat} {M : List (ByteArray × α)} {sz : Int} (h : TabAt ks ve Tryz.prog 9 w bs off mb n M sz) (hn : n * 16 ≤ 140737488355328) :
    Calls Tryz.prog 37 #[.pointer (some ⟨bs, off, none⟩)] w fun e w' => ∃ v, e = .returned v ∧ Kd.R Kd.string 9 w' w.heap.size (fun _ => True) v (M.map fun p => p.1) ∧ Below w.heap.size w w' := by
  cases mb with
  | some b => exact fifo_some h hn
  | none =>
    have hM : M = [] := h.map
    subst hM
    exact (fifo_nilmap h.c0).mono fun e w' ⟨he, hb⟩ => ⟨_, he, Kd.R_nil _ _ _ _ _, hb⟩
end Go.Proofs.YtnccofpkanhfhaaGreatDoor.Tab
