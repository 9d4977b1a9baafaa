/-
  lease.Leases.Names, Expire; leases that are not there.
-/
import Derived.Test.YtnccofpkanhfhaaGreatDoorLease
import Derived.Test.YtnccofpkanhfhaaGreatDoorPure
set_option linter.unusedVariables false
set_option linter.unusedSimpArgs false
namespace Go.Proofs.YtnccofpkanhfhaaGreatDoor.Lease
open Go.RowKit Go.Maps Go.WideMaps Go.Sort Go.Proofs.YtnccofpkanhfhaaGreatDoor.Tab Go.Proofs.YtnccofpkanhfhaaGreatDoor.Pure Go.Proofs.YtnccofpkanhfhaaGreatDoorW.PrintWords
attribute [local go_sem ↓] Go.wp_at_zero Go.wp_at_succ
section
variable {w : World} {bs off : Nat} {n : Nat} {M : Tabl} {sz : Int}
set_option maxHeartbeats 1000000 in
theorem Names_some {b : Nat} (h : Leases w bs off (some b) n M sz) (hn : n * 16 ≤ 140737488355328) :
    Calls Tryz.prog 41 #[.pointer (some ⟨bs, off, none⟩)] w fun e w' => ∃ v, e = .returned v ∧ Kd.R Kd.string 9 w' w.heap.size (fun _ => True) v (M.map fun p => p.1) ∧ Below w.heap.size w w' := by
  refine (callsIn_wide (n := 6)).1 ?_
  have c0 := h.c0
  have hrise := hid (h.map.rising law)
  have hown : w.ownsMap Tryz.prog 9 heldR b n (dat ks vh M) := h.map
  have hsz : Maps.size (dat ks vh M) ≤ n := hown.size_le
  have hE := hid (fun (ss : List (List UInt8)) (hp : ss.Perm (strKeys (dat ks vh M))) => (show (ss.mergeSort fun x y => decide (x ≤ y)).map encStr = encs Value.string (M.map fun p => p.1) by
    rw [strKeys_dat] at hp
    rw [keys_sort hrise.out hp, keys_vals]))
  have cS := hid (Tryz.slices_Sorted_keys_76_77 b n (dat ks vh M) heldR w hown (by unfold maxLen; omega) (by omega))
  have cK := hid Tryz.maps_Keys_77
  generalize dat ks vh M = D0 at *
  clear h
  have hfK : Fence.wide.fn 77 := trivial
  have hfS : Fence.wide.fn 76 := trivial
  refine callsIn_of_wp Tryz.func41 rfl trivial ?_ rfl
  simp only [Tryz.ntmps41, List.size_toArray, List.length_cons, List.length_nil, Nat.reduceAdd, Nat.reduceSub, Array.replicate_succ, Array.replicate_zero, List.push_toArray, List.append_toArray, List.nil_append, List.cons_append]
  gi_wp2_with (first
    | (gi_at_call 77; refine (cK.out _ _).mono ?_; rintro e w' ⟨rfl, rfl⟩)
    | (gi_at_call 76; refine cS.out.mono ?_; rintro e w' ⟨v, ss, rfl, hS, hrow, hnil, hb⟩))
  go_ret
  have hL : ss.length = (M.map fun p => p.1).length := by
    have e := congrArg List.length (hE.out ss hS)
    simpa [encs] using e
  rw [hE.out ss hS, hL] at hrow
  exact ⟨v, rfl, Kd.R_lower (Kd.R_of_own hrow (fun _ _ => trivial)) (by simp), ((Below.refl _ w).alloc (Nat.le_refl _) _).trans (hb.mono (by simp))⟩
set_option maxHeartbeats 1000000 in
theorem Names_nilmap (h : Leases w bs off none n M sz) :
    Calls Tryz.prog 41 #[.pointer (some ⟨bs, off, none⟩)] w fun e w' => ∃ v, e = .returned v ∧ Kd.R Kd.string 9 w' w.heap.size (fun _ => True) v (M.map fun p => p.1) ∧ Below w.heap.size w w' := by
  refine (callsIn_wide (n := 6)).1 ?_
  have c0 := h.c0
  have hM : M = [] := h.map
  have cS := hid (Tryz.slices_Sorted_keys_nil_76_77 w)
  have cK := hid Tryz.maps_Keys_77
  clear h
  have hfK : Fence.wide.fn 77 := trivial
  have hfS : Fence.wide.fn 76 := trivial
  refine callsIn_of_wp Tryz.func41 rfl trivial ?_ rfl
  simp only [Tryz.ntmps41, List.size_toArray, List.length_cons, List.length_nil, Nat.reduceAdd, Nat.reduceSub, Array.replicate_succ, Array.replicate_zero, List.push_toArray, List.append_toArray, List.nil_append, List.cons_append]
  gi_wp2_with (first
    | (gi_at_call 77; refine (cK.out _ _).mono ?_; rintro e w' ⟨rfl, rfl⟩)
    | (gi_at_call 76; refine cS.out.mono ?_; rintro e w' ⟨v, ss, rfl, hS, hrow, hnil, hb⟩))
  go_ret
  obtain rfl := hnil.2 hS
  subst hM
  exact ⟨_, rfl, Kd.R_nil _ _ _ _ _, ((Below.refl _ w).alloc (Nat.le_refl _) _).trans (hb.mono (by simp))⟩
theorem Names_ {mb : Option Nat} (h : Leases w bs off mb n M sz) (hn : n * 16 ≤ 140737488355328) :
    Calls Tryz.prog 41 #[.pointer (some ⟨bs, off, none⟩)] w fun e w' => ∃ v, e = .returned v ∧ Kd.R Kd.string 9 w' w.heap.size (fun _ => True) v (M.map fun p => p.1) ∧ Below w.heap.size w w' := by
  cases mb with
  | some b => exact Names_some h hn
  | none => exact Names_nilmap h
end
def size (M : Tabl) : Int := wt (fun p => 24 + p.1.size + p.2.1.size) M
open Classical in
/-- Leases whose time is over at 'now', gone, if their names are among ns. -/
noncomputable def without (now : Int) (ns : List ByteArray) (M : Tabl) : Tabl := M.filter fun p => !decide (p.1 ∈ ns ∧ p.2.2 ≤ now)
/-! ### plain -/
theorem size_nonneg (M : Tabl) : 0 ≤ size M := by
  unfold size wt
  induction M with
  | nil => exact Int.le_refl _
  | cons p M ih => simp only [List.map_cons, List.sum_cons]; omega
theorem size_filter (f : ByteArray × (ByteArray × Int) → Bool) (M : Tabl) : size (M.filter f) ≤ size M := by
  unfold size wt
  induction M with
  | nil => exact Int.le_refl _
  | cons p M ih =>
    rw [List.filter_cons]
    split <;> simp only [List.map_cons, List.sum_cons] <;> omega
theorem size_tput {M : Tabl} (h : Rising ks M) (s v : ByteArray) (t : Int) (hgo : tlook ks M s = none ∨ (val M s).1 = v) : size (tput ks M s (v, t)) = size M + grows M s v := by
  unfold size grows
  rw [wt_tput]
  cases e : tlook ks M s with
  | none => rw [tdel_none e]; simp; omega
  | some a =>
    have := wt_tdel (fun p : ByteArray × (ByteArray × Int) => 24 + (p.1.size : Int) + (p.2.1.size : Int)) h e
    have hv : a.1 = v := by
      rcases hgo with h | h
      · rw [h] at e; cases e
      · unfold val at h; rw [e] at h; exact h
    rw [hv] at this
    simp only [Option.isSome_some, if_true] at this ⊢
    omega
theorem size_tdel {M : Tabl} (h : Rising ks M) {s : ByteArray} {a : ByteArray × Int} (e : tlook ks M s = some a) : size (tdel ks M s) = size M - (24 + (s.size : Int) + (a.1.size : Int)) := by
  have := wt_tdel (fun p : ByteArray × (ByteArray × Int) => 24 + (p.1.size : Int) + (p.2.1.size : Int)) h e
  unfold size
  simp only at this
  omega
theorem rising_filter {M : Tabl} (h : Rising ks M) (f : ByteArray × (ByteArray × Int) → Bool) : Rising ks (M.filter f) := List.Pairwise.filter _ h
theorem key_one {M : Tabl} (h : Rising ks M) {p q : ByteArray × (ByteArray × Int)} (hp : p ∈ M) (hq : q ∈ M) (e : p.1 = q.1) : p = q := by
  obtain ⟨i, hi, rfl⟩ := List.mem_iff_getElem.1 hp
  obtain ⟨j, hj, rfl⟩ := List.mem_iff_getElem.1 hq
  have hij := List.pairwise_iff_getElem.1 h
  rcases Nat.lt_trichotomy i j with h1 | h1 | h1
  · have := (lt_before _ _).2 (hij i j hi hj h1)
    rw [e] at this
    exact absurd this (lt_irrefl _)
  · subst h1; rfl
  · have := (lt_before _ _).2 (hij j i hj hi h1)
    rw [e] at this
    exact absurd this (lt_irrefl _)
theorem tlook_mem {M : Tabl} (h : Rising ks M) {p : ByteArray × (ByteArray × Int)} (hp : p ∈ M) : tlook ks M p.1 = some p.2 := by
  have h1 : (tlook ks M p.1).isSome = true := (look_some_iff M p.1).2 (List.mem_map.2 ⟨p, hp, rfl⟩)
  unfold tlook at h1 ⊢
  cases e : M.find? fun q => (ks q.1).sameKey (ks p.1) with
  | none => rw [e] at h1; cases h1
  | some q =>
    have h2 := List.find?_some e
    have h3 := key_one h (List.mem_of_find?_eq_some e) hp ((ks_one _ _).1 h2)
    rw [h3]; rfl
theorem without_nil (now : Int) (M : Tabl) : without now [] M = M := by
  unfold without
  rw [List.filter_eq_self]
  intro p _
  simp
open Classical in
theorem without_all (now : Int) (M : Tabl) : without now (M.map fun p => p.1) M = M.filter fun p => decide (now < p.2.2) := by
  unfold without
  refine List.filter_congr fun p hp => ?_
  have : p.1 ∈ M.map fun p => p.1 := List.mem_map.2 ⟨p, hp, rfl⟩
  by_cases h : p.2.2 ≤ now
  · rw [decide_eq_true ⟨this, h⟩, decide_eq_false (by omega)]; rfl
  · rw [decide_eq_false (fun h' => h h'.2), decide_eq_true (by omega)]; rfl
theorem take_key (M : Tabl) (j : Nat) (hj : j < M.length) : (M.map fun p => p.1).take (j + 1) = (M.map fun p => p.1).take j ++ [M[j].1] := by
  rw [List.take_succ_eq_append_getElem (by rw [List.length_map]; exact hj)]
  simp
open Classical in
theorem without_keep {M : Tabl} (h : Rising ks M) (now : Int) (j : Nat) (hj : j < M.length) (ht : ¬ M[j].2.2 ≤ now) : without now ((M.map fun p => p.1).take (j + 1)) M = without now ((M.map fun p => p.1).take j) M := by
  unfold without
  refine List.filter_congr fun p hp => ?_
  rw [take_key M j hj]
  by_cases e : p.1 = M[j].1
  · have := key_one h hp (List.getElem_mem hj) e
    rw [this, decide_eq_false (fun h' => ht h'.2), decide_eq_false (fun h' => ht h'.2)]
  · rw [decide_eq_decide.2 (show (p.1 ∈ (M.map fun p => p.1).take j ++ [M[j].1] ∧ p.2.2 ≤ now) ↔ (p.1 ∈ (M.map fun p => p.1).take j ∧ p.2.2 ≤ now) by simp [e])]
open Classical in
theorem without_drop {M : Tabl} (h : Rising ks M) (now : Int) (j : Nat) (hj : j < M.length) (ht : M[j].2.2 ≤ now) : without now ((M.map fun p => p.1).take (j + 1)) M = tdel ks (without now ((M.map fun p => p.1).take j) M) M[j].1 := by
  unfold without tdel
  rw [List.filter_filter]
  refine List.filter_congr fun p hp => ?_
  rw [take_key M j hj]
  by_cases e : p.1 = M[j].1
  · have := key_one h hp (List.getElem_mem hj) e
    rw [this, ks_one.self, decide_eq_true ⟨List.mem_append_right _ (List.mem_singleton.2 rfl), ht⟩]; rfl
  · rw [ks_one.ne e]
    have e2 : decide (p.1 ∈ (M.map fun p => p.1).take j ++ [M[j].1] ∧ p.2.2 ≤ now) = decide (p.1 ∈ (M.map fun p => p.1).take j ∧ p.2.2 ≤ now) := decide_eq_decide.2 (by simp [e])
    rw [e2]
    simp
open Classical in
theorem without_look {M : Tabl} (h : Rising ks M) (now : Int) (j : Nat) (hj : j < M.length) : tlook ks (without now ((M.map fun p => p.1).take j) M) M[j].1 = some M[j].2 := by
  have hm : M[j] ∈ without now ((M.map fun p => p.1).take j) M := by
    unfold without
    rw [List.mem_filter]
    refine ⟨List.getElem_mem hj, ?_⟩
    have : ¬ M[j].1 ∈ (M.map fun p => p.1).take j := by
      intro hc
      obtain ⟨i, hi, he⟩ := List.mem_iff_getElem.1 hc
      rw [List.length_take, List.length_map] at hi
      simp only [List.getElem_take, List.getElem_map] at he
      have := (lt_before _ _).2 (List.pairwise_iff_getElem.1 h i j (by omega) hj (by omega))
      rw [he] at this
      exact lt_irrefl _ this
    rw [decide_eq_false (fun h' => this h'.1)]
    rfl
  exact tlook_mem (rising_filter h _) hm
theorem size_without (now : Int) (ns : List ByteArray) (M : Tabl) : size (without now ns M) ≤ size M := size_filter _ M
theorem stays {w w1 : World} {bs off b : Nat} {A : Value} {base : Nat} {ns : List ByteArray} (h : Kd.R Kd.string 9 w base (fun k => k ≠ bs ∧ k ≠ b) A ns) (ht : Turn w w1 bs off (fun k => k = b)) : Kd.R Kd.string 9 w1 base (fun k => k ≠ bs ∧ k ≠ b) A ns :=
  Kd.R_step h (fun k hk hlt => ht.block k hlt hk.1 hk.2)
set_option maxRecDepth 100000 in
set_option maxHeartbeats 1000000 in
theorem Expire_some {w : World} {bs off b n : Nat} {M : Tabl} (h : Leases w bs off (some b) n M (size M)) (now : Int) (hn : n * 16 ≤ 140737488355328) (hsm : ∀ p ∈ M, p.1.size ≤ 140737488351232 ∧ p.2.1.size ≤ 140737488351232) (hz : size M ≤ 1152921504606846976) :
    Calls Tryz.prog 17 #[.pointer (some ⟨bs, off, none⟩), .int .i64 now] w fun e w' => e = .returned (.tuple #[]) ∧
      Leases w' bs off (some b) n (without now (M.map fun p => p.1) M) (size (without now (M.map fun p => p.1) M)) ∧ Turn w w' bs off (fun k => k = b) := by
  have hN := hid (Names_some h hn)
  have H := hid h
  clear h
  go_enter Tryz.func17, Tryz.ntmps17
  go_wp2_with fail
  refine hN.out.mono ?_
  rintro e w1 ⟨v, rfl, hv, hB⟩
  have hb1 := hid (show b < w.heap.size from H.out.map.lt)
  have hlt := H.out.lt
  have hR : Kd.R Kd.string 9 w1 w.heap.size (fun k => k ≠ bs ∧ k ≠ b) v (M.map fun p => p.1) := Kd.R_mono (Kd.R_bound hv) (fun k hk => ⟨by omega, by have := hb1.out; omega⟩)
  obtain ⟨A, c, rfl, hl, hC⟩ := Kd.R_reads hv
  have h2 := H.out.below hB
  clear hv hC
  have hT0 : Turn w w1 bs off (fun k => k = b) := Turn.below hlt hB
  have hri := hid (h2.map.rising law)
  rw [List.length_map] at hl
  rw [List.length_map] at hR
  have hmx := h2.map.size
  have S0 : Hid (Leases w1 bs off (some b) n (without now ((M.map fun p => p.1).take 0) M) (size (without now ((M.map fun p => p.1).take 0) M)) ∧ Kd.R Kd.string 9 w1 w.heap.size (fun k => k ≠ bs ∧ k ≠ b) (.slice A M.length c) (M.map fun p => p.1) ∧ Turn w w1 bs off (fun k => k = b)) :=
    hid ⟨by rw [List.take_zero, without_nil]; exact h2, hR, hT0⟩
  clear hR h2 hT0 hB
  have HS := hid hsm
  clear hsm hN
  go_wp2_with fail
  go_loopw [9] (fun v0 wr => ∃ (j : Nat), j ≤ M.length ∧ v0 = .int .i64 j ∧ Hid (Leases wr bs off (some b) n (without now ((M.map fun p => p.1).take j) M) (size (without now ((M.map fun p => p.1).take j) M)) ∧ Kd.R Kd.string 9 wr w.heap.size (fun k => k ≠ bs ∧ k ≠ b) (.slice A M.length c) (M.map fun p => p.1) ∧ Turn w wr bs off (fun k => k = b))) (fun v0 _ => M.length - (intOf v0).toNat)
  case atStart => exact ⟨0, Nat.zero_le _, rfl, S0⟩
  case round =>
    clear S0
    obtain ⟨j, hjl, rfl, HI⟩ := hrel
    by_cases hlt2 : j < M.length
    · have hps := HS.out _ (List.getElem_mem hlt2)
      obtain ⟨ad, ead, hx0⟩ := Kd.at_string (Kd.R_reads' HI.out.2.1).2.2 (j : Int) (by omega) (by rw [List.length_map]; omega)
      rw [show rdOf ByteArray.empty (M.map fun p => p.1) (j : Int) = M[j].1 by unfold rdOf; simp [List.getD_eq_getElem?_getD, List.getElem?_eq_getElem hlt2], Int.toNat_natCast] at hx0
      subst ead
      have hlk := without_look hri.out now j hlt2
      have hsz := size_without now ((M.map fun p => p.1).take j) M
      have hsn := size_nonneg (without now ((M.map fun p => p.1).take j) M)
      have hrw : Rising ks (without now ((M.map fun p => p.1).take j) M) := rising_filter hri.out _
      have hdr := without_drop hri.out now j hlt2
      have hkp := without_keep hri.out now j hlt2
      have c0 := HI.out.1.c0
      have hlo := HI.out.1.map.run_look false law Tryz.underlying61 (zero wr) M[j].1 (keyOf_string_mk Tryz.underlying9 (by unfold maxLen; omega))
      have hv : val (without now ((M.map fun p => p.1).take j) M) M[j].1 = M[j].2 := by unfold val; rw [hlk]; rfl
      simp only [if_false, Bool.false_eq_true, val_get, hv] at hlo
      have hfl := field1 M[j].2 wr
      have hi0 : (0 : Int) ≤ (j : Int) := by omega
      have hic : (j : Int) < (M.length : Int) := by omega
      have hD := hid (fun b' (hb' : b' = b) W (hW : W = wr) => drop (b := b') (by subst hb'; subst hW; exact HI.out.1) M[j].1 M[j].2 hps.1 hlk hps.2 hsn (by omega))
      have hst := size_tdel hrw hlk
      by_cases ht : M[j].2.2 ≤ now
      · have hdr2 := hdr ht
        clear hdr hkp
        go_wp2_with fail
        refine (hD.out b rfl _ rfl).mono ?_
        rintro e w2 ⟨rfl, h2, h3⟩
        rw [← hst, ← hdr2] at h2
        go_wp2_with fail
        go_roundw
        case rel => exact ⟨j + 1, by omega, by go_num, hid ⟨h2, stays HI.out.2.1 h3, HI.out.2.2.trans h3 (fun _ _ h => h)⟩⟩
        case measure => simp [intOf]; omega
      · have hkp2 := hkp ht
        clear hdr hkp
        go_wp2_with fail
        go_roundw
        case rel => exact ⟨j + 1, by omega, by go_num, hid ⟨by rw [hkp2]; exact HI.out.1, HI.out.2.1, HI.out.2.2⟩⟩
        case measure => simp [intOf]; omega
    · have hjL : j = M.length := by omega
      subst hjL
      have h1 := HI.out.1
      rw [show (M.map fun p => p.1).take M.length = M.map fun p => p.1 by rw [← List.length_map (f := fun p : ByteArray × (ByteArray × Int) => p.1), List.take_length]] at h1
      go_wp2_with fail
      go_end0
      exact ⟨rfl, h1, HI.out.2.2⟩
end Go.Proofs.YtnccofpkanhfhaaGreatDoor.Lease
