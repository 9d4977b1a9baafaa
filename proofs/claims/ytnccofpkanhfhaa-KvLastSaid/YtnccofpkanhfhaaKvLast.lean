/-
  concourselaw26.KvLast: the walk.
-/
import Derived.Test.YtnccofpkanhfhaaKvPure
import Derived.Test.YtnccofpkanhfhaaKvLaw
import Derived.Outline
set_option linter.unusedVariables false
set_option linter.unusedSimpArgs false
namespace Go.Proofs.Ytnccofpkanhfhaa.Kv
open Go.RowKit Go.Maps Go.WideMaps Go.Proofs.Ytnccofpkanhfhaa.Tab Go.Proofs.Ytnccofpkanhfhaa.Pure Go.Proofs.YtnccofpkanhfhaaW.PrintWords
/-- Entries n at most, within the form's reach. -/
def Big (n : Nat) (M : Tabl) : Prop := M.length ≤ n ∧ ∀ p ∈ M, p.1.size ≤ 140737488351232 ∧ p.2.size ≤ 140737488351232
theorem Big.tdel {n : Nat} {M : Tabl} (h : Big n M) (s : ByteArray) : Big n (tdel ks M s) :=
  ⟨Nat.le_trans (List.length_filter_le _ _) h.1, fun p hp => h.2 p ((mem_tdel _ _ _).1 hp).1⟩
theorem Big.tput {n : Nat} {M : Tabl} (h : Big n M) {s v : ByteArray} (hs : s.size ≤ 140737488351232) (hv : v.size ≤ 140737488351232) : Big (n + 1) (tput ks M s v) := by
  refine ⟨?_, fun p hp => ?_⟩
  · unfold Tab.tput
    rw [length_tins]
    have := (h.tdel s).1
    omega
  · unfold Tab.tput at hp
    rcases (mem_tins _ _ _).1 hp with rfl | hp
    · exact ⟨hs, hv⟩
    · exact (h.tdel s).2 p hp
theorem Big.size {n : Nat} {M : Tabl} (h : Big n M) : size M ≤ 281474976702480 * n := by
  have : ∀ M : Tabl, (∀ p ∈ M, p.1.size ≤ 140737488351232 ∧ p.2.size ≤ 140737488351232) → Kv.size M ≤ 281474976702480 * M.length := by
    intro M
    induction M with
    | nil => intro _; exact Int.le_refl _
    | cons p M ih =>
      intro h
      have h1 := ih (fun p hp => h p (by simp [hp]))
      have h2 := h p (by simp)
      simp only [Kv.size, wt, List.map_cons, List.sum_cons, List.length_cons] at h1 ⊢
      omega
  have h1 := this M h.2
  have h2 := h.1
  omega
theorem Big.val {n : Nat} {M : Tabl} (h : Big n M) (s : ByteArray) : (val M s).size ≤ 140737488351232 := by
  unfold Kv.val tlook
  cases e : M.find? fun p => (ks p.1).sameKey (ks s) with
  | none => exact Nat.zero_le _
  | some p => exact (h.2 p (List.mem_of_find?_eq_some e)).2
/-- A store of the call's own. -/
structure Sg (w wr : World) (bs : Nat) (mb : Option Nat) (n : Nat) (M : Tabl) : Prop where
  store : Store wr bs 0 mb n M (size M)
  own : ∀ b, mb = some b → w.heap.size ≤ b
  hbs : w.heap.size ≤ bs
  below : Below w.heap.size w wr
  rising : Rising ks M
  big : Big n M
section
variable {w wr w' : World} {bs n : Nat} {mb : Option Nat} {M : Tabl}
theorem Sg.move (h : Sg w wr bs mb n M) (hb : Below wr.heap.size wr w') : Sg w w' bs mb n M :=
  ⟨h.store.below hb, h.own, h.hbs, below_then h.below h.below.size hb, h.rising, h.big⟩
theorem Sg.get (h : Sg w wr bs mb n M) {s : ByteArray} (hs : s.size ≤ 140737488351232) :
    Calls Try.prog 29 #[.pointer (some ⟨bs, 0, none⟩), .string s] wr fun e w' => e = .returned (.tuple #[.string (val M s), .bool (tlook ks M s).isSome]) ∧ Sg w w' bs mb n M :=
  (Get_ h.store s (by unfold maxLen; omega)).mono fun e w' ⟨he, hb⟩ => ⟨he, h.move hb⟩
theorem Sg.size_ (h : Sg w wr bs mb n M) :
    Calls Try.prog 37 #[.pointer (some ⟨bs, 0, none⟩)] wr fun e w' => e = .returned (.int .i64 (Kv.size M)) ∧ w' = wr := Size_ h.store
theorem Sg.turn (h : Sg w wr bs mb n M) {b m : Nat} {M' : Tabl} (hb : mb = some b ∨ mb = none ∧ wr.heap.size ≤ b) (hst : Store w' bs 0 (some b) m M' (Kv.size M')) (ht : Turn wr w' bs 0 (fun k => k = b)) (hr : Rising ks M') (hs : Big m M') : Sg w w' bs (some b) m M' := by
  have hwb : w.heap.size ≤ b := by
    rcases hb with hb | ⟨_, hb⟩
    · exact h.own b hb
    · exact Nat.le_trans h.below.size hb
  exact ⟨hst, fun b' e => by injection e with e; rw [← e]; exact hwb, h.hbs, h.below.trans (ht.under h.below.size h.hbs (fun k hk => by subst hk; exact hwb)), hr, hs⟩
theorem Sg.put (h : Sg w wr bs mb n M) (hn : n ≤ 200) {s t : ByteArray} (hs : s.size ≤ 140737488351232) (ht : t.size ≤ 140737488351232) :
    Calls Try.prog 34 #[.pointer (some ⟨bs, 0, none⟩), .string s, .string t] wr fun e w' => e = .returned (.tuple #[]) ∧ ∃ b, Sg w w' bs (some b) (n + 1) (tput ks M s t) :=
  (Put h.store s t hs ht (h.big.val s) (size_nonneg M) (by have := h.big.size; omega) (by unfold maxLen; omega)).mono fun e w' ⟨he, b, hb, h2, h3⟩ =>
    ⟨he, b, h.turn hb (by rw [size_tput h.rising]; exact h2) h3 (rising_tput h.rising s t) (h.big.tput hs ht)⟩
theorem Sg.del (h : Sg w wr bs mb n M) (hn : n ≤ 200) {s : ByteArray} (hs : s.size ≤ 140737488351232) :
    Calls Try.prog 35 #[.pointer (some ⟨bs, 0, none⟩), .string s] wr fun e w' => e = .returned (.bool (tlook ks M s).isSome) ∧ Sg w w' bs mb n (tdel ks M s) := by
  cases hl : tlook ks M s with
  | none =>
    rw [tdel_none hl]
    exact (Del_none h.store s (by unfold maxLen; omega) hl).mono fun e w' ⟨he, hb⟩ => ⟨he, h.move hb⟩
  | some x =>
    have hx := look_val (M := M) (s := s) (by rw [hl]; rfl)
    rw [hl] at hx
    injection hx with hx
    have hxs := h.big.val s
    rw [← hx] at hxs
    cases mb with
    | none =>
      have hM : M = [] := h.store.map
      subst hM
      cases hl
    | some b =>
      exact (Del_some h.store s x hs hl hxs (size_nonneg M) (by have := h.big.size; omega)).mono fun e w' ⟨he, h2, h3⟩ =>
        ⟨he, h.turn (.inl rfl) (by rw [size_tdel h.rising hl]; exact h2) h3 (rising_tdel h.rising s) (h.big.tdel s)⟩
theorem Sg.keys (h : Sg w wr bs mb n M) (hn : n ≤ 200) :
    Calls Try.prog 38 #[.pointer (some ⟨bs, 0, none⟩)] wr fun e w' => (∃ A c, e = .returned (.slice A M.length c)) ∧ Sg w w' bs mb n M := by
  refine (kv_any h.store (by omega)).mono ?_
  rintro e w' ⟨v', rfl, hv, hb⟩
  obtain ⟨A, c, rfl, hl, hr⟩ := Kd.R_reads hv
  exact ⟨⟨A, c, by rw [List.length_map]⟩, h.move hb⟩
end
/-! ### what three puts lay -/
def M3 (a b v x : ByteArray) : Tabl := tput ks (tput ks (tput ks [] a v) b x) a x
theorem val_a (a b v x : ByteArray) : val (M3 a b v x) a = x := by unfold M3; rw [val_tput, if_pos rfl]
theorem val_b (a b v x : ByteArray) : val (M3 a b v x) b = x := by unfold M3; rw [val_tput]; split; rfl; rw [val_tput, if_pos rfl]
theorem some_a (a b v x : ByteArray) : (tlook ks (M3 a b v x) a).isSome = true := by unfold M3; rw [tlook_put_same ks_one]; rfl
theorem some_b (a b v x : ByteArray) : (tlook ks (M3 a b v x) b).isSome = true := by
  unfold M3
  by_cases e : a = b
  · subst e; rw [tlook_put_same ks_one]; rfl
  · rw [tlook_put_other ks_one _ e, tlook_put_same ks_one]; rfl
theorem tdel_tput (M : Tabl) (s v : ByteArray) : ∀ p, p ∈ tdel ks (tput ks M s v) s ↔ p ∈ tdel ks M s := by
  intro p
  rw [mem_tdel, mem_tdel]
  unfold tput
  rw [mem_tins, mem_tdel]
  constructor
  · rintro ⟨rfl | h, h2⟩
    · exact absurd rfl h2
    · exact h
  · intro h
    exact ⟨.inr h, h.2⟩
theorem len_same (a v x : ByteArray) : (M3 a a v x).length = 1 := by
  have h : ∀ M : Tabl, (∀ p ∈ M, p.1 = a) → tdel ks M a = [] := fun M h => by
    apply List.eq_nil_iff_forall_not_mem.2
    intro p hp
    obtain ⟨h1, h2⟩ := (mem_tdel _ _ _).1 hp
    exact h2 (h p h1)
  have h1 : ∀ (M : Tabl) (y : ByteArray), (∀ p ∈ M, p.1 = a) → tput ks M a y = [(a, y)] := fun M y hM => by
    unfold tput; rw [h M hM]; rfl
  have e1 := h1 [] v (by simp)
  have e2 := h1 [(a, v)] x (by simp)
  have e3 := h1 [(a, x)] x (by simp)
  unfold M3
  rw [e1, e2, e3]
  rfl
theorem len_other {a b : ByteArray} (h : a ≠ b) (v x : ByteArray) : (M3 a b v x).length = 2 := by
  have h1 : tput ks [] a v = [(a, v)] := rfl
  have h2 : tdel ks [(a, v)] b = [(a, v)] := by unfold tdel; simp [ks_one.ne h]
  have h3 : (tput ks [(a, v)] b x).length = 2 := by unfold tput; rw [h2, length_tins]; rfl
  unfold M3
  rw [h1]
  unfold tput
  rw [length_tins]
  have h4 : (tdel ks (tins ks (b, x) (tdel ks [(a, v)] b)) a).length = 1 := by
    rw [h2]
    have e1 : (ks a).sameKey (ks a) = true := ks_one.self a
    have e2 : (ks b).sameKey (ks a) = false := ks_one.ne (Ne.symm h)
    simp only [tins]
    split <;> simp [tdel, List.filter_cons, e1, e2]
  rw [h4]
theorem gone_a (a b v x : ByteArray) : tlook ks (tdel ks (M3 a b v x) a) a = none := tlook_del_same ks_one _ _
theorem left_b {a b : ByteArray} (h : a ≠ b) (v x : ByteArray) : (tlook ks (tdel ks (M3 a b v x) a) b).isSome = true := by
  rw [tlook_del_other ks_one _ h]; exact some_b a b v x
theorem none_left (a b v x : ByteArray) : tdel ks (tdel ks (M3 a b v x) a) b = [] := by
  apply List.eq_nil_iff_forall_not_mem.2
  intro p hp
  obtain ⟨h1, hb⟩ := (mem_tdel _ _ _).1 hp
  unfold M3 at h1
  rw [tdel_tput] at h1
  obtain ⟨h2, ha⟩ := (mem_tdel _ _ _).1 h1
  unfold tput at h2
  rw [mem_tins, mem_tdel, mem_tins, mem_tdel] at h2
  rcases h2 with rfl | ⟨rfl | ⟨h2, _⟩, _⟩
  · exact hb rfl
  · exact ha rfl
  · simp at h2
set_option maxRecDepth 100000 in
set_option maxHeartbeats 2000000 in
theorem KvLast_walk (w : World) (a b v x : ByteArray) (hq : a.size ≤ 140737488351232 ∧ b.size ≤ 140737488351232 ∧ v.size ≤ 140737488351232 ∧ x.size ≤ 140737488351232) :
    Calls Try.prog 7 #[.agg #[.string a, .string b, .string v, .string x]] w fun e w' => e = .returned (.bool true) ∧ Below w.heap.size w w' := by
  obtain ⟨ha, hb, hv, hx⟩ := hq
  go_enter Try.func7, Try.ntmps7
  go_wp2_with fail
  have q0 : (w.alloc (.cells #[.string a, .string b, .string v, .string x] 61)).cell? ⟨w.heap.size, 0, none⟩ = some (.string a) := World.cell?_alloc_at _ _ _ _ rfl
  have q1 : (w.alloc (.cells #[.string a, .string b, .string v, .string x] 61)).cell? ⟨w.heap.size, 1, none⟩ = some (.string b) := World.cell?_alloc_at _ _ _ _ rfl
  have q2 : (w.alloc (.cells #[.string a, .string b, .string v, .string x] 61)).cell? ⟨w.heap.size, 2, none⟩ = some (.string v) := World.cell?_alloc_at _ _ _ _ rfl
  have q3 : (w.alloc (.cells #[.string a, .string b, .string v, .string x] 61)).cell? ⟨w.heap.size, 3, none⟩ = some (.string x) := World.cell?_alloc_at _ _ _ _ rfl
  have B1 : Below w.heap.size w (w.alloc (.cells #[.string a, .string b, .string v, .string x] 61)) := (Below.refl _ _).alloc (Nat.le_refl _) _
  generalize w.alloc (.cells #[.string a, .string b, .string v, .string x] 61) = W at *
  generalize hn0 : w.heap.size = n0 at *
  rw [← hn0] at B1
  clear hn0
  go_region_held3 (fun w' => w'.cell? ⟨n0, 0, none⟩ = some (.string a) ∧ w'.cell? ⟨n0, 1, none⟩ = some (.string b) ∧ w'.cell? ⟨n0, 2, none⟩ = some (.string v) ∧ w'.cell? ⟨n0, 3, none⟩ = some (.string x)) (first | exact ⟨q0, q1, q2, q3⟩ | go_keep) (fail)
  replace B1 := B1.drew
  clear q0 q1 q2 q3
  generalize W.drew = W1 at *
  have S0 : Sg w (W1.alloc (.cells #[.map none, .int .i64 0] 64)) W1.heap.size none 0 [] := ⟨made W1 0, (fun b e => by cases e), B1.size, B1.alloc B1.size _, List.Pairwise.nil, ⟨Nat.zero_le _, by simp⟩⟩
  go_wp2_with fail
  generalize W1.alloc (.cells #[.map none, .int .i64 0] 64) = W2 at *
  generalize W1.heap.size = bs at *
  refine (S0.put (by omega) ha hv).mono ?_
  rintro e w1 ⟨rfl, b1, S1⟩
  clear S0
  go_wp2_with fail
  refine (S1.put (by omega) hb hx).mono ?_
  rintro e w2 ⟨rfl, b2, S2⟩
  clear S1
  go_wp2_with fail
  refine (S2.put (by omega) ha hx).mono ?_
  rintro e w3 ⟨rfl, b3, S3⟩
  clear S2
  change Sg w w3 bs (some b3) 3 (M3 a b v x) at S3
  go_wp2_with fail
  refine (S3.get ha).mono ?_
  rintro e w4 ⟨rfl, S4⟩
  clear S3
  rw [val_a, some_a]
  go_wp2_with fail
  refine (S4.get hb).mono ?_
  rintro e w5 ⟨rfl, S5⟩
  clear S4
  rw [val_b, some_b]
  by_cases hab : a = b
  · subst hab
    have hln := len_same a v x
    go_wp2_with fail
    refine (S5.keys (by omega)).mono ?_
    rintro e w6 ⟨⟨A6, c6, rfl⟩, S6⟩
    clear S5
    rw [hln]
    go_wp2_with fail
    refine (S6.del (by omega) ha).mono ?_
    rintro e w7 ⟨rfl, S7⟩
    clear S6
    rw [some_a]
    go_wp2_with fail
    refine (S7.del (by omega) ha).mono ?_
    rintro e w8 ⟨rfl, S8⟩
    clear S7
    rw [gone_a]
    rw [none_left] at S8
    go_wp2_with fail
    refine (S8.del (by omega) ha).mono ?_
    rintro e w9 ⟨rfl, S9⟩
    clear S8
    go_wp2_with fail
    refine (S9.get ha).mono ?_
    rintro e w10 ⟨rfl, S10⟩
    clear S9
    go_wp2_with fail
    refine S10.size_.mono ?_
    rintro e w' ⟨rfl, rfl⟩
    go_wp2_with fail
    refine (S10.keys (by omega)).mono ?_
    rintro e w11 ⟨⟨A11, c11, rfl⟩, S11⟩
    go_wp2_with (go_at_call 27; refine (awake _).mono ?_; rintro e w' ⟨rfl, hB⟩)
    go_ret
    exact ⟨rfl, S11.below.trans (hB.mono S11.below.size)⟩
  · have hln := len_other hab v x
    have hab2 : (a.toList == b.toList) = false := by rw [beq_eq_false_iff_ne]; exact fun e => hab (toList_inj.1 e)
    have hab3 : (a.toList != b.toList) = true := by rw [bne, hab2]; rfl
    go_wp2_with fail
    refine (S5.keys (by omega)).mono ?_
    rintro e w6 ⟨⟨A6, c6, rfl⟩, S6⟩
    clear S5
    rw [hln]
    go_wp2_with fail
    refine (S6.del (by omega) ha).mono ?_
    rintro e w7 ⟨rfl, S7⟩
    clear S6
    rw [some_a]
    go_wp2_with fail
    refine (S7.del (by omega) ha).mono ?_
    rintro e w8 ⟨rfl, S8⟩
    clear S7
    rw [gone_a]
    rw [tdel_none (gone_a a b v x)] at S8
    go_wp2_with fail
    refine (S8.del (by omega) hb).mono ?_
    rintro e w9 ⟨rfl, S9⟩
    clear S8
    rw [left_b hab]
    rw [none_left] at S9
    go_wp2_with fail
    refine (S9.get ha).mono ?_
    rintro e w10 ⟨rfl, S10⟩
    clear S9
    go_wp2_with fail
    refine S10.size_.mono ?_
    rintro e w' ⟨rfl, rfl⟩
    go_wp2_with fail
    refine (S10.keys (by omega)).mono ?_
    rintro e w11 ⟨⟨A11, c11, rfl⟩, S11⟩
    go_wp2_with (go_at_call 27; refine (awake _).mono ?_; rintro e w' ⟨rfl, hB⟩)
    go_ret
    exact ⟨rfl, S11.below.trans (hB.mono S11.below.size)⟩
end Go.Proofs.Ytnccofpkanhfhaa.Kv
