/-
  The document's book and ours: plain lists, the law's same, and what the rounds of AdminDoes keep.
-/
import Derived.Test.YtdnhmlpjohojdaaRefDo
import Derived.Test.YtdnhmlpjohojdaaBookAll
import Derived.Test.YtdnhmlpjohojdaaAwake41
import Derived.Test.YtdnhmlpjohojdaaOrdOpen
set_option linter.unusedVariables false
set_option linter.unusedSimpArgs false
namespace Go.Proofs.Ytdnhmlpjohojdaa.Adm.Bk
open Go.RowKit Go.Maps Go.WideMaps Go.Proofs.Ytdnhmlpjohojdaa.Tab Go.Proofs.Ytdnhmlpjohojdaa.Adm Go.Proofs.Ytdnhmlpjohojdaa.R Go.Proofs.YtdnhmlpjohojdaaW.PrintWords Go.Proofs.YtdnhmlpjohojdaaW.PrintLast Go.Proofs.YtdnhmlpjohojdaaW.PrintMore
theorem ours_ (o : Order) (w : World) : Calls Try.prog 9 #[ordV o] w fun e w' => e = .returned (ordV o) ∧ Below w.heap.size w w' :=
  concourselaw41_ours.calls _ _ _ _ _ _ _ _ _ _ _ _ _ _ _ _ _ _ _ _ _ _ _ _ w rfl
abbrev TT := List S75
def vlist (v : Fin 9 → Int) : List Int := [v 0, v 1, v 2, v 3, v 4, v 5, v 6, v 7, v 8]
def mlist : List Int := [1048576, 1048576, 1048576, 1048576, 64, 64, 16, 1048576, 1048576]
theorem rd_v (v : Fin 9 → Int) (j : Fin 9) : rd (vlist v) (j.1 : Int) = v j := by
  obtain ⟨j, hj⟩ := j
  have h : j = 0 ∨ j = 1 ∨ j = 2 ∨ j = 3 ∨ j = 4 ∨ j = 5 ∨ j = 6 ∨ j = 7 ∨ j = 8 := by omega
  rcases h with rfl | rfl | rfl | rfl | rfl | rfl | rfl | rfl | rfl <;> rfl
theorem rd_m (j : Fin 9) : rd mlist (j.1 : Int) = most j.1 := by
  obtain ⟨j, hj⟩ := j
  have h : j = 0 ∨ j = 1 ∨ j = 2 ∨ j = 3 ∨ j = 4 ∨ j = 5 ∨ j = 6 ∨ j = 7 ∨ j = 8 := by omega
  rcases h with rfl | rfl | rfl | rfl | rfl | rfl | rfl | rfl | rfl <;> rfl
def fine (v : Fin 9 → Int) (j : Nat) : Prop := (∀ x : Fin 9, j ≤ x.1 → 0 ≤ v x ∧ v x ≤ most x.1) ∧ 1040 ≤ v 0
instance (v : Fin 9 → Int) (j : Nat) : Decidable (fine v j) := by unfold fine; infer_instance
theorem of_nine (v : Fin 9 → Int) : ∃ r, concourseref37_Of.l0 1 (vlist v) mlist 9 = some r ∧ r.2.2.2.2.2.2.2.2.2 = (if 1040 ≤ v 0 then 0 else 1) := by
  have hr : rd (vlist v) 0 = v 0 := rd_v v 0
  have hl : ((vlist v).length : Int) = 9 := rfl
  unfold concourseref37_Of.l0
  rw [hl, if_neg (by omega), if_pos (by omega), hr]
  by_cases h : v 0 < 1040
  · rw [if_pos h, if_neg (by omega)]
    exact ⟨_, rfl, rfl⟩
  · rw [if_neg h, if_pos (by omega), if_pos (by omega), if_pos (by omega), if_pos (by omega), if_pos (by omega), if_pos (by omega), if_pos (by omega), if_pos (by omega), if_pos (by omega)]
    exact ⟨_, rfl, rfl⟩
theorem of_step (v : Fin 9 → Int) (k : Nat) (j : Fin 9) : concourseref37_Of.l0 (k + 1) (vlist v) mlist (j.1 : Int) = if 0 ≤ v j ∧ v j ≤ most j.1 then concourseref37_Of.l0 k (vlist v) mlist ((j.1 + 1 : Nat) : Int) else some (0, 0, 0, 0, 0, 0, 0, 0, 0, 1) := by
  have hv := rd_v v j
  have hm := rd_m j
  have hj := j.2
  have hl : ((vlist v).length : Int) = 9 := rfl
  have hl2 : (mlist.length : Int) = 9 := rfl
  have hw : wrap64 ((j.1 : Int) + 1) = ((j.1 + 1 : Nat) : Int) := by rw [IntWalk.wrap64_in _ (by omega)]; omega
  rw [concourseref37_Of.l0, hl, hl2, if_pos (by omega), if_pos (by omega), if_pos (by omega), hv, hm, hw]
  by_cases a : v j < 0
  · rw [if_pos a, if_neg (by omega)]
  · rw [if_neg a, if_pos (by omega)]
    by_cases b : v j > most j.1
    · rw [if_pos b, if_neg (by omega)]
    · rw [if_neg b, if_pos (by omega)]
theorem of_tail (v : Fin 9 → Int) : ∀ n j : Nat, j + n = 9 → ∃ r, concourseref37_Of.l0 (n + 1) (vlist v) mlist (j : Int) = some r ∧ r.2.2.2.2.2.2.2.2.2 = (if fine v j then 0 else 1) := by
  intro n
  induction n with
  | zero =>
    intro j hj
    obtain ⟨r, h1, h2⟩ := of_nine v
    have : j = 9 := by omega
    subst this
    refine ⟨r, h1, h2.trans ?_⟩
    have hiff : fine v 9 ↔ 1040 ≤ v 0 := ⟨fun h => h.2, fun h => ⟨fun x hx => absurd hx (by have := x.2; omega), h⟩⟩
    by_cases c : 1040 ≤ v 0
    · rw [if_pos c, if_pos (hiff.2 c)]
    · rw [if_neg c, if_neg (fun h => c (hiff.1 h))]
  | succ n ih =>
    intro j hj
    obtain ⟨r, h1, h2⟩ := ih (j + 1) (by omega)
    have hs := of_step v (n + 1) ⟨j, by omega⟩
    simp only at hs
    rw [hs]
    by_cases a : 0 ≤ v ⟨j, by omega⟩ ∧ v ⟨j, by omega⟩ ≤ most j
    · rw [if_pos a]
      refine ⟨r, h1, h2.trans ?_⟩
      have hiff : fine v (j + 1) ↔ fine v j := by
        constructor
        · rintro ⟨c, d⟩
          refine ⟨fun x hx => ?_, d⟩
          by_cases e : x.1 = j
          · obtain ⟨x, hx'⟩ := x
            simp only at e
            subst e
            exact a
          · exact c x (by omega)
        · rintro ⟨c, d⟩
          exact ⟨fun x hx => c x (by omega), d⟩
      by_cases c : fine v j
      · rw [if_pos c, if_pos (hiff.2 c)]
      · rw [if_neg c, if_neg (fun h => c (hiff.1 h))]
    · rw [if_neg a]
      refine ⟨_, rfl, ?_⟩
      rw [if_neg (fun h => a (h.1 ⟨j, by omega⟩ (Nat.le_refl _)))]
theorem fine_ok (v : Fin 9 → Int) : fine v 0 ↔ okB v = true := by
  unfold okB fine
  rw [decide_eq_true_eq]
  constructor
  · rintro ⟨a, b⟩ x
    have := a x (Nat.zero_le _)
    unfold in9 least
    split
    · rename_i h
      obtain ⟨x, hx⟩ := x
      simp only at h
      subst h
      exact ⟨b, this.2⟩
    · exact this
  · intro h
    have h0 := h 0
    refine ⟨fun x _ => ?_, by simpa [in9, least] using h0.1⟩
    have := h x
    unfold in9 least at this
    split at this
    · exact ⟨by omega, this.2⟩
    · exact this
theorem check37 (v : Fin 9 → Int) : concourseref37_Check.f 10 (v 0) (v 1) (v 2) (v 3) (v 4) (v 5) (v 6) (v 7) (v 8) = some (errB (okB v)) := by
  obtain ⟨r, h1, h2⟩ := of_tail v 9 0 rfl
  have h3 : concourseref37_Of.f 10 [v 0, v 1, v 2, v 3, v 4, v 5, v 6, v 7, v 8] = some r := by
    unfold concourseref37_Of.f
    rw [if_pos (show (([v 0, v 1, v 2, v 3, v 4, v 5, v 6, v 7, v 8] : List Int).length : Int) = 9 from rfl)]
    exact h1
  unfold concourseref37_Check.f concourseref37_List.f
  rw [Option.bind_some, h3, Option.bind_some, h2]
  unfold errB
  by_cases h : okB v = true
  · rw [if_pos ((fine_ok v).2 h), h]
    rfl
  · rw [if_neg (fun c => h ((fine_ok v).1 c)), if_neg h]
theorem form41 (o : Order) : concourseref41_Form.f 10 o.id o.op o.owner (o.v 0) (o.v 1) (o.v 2) (o.v 3) (o.v 4) (o.v 5) (o.v 6) (o.v 7) (o.v 8) = some (formB o) := by
  unfold concourseref41_Form.f formB inRange
  rw [check37]
  by_cases h1 : o.op < 1
  · rw [if_pos h1, decide_eq_false (by omega)]
  rw [if_neg h1]
  by_cases h2 : o.op > 6
  · rw [if_pos h2, decide_eq_false (by omega)]
  rw [if_neg h2]
  by_cases h3 : o.owner < 1
  · rw [if_pos h3, decide_eq_false (by omega)]
  rw [if_neg h3]
  by_cases h4 : o.owner > 8
  · rw [if_pos h4, decide_eq_false (by omega)]
  rw [if_neg h4]
  have hr : 1 ≤ o.op ∧ o.op ≤ 6 ∧ 1 ≤ o.owner ∧ o.owner ≤ 8 := by omega
  have hb : (errB (okB o.v) == 0) = okB o.v := by cases okB o.v <;> rfl
  by_cases h5 : o.op = 1
  · rw [if_pos h5, Option.bind_some, hb]
    congr 1
    cases h : okB o.v
    · exact (decide_eq_false (fun c => by have := c.2 (.inl h5); simp at this)).symm
    · exact (decide_eq_true ⟨hr, fun _ => rfl⟩).symm
  rw [if_neg h5]
  by_cases h6 : o.op = 6
  · rw [if_pos h6, Option.bind_some, hb]
    congr 1
    cases h : okB o.v
    · exact (decide_eq_false (fun c => by have := c.2 (.inr h6); simp at this)).symm
    · exact (decide_eq_true ⟨hr, fun _ => rfl⟩).symm
  rw [if_neg h6]
  congr 1
  exact (decide_eq_true ⟨hr, fun c => by rcases c with c | c <;> contradiction⟩).symm
/-- A tenant as the document has it. -/
def tn (M : Mp) (i : Int) : S75 := ⟨lives M i, (ten M i).rests, v24 (ten M i).v⟩
structure Sees (M : Mp) (T : TT) : Prop where
  len : T.length = 9
  at_ : ∀ i : Int, 0 ≤ i → i ≤ 8 → rd_T75 T i = tn M i
  keys : ∀ p ∈ M, 1 ≤ p.1 ∧ p.1 ≤ 8
theorem why_op (M : Mp) (k : Nat) (op r0 r1 : Int) (l r : Bool) (v w : Fin 9 → Int) : concourseref41_Check.j0 (k + 2) (if op = 1 then l else false) r0 op r1 (v 0) (v 1) (v 2) (v 3) (v 4) (v 5) (v 6) (v 7) (v 8) l r (w 0) (w 1) (w 2) (w 3) (w 4) (w 5) (w 6) (w 7) (w 8) = some (whyB true l r op) := by
  unfold whyB
  by_cases h1 : op = 1
  · subst h1
    cases l <;> simp [concourseref41_Check.j0, concourseref41_Check.j1]
  · cases l
    · simp [concourseref41_Check.j0, concourseref41_Check.j1, h1]
    · cases r <;> by_cases h2 : op = 2 <;> by_cases h3 : op = 3 <;> simp [concourseref41_Check.j0, concourseref41_Check.j1, h1, h2, h3]
theorem chk_why {M : Mp} {T : TT} (h : Sees M T) (o : Order) : chk 10 T o = some (why M o) := by
  unfold chk concourseref41_Check.f
  rw [form41]
  unfold why
  rw [Option.bind_some]
  cases hf : formB o
  · rw [if_neg (by simp)]
    rfl
  · have hr := formB_range hf
    obtain ⟨r1, r2, r3, r4⟩ := hr
    have hx := h.at_ o.owner (by omega) r4
    have hl := h.len
    have hof : concourseref41_Of.f T o.owner = some (lives M o.owner, (ten M o.owner).rests, (ten M o.owner).v 0, (ten M o.owner).v 1, (ten M o.owner).v 2, (ten M o.owner).v 3, (ten M o.owner).v 4, (ten M o.owner).v 5, (ten M o.owner).v 6, (ten M o.owner).v 7, (ten M o.owner).v 8) := by
      unfold concourseref41_Of.f
      rw [if_neg (by omega), if_neg (by omega), if_pos (by omega), if_pos (by omega), hx]
      rfl
    rw [if_pos rfl, hof, Option.bind_some]
    have := why_op M 8 o.op o.id o.owner (lives M o.owner) (ten M o.owner).rests o.v (ten M o.owner).v
    by_cases h1 : o.op = 1
    · rw [if_pos h1] at this ⊢
      exact this
    · rw [if_neg h1] at this ⊢
      exact this
theorem rd_set (T : TT) (i j : Int) (hi : 0 ≤ i) (hj : 0 ≤ j) (hl : i < (T.length : Int)) (x : S75) : rd_T75 (T.set i.toNat x) j = if j = i then x else rd_T75 T j := by
  unfold rd_T75
  simp only [List.getD_eq_getElem?_getD, List.getElem?_set]
  by_cases h : j = i
  · subst h
    rw [if_pos rfl, if_pos rfl, if_pos (by omega)]
    rfl
  · rw [if_neg (by omega), if_neg h]
theorem mem_tdel {M : Mp} {k : Int} {p : Int × Ten} (h : p ∈ tdel ki M k) : p ∈ M := (List.mem_filter.1 h).1
theorem tn_put (M : Mp) (k i : Int) (t : Ten) : tn (tput ki M k t) i = if i = k then ⟨true, t.rests, v24 t.v⟩ else tn M i := by
  unfold tn lives ten
  by_cases h : i = k
  · subst h
    rw [if_pos rfl, tlook_put_same ki_one]
    rfl
  · rw [if_neg h, tlook_put_other ki_one M (fun e => h e.symm)]
theorem tn_del (M : Mp) (k i : Int) : tn (tdel ki M k) i = if i = k then z75 else tn M i := by
  unfold tn lives ten
  by_cases h : i = k
  · subst h
    rw [if_pos rfl, tlook_del_same ki_one]
    rfl
  · rw [if_neg h, tlook_del_other ki_one M (fun e => h e.symm)]
theorem why_zero {M : Mp} {o : Order} (h : why M o = 0) : formB o = true ∧ (o.op = 1 ∨ lives M o.owner = true) := by
  unfold why whyB at h
  cases hf : formB o
  · rw [hf] at h
    simp at h
  · refine ⟨rfl, ?_⟩
    rw [hf] at h
    by_cases h1 : o.op = 1
    · exact .inl h1
    · cases hl : lives M o.owner
      · rw [hl] at h
        simp [h1] at h
      · exact .inr rfl
theorem do_sees {M : Mp} {T : TT} (h : Sees M T) (o : Order) (hw : why M o = 0) : Sees (doM M o) (T.set o.owner.toNat (stepT (rd_T75 T o.owner) o)) := by
  obtain ⟨hf, hl⟩ := why_zero hw
  obtain ⟨r1, r2, r3, r4⟩ := formB_range hf
  have h9 := h.len
  refine ⟨by rw [List.length_set]; exact h9, fun i h0 h8 => ?_, fun p hp => ?_⟩
  · rw [rd_set T _ _ (by omega) h0 (by omega), h.at_ i h0 h8, h.at_ o.owner (by omega) r4]
    unfold doM
    by_cases h4 : o.op = 4
    · rw [if_pos h4, tn_del]
      by_cases e : i = o.owner
      · rw [if_pos e, if_pos e]
        simp [stepT, h4]
      · rw [if_neg e, if_neg e]
    · rw [if_neg h4, tn_put]
      by_cases e : i = o.owner
      · rw [if_pos e, if_pos e]
        unfold stepT newT tn
        by_cases h1 : o.op = 1
        · simp [h1]
        · have hl' : lives M o.owner = true := hl.resolve_left h1
          rw [if_neg h1, hl']
          by_cases h2 : o.op = 2
          · simp [h2]
          · by_cases h3 : o.op = 3
            · simp [h3]
            · by_cases h6 : o.op = 6
              · simp [h6]
              · simp [h1, h2, h3, h4, h6]
      · rw [if_neg e, if_neg e]
  · unfold doM at hp
    by_cases h4 : o.op = 4
    · rw [if_pos h4] at hp
      exact h.keys p (mem_tdel hp)
    · rw [if_neg h4] at hp
      rcases (mem_tins _ _ _).1 hp with rfl | hp
      · exact ⟨r3, r4⟩
      · exact h.keys p (mem_tdel hp)
theorem sees_new : Sees [] (List.replicate 9 z75) := by
  refine ⟨rfl, fun i h0 h8 => ?_, fun p hp => by cases hp⟩
  unfold rd_T75
  simp only [List.getD_eq_getElem?_getD, List.getElem?_replicate]
  split <;> rfl
/-! ### All -/
def lv (M : Mp) : Nat → Nat → List Int
  | _, 0 => []
  | j, n + 1 => if lives M j then (j : Int) :: lv M (j + 1) n else lv M (j + 1) n
theorem all_tail {M : Mp} {T : TT} (h : Sees M T) : ∀ (n j : Nat) (acc : List Int), j + n = 9 → acc.length ≤ j → concourseref41_All.l0 (n + 1) acc (j : Int) T = some (acc ++ lv M j n) := by
  intro n
  have h9 := h.len
  induction n with
  | zero =>
    intro j acc hj ha
    rw [concourseref41_All.l0, if_neg (by omega)]
    simp [lv]
  | succ n ih =>
    intro j acc hj ha
    have hx := h.at_ (j : Int) (by omega) (by omega)
    have hw : wrap64 ((j : Int) + 1) = ((j + 1 : Nat) : Int) := by rw [IntWalk.wrap64_in _ (by omega)]; omega
    rw [concourseref41_All.l0, if_pos (by omega), if_pos (by omega), hx, hw]
    unfold lv
    cases hl : lives M j
    · rw [if_neg (by simp [tn, hl]), ih (j + 1) acc (by omega) (by omega)]
      simp
    · rw [if_pos (by simp [tn, hl]), if_pos (by omega), ih (j + 1) (acc ++ [(j : Int)]) (by omega) (by simp; omega)]
      simp
theorem mem_lv (M : Mp) : ∀ (n j : Nat) (x : Int), x ∈ lv M j n ↔ (j : Int) ≤ x ∧ x < (j : Int) + n ∧ lives M x = true := by
  intro n
  induction n with
  | zero => intro j x; simp [lv]; omega
  | succ n ih =>
    intro j x
    unfold lv
    cases hl : lives M j
    · rw [if_neg (by simp), ih]
      constructor
      · rintro ⟨a, b, c⟩; exact ⟨by omega, by omega, c⟩
      · rintro ⟨a, b, c⟩
        by_cases e : x = (j : Int)
        · subst e; rw [hl] at c; cases c
        · exact ⟨by omega, by omega, c⟩
    · rw [if_pos rfl, List.mem_cons, ih]
      constructor
      · rintro (rfl | ⟨a, b, c⟩)
        · exact ⟨by omega, by omega, hl⟩
        · exact ⟨by omega, by omega, c⟩
      · rintro ⟨a, b, c⟩
        by_cases e : x = (j : Int)
        · exact .inl e
        · exact .inr ⟨by omega, by omega, c⟩
theorem lv_rise (M : Mp) : ∀ (n j : Nat), (lv M j n).Pairwise (· < ·) := by
  intro n
  induction n with
  | zero => intro j; exact List.Pairwise.nil
  | succ n ih =>
    intro j
    unfold lv
    cases hl : lives M j
    · rw [if_neg (by simp)]; exact ih _
    · rw [if_pos rfl]
      refine List.Pairwise.cons (fun x hx => ?_) (ih _)
      have := (mem_lv M n (j + 1) x).1 hx
      omega
theorem eq_of_rise : ∀ a b : List Int, a.Pairwise (· < ·) → b.Pairwise (· < ·) → (∀ x, x ∈ a ↔ x ∈ b) → a = b
  | [], [], _, _, _ => rfl
  | [], y :: b, _, _, h => by have := (h y).2 (.head _); cases this
  | x :: a, [], _, _, h => by have := (h x).1 (.head _); cases this
  | x :: a, y :: b, ha, hb, h => by
    obtain ⟨ha1, ha2⟩ := List.pairwise_cons.1 ha
    obtain ⟨hb1, hb2⟩ := List.pairwise_cons.1 hb
    have e : x = y := by
      have h1 := (h x).1 (.head _)
      have h2 := (h y).2 (.head _)
      rcases List.mem_cons.1 h1 with e | h1
      · exact e
      · rcases List.mem_cons.1 h2 with e | h2
        · exact e.symm
        · have := hb1 _ h1; have := ha1 _ h2; omega
    subst e
    refine congrArg _ (eq_of_rise a b ha2 hb2 fun z => ⟨fun hz => ?_, fun hz => ?_⟩)
    · rcases List.mem_cons.1 ((h z).1 (.tail _ hz)) with e | h1
      · have := ha1 _ hz; omega
      · exact h1
    · rcases List.mem_cons.1 ((h z).2 (.tail _ hz)) with e | h1
      · have := hb1 _ hz; omega
      · exact h1
theorem lives_mem (M : Mp) (x : Int) : lives M x = true ↔ x ∈ M.map (·.1) := by
  unfold lives tlook
  rw [Option.isSome_map, List.find?_isSome]
  constructor
  · rintro ⟨p, hp, he⟩
    have : p.1 = x := (ki_one _ _).1 he
    exact List.mem_map.2 ⟨p, hp, this⟩
  · intro h
    obtain ⟨p, hp, rfl⟩ := List.mem_map.1 h
    exact ⟨p, hp, ki_one.self _⟩
theorem lv_all {M : Mp} {T : TT} (h : Sees M T) (hr : Rising ki M) : lv M 0 9 = M.map (·.1) := by
  refine eq_of_rise _ _ (lv_rise M 9 0) ?_ fun x => ?_
  · exact List.pairwise_map.2 (hr.imp fun h => ki_before.1 h)
  · rw [mem_lv, lives_mem]
    constructor
    · rintro ⟨_, _, c⟩; exact c
    · intro c
      obtain ⟨p, hp, rfl⟩ := List.mem_map.1 c
      have := h.keys p hp
      exact ⟨by omega, by omega, c⟩
theorem all_ref {M : Mp} {T : TT} (h : Sees M T) (hr : Rising ki M) : concourseref41_All.f 10 T = some (M.map (·.1)) := by
  unfold concourseref41_All.f
  have := all_tail h 9 0 [] rfl (Nat.le_refl _)
  rw [lv_all h hr] at this
  exact this
theorem ints_tail (a : List Int) (hl : a.length ≤ 1000) : ∀ (n j : Nat), j + n = a.length → concourseref04_Ints.l0 (n + 1) a a (j : Int) = some true := by
  intro n
  induction n with
  | zero =>
    intro j hj
    rw [concourseref04_Ints.l0, if_neg (by omega)]
  | succ n ih =>
    intro j hj
    have hw : wrap64 ((j : Int) + 1) = ((j + 1 : Nat) : Int) := by rw [IntWalk.wrap64_in _ (by omega)]; omega
    rw [concourseref04_Ints.l0, if_pos (by omega), if_pos (by omega), if_pos (by omega), if_pos rfl, hw]
    exact ih (j + 1) (by omega)
theorem ints_same (a : List Int) (hl : a.length ≤ 1000) : concourseref04_Ints.f (a.length + 1) a a = some true := by
  unfold concourseref04_Ints.f
  rw [if_pos rfl]
  exact ints_tail a hl a.length 0 (by omega)
attribute [local go_sem ↓] Go.wp_at_zero Go.wp_at_succ
theorem of_ref {M : Mp} {T : TT} (h : Sees M T) (i : Int) (h0 : -1 ≤ i) (h9 : i ≤ 9) : concourseref41_Of.f T i = some (lives M i, (ten M i).rests, (ten M i).v 0, (ten M i).v 1, (ten M i).v 2, (ten M i).v 3, (ten M i).v 4, (ten M i).v 5, (ten M i).v 6, (ten M i).v 7, (ten M i).v 8) := by
  have hl := h.len
  have hno : i < 0 ∨ i > 8 → tlook ki M i = none := by
    intro hi
    unfold tlook
    rw [List.find?_eq_none.2 (fun p hp => ?_)]
    · rfl
    · intro hk
      have e : p.1 = i := (ki_one _ _).1 hk
      have := h.keys p hp
      omega
  unfold concourseref41_Of.f
  by_cases a : i < 0
  · rw [if_pos a]
    unfold lives ten
    rw [hno (.inl a)]
    rfl
  · rw [if_neg a]
    by_cases b : i > 8
    · rw [if_pos b]
      unfold lives ten
      rw [hno (.inr b)]
      rfl
    · rw [if_neg b, if_pos (by omega), if_pos (by omega), h.at_ i (by omega) (by omega)]
      rfl
theorem Of_ref {w : World} {M : Mp} {T : TT} {A : Option Addr} {c : Nat} (h : Sees M T) (hr : Kd.C k75 w A T.length T) (hc : T.length ≤ c) (i : Int) (h0 : -1 ≤ i) (h9 : i ≤ 9) :
    Calls Try.prog 41 #[.agg #[.slice A T.length c], .int .i64 i] w fun e w' => e = .returned (.agg #[.bool (lives M i), .bool (ten M i).rests, .int .i64 ((ten M i).v 0), .int .i64 ((ten M i).v 1), .int .i64 ((ten M i).v 2), .int .i64 ((ten M i).v 3), .int .i64 ((ten M i).v 4), .int .i64 ((ten M i).v 5), .int .i64 ((ten M i).v 6), .int .i64 ((ten M i).v 7), .int .i64 ((ten M i).v 8)]) ∧ Below w.heap.size w w' :=
  concourseref41_Of.calls A c T i _ _ _ _ _ _ _ _ _ _ _ w hr hc (of_ref h i h0 h9)
structure Sm (w W : World) (bs : Nat) (mb : Option Nat) (n : Nat) (M : Mp) (A : Option Addr) (c : Nat) (T : TT) : Prop where
  book : BookAt W bs mb n M
  ref : Kd.C k75 W A T.length T
  below : Below w.heap.size w W
  box : W.heap[w.heap.size]? = some (.cells #[.slice A T.length c] 44 (0, 0))
theorem Sm.move {w W W' : World} {bs n c : Nat} {mb : Option Nat} {M : Mp} {A : Option Addr} {T : TT} (h : Sm w W bs mb n M A c T) (hb : Below W.heap.size W W') : Sm w W' bs mb n M A c T :=
  ⟨h.book.below hb, Kd.C_below h.ref hb, h.below.trans (hb.mono h.below.size), (hb.block _ (blk_lt h.box)).trans h.box⟩
theorem Sm.drew {w W : World} {bs n c : Nat} {mb : Option Nat} {M : Mp} {A : Option Addr} {T : TT} (h : Sm w W bs mb n M A c T) : Sm w W.drew bs mb n M A c T := h.move (Below.refl _ _).drew
theorem Sm.alloc {w W : World} {bs n c : Nat} {mb : Option Nat} {M : Mp} {A : Option Addr} {T : TT} (h : Sm w W bs mb n M A c T) (o : Obj) : Sm w (W.alloc o) bs mb n M A c T := h.move ((Below.refl _ _).alloc (Nat.le_refl _) _)
theorem Ints_same {w : World} {l : List Int} {A1 A2 : Option Addr} {c1 c2 : Nat} (h1 : Kd.C (Kd.int .i64) w A1 l.length l) (hc1 : l.length ≤ c1) (h2 : Kd.C (Kd.int .i64) w A2 l.length l) (hc2 : l.length ≤ c2) (hl : l.length ≤ 1000) :
    Calls Try.prog 43 #[.slice A1 l.length c1, .slice A2 l.length c2] w fun e w' => e = .returned (.bool true) ∧ Drawn0 w w' :=
  concourseref04_Ints.calls _ A1 c1 l A2 c2 l true w h1 hc1 h2 hc2 (ints_same l hl)
def keysL (M : Mp) : List Int := M.map (·.1)
theorem All_C {w W : World} {bs n c : Nat} {mb : Option Nat} {M : Mp} {A : Option Addr} {T : TT} (h : Sm w W bs mb n M A c T) (hn : n ≤ 1000) : Calls Try.prog 24 #[.pointer (some ⟨bs, 0, none⟩)] W fun e w' => ∃ A1 c1, e = .returned (.slice A1 (keysL M).length c1) ∧ (keysL M).length ≤ c1 ∧ Kd.C (Kd.int .i64) w' A1 (keysL M).length (keysL M) ∧ Below W.heap.size W w' := by
  refine (All_ h.book (by omega)).mono ?_
  rintro e w2 ⟨u, rfl, hu, hb⟩
  have hul : (keysL M).length = M.length := List.length_map _
  have hR1 : Kd.R (Kd.int .i64) 3 w2 W.heap.size (fun _ => True) u (keysL M) := Kd.R_of_own (by rw [hul]; have e : ownersV M = encs (fun x : Int => Value.int .i64 x) (keysL M) := (by simp [ownersV, encs, keysL]); rw [← e]; exact hu) (fun _ _ => trivial)
  obtain ⟨A1, c1, rfl, hl1, hr1⟩ := Kd.R_reads hR1
  exact ⟨A1, c1, rfl, hl1, hr1, hb⟩
theorem AllRef_C {w W : World} {bs n c : Nat} {mb : Option Nat} {M : Mp} {A : Option Addr} {T : TT} (h : Sm w W bs mb n M A c T) (hc : T.length ≤ c) (hs : Sees M T) (hr : Rising ki M) : Calls Try.prog 44 #[.agg #[.slice A T.length c]] W fun e w' => ∃ A1 c1, e = .returned (.slice A1 (keysL M).length c1) ∧ (keysL M).length ≤ c1 ∧ Kd.C (Kd.int .i64) w' A1 (keysL M).length (keysL M) ∧ Below W.heap.size W w' := by
  refine (concourseref41_All.calls 10 A c T _ W h.ref hc (all_ref hs hr)).mono ?_
  rintro e w3 ⟨v0, rfl, hR2, hb⟩
  obtain ⟨A2, c2, rfl, hl2, hr2⟩ := Kd.R_reads hR2
  exact ⟨A2, c2, rfl, hl2, hr2, hb⟩
set_option maxRecDepth 100000 in
set_option maxHeartbeats 1000000 in
theorem same_ {w : World} {bs n : Nat} {mb : Option Nat} {M : Mp} (h : BookAt w bs mb n M) (hn : n ≤ 1000) {A : Option Addr} {c : Nat} {T : TT} (hr : Kd.C k75 w A T.length T) (hc : T.length ≤ c) (hs : Sees M T) :
    Calls Try.prog 18 #[.pointer (some ⟨bs, 0, none⟩), .agg #[.slice A T.length c]] w fun e w' => e = .returned (.bool true) ∧ Below w.heap.size w w' := by
  have S0 : Sm w (w.alloc (.cells #[.slice A T.length c] 44)) bs mb n M A c T :=
    ⟨h.below ((Below.refl _ _).alloc (Nat.le_refl _) _), Kd.C_below hr ((Below.refl _ _).alloc (Nat.le_refl _) _), (Below.refl _ _).alloc (Nat.le_refl _) _, heap_alloc_last _ _⟩
  have HS := Lib.hid hs
  have HN := Lib.hid hn
  have HC := Lib.hid hc
  have HRI := Lib.hid (h.map.rising lawB)
  have hML : M.length ≤ 1000 := Nat.le_trans h.map.size hn
  have HML := Lib.hid hML
  clear h hn hr hc hs hML
  have HS0 := Lib.hid S0
  clear S0
  go_enter Try.func18, Try.ntmps18
  go_wp2_with fail
  generalize w.alloc (.cells #[.slice A T.length c] 44) = W0 at *
  go_loopw [5] (fun v0 wr => ∃ j : Nat, j ≤ 11 ∧ v0 = .int .i64 ((j : Int) - 1) ∧ Hid (Sm w wr bs mb n M A c T)) (fun v0 _ => (10 - intOf v0).toNat)
  case atStart => exact ⟨0, by omega, by rfl, HS0⟩
  case round =>
    clear HS0
    obtain ⟨j, hj, rfl, HI⟩ := hrel
    by_cases hlt : j < 11
    · have c0 : wr.cell? ⟨w.heap.size, 0, none⟩ = some (.slice A T.length c) := blk_cell HI.out.box 0
      have HOF := Lib.hid (Of_ref HS.out HI.out.ref HC.out ((j : Int) - 1) (by omega) (by omega))
      have hwf : (Lit.int .i64 ((j : Int) - 1)).wf = true := by have := wrap64_wf ((j : Int) - 1); rwa [IntWalk.wrap64_in _ (by omega)] at this
      have HL := Lib.hid (fun (W : World) (hW : Sm w W bs mb n M A c T) => Lives_ hW.book ((j : Int) - 1) hwf)
      have HR := Lib.hid (fun (W : World) (hW : Sm w W bs mb n M A c T) => Rests_ hW.book ((j : Int) - 1) hwf)
      have HF := Lib.hid (fun (W : World) (hW : Sm w W bs mb n M A c T) => Conf_ hW.book ((j : Int) - 1) hwf)
      clear hwf
      generalize lives M ((j : Int) - 1) = lv at *
      generalize ten M ((j : Int) - 1) = t at *
      obtain ⟨v, r⟩ := t
      simp only [cells9] at HF
      have hlt2 : (j : Int) - 1 < 10 := by omega
      go_wp2_with fail
      refine HOF.out.mono ?_
      rintro e w2 ⟨rfl, hb⟩
      have hS := HI.out.move hb
      clear HI HOF hb c0
      go_wp2_with fail
      have hS1 := hS.alloc (.cells #[.bool lv, .bool r, .int .i64 (v 0), .int .i64 (v 1), .int .i64 (v 2), .int .i64 (v 3), .int .i64 (v 4), .int .i64 (v 5), .int .i64 (v 6), .int .i64 (v 7), .int .i64 (v 8)] 75)
      have q0 : (w2.alloc (.cells #[.bool lv, .bool r, .int .i64 (v 0), .int .i64 (v 1), .int .i64 (v 2), .int .i64 (v 3), .int .i64 (v 4), .int .i64 (v 5), .int .i64 (v 6), .int .i64 (v 7), .int .i64 (v 8)] 75)).cell? ⟨w2.heap.size, 0, none⟩ = some (.bool lv) := World.cell?_alloc_at _ _ _ _ rfl
      have q1 : (w2.alloc (.cells #[.bool lv, .bool r, .int .i64 (v 0), .int .i64 (v 1), .int .i64 (v 2), .int .i64 (v 3), .int .i64 (v 4), .int .i64 (v 5), .int .i64 (v 6), .int .i64 (v 7), .int .i64 (v 8)] 75)).cell? ⟨w2.heap.size, 1, none⟩ = some (.bool r) := World.cell?_alloc_at _ _ _ _ rfl
      have q2 : (w2.alloc (.cells #[.bool lv, .bool r, .int .i64 (v 0), .int .i64 (v 1), .int .i64 (v 2), .int .i64 (v 3), .int .i64 (v 4), .int .i64 (v 5), .int .i64 (v 6), .int .i64 (v 7), .int .i64 (v 8)] 75)).cell? ⟨w2.heap.size, 2, none⟩ = some (.int .i64 (v 0)) := World.cell?_alloc_at _ _ _ _ rfl
      have q3 : (w2.alloc (.cells #[.bool lv, .bool r, .int .i64 (v 0), .int .i64 (v 1), .int .i64 (v 2), .int .i64 (v 3), .int .i64 (v 4), .int .i64 (v 5), .int .i64 (v 6), .int .i64 (v 7), .int .i64 (v 8)] 75)).cell? ⟨w2.heap.size, 3, none⟩ = some (.int .i64 (v 1)) := World.cell?_alloc_at _ _ _ _ rfl
      have q4 : (w2.alloc (.cells #[.bool lv, .bool r, .int .i64 (v 0), .int .i64 (v 1), .int .i64 (v 2), .int .i64 (v 3), .int .i64 (v 4), .int .i64 (v 5), .int .i64 (v 6), .int .i64 (v 7), .int .i64 (v 8)] 75)).cell? ⟨w2.heap.size, 4, none⟩ = some (.int .i64 (v 2)) := World.cell?_alloc_at _ _ _ _ rfl
      have q5 : (w2.alloc (.cells #[.bool lv, .bool r, .int .i64 (v 0), .int .i64 (v 1), .int .i64 (v 2), .int .i64 (v 3), .int .i64 (v 4), .int .i64 (v 5), .int .i64 (v 6), .int .i64 (v 7), .int .i64 (v 8)] 75)).cell? ⟨w2.heap.size, 5, none⟩ = some (.int .i64 (v 3)) := World.cell?_alloc_at _ _ _ _ rfl
      have q6 : (w2.alloc (.cells #[.bool lv, .bool r, .int .i64 (v 0), .int .i64 (v 1), .int .i64 (v 2), .int .i64 (v 3), .int .i64 (v 4), .int .i64 (v 5), .int .i64 (v 6), .int .i64 (v 7), .int .i64 (v 8)] 75)).cell? ⟨w2.heap.size, 6, none⟩ = some (.int .i64 (v 4)) := World.cell?_alloc_at _ _ _ _ rfl
      have q7 : (w2.alloc (.cells #[.bool lv, .bool r, .int .i64 (v 0), .int .i64 (v 1), .int .i64 (v 2), .int .i64 (v 3), .int .i64 (v 4), .int .i64 (v 5), .int .i64 (v 6), .int .i64 (v 7), .int .i64 (v 8)] 75)).cell? ⟨w2.heap.size, 7, none⟩ = some (.int .i64 (v 5)) := World.cell?_alloc_at _ _ _ _ rfl
      have q8 : (w2.alloc (.cells #[.bool lv, .bool r, .int .i64 (v 0), .int .i64 (v 1), .int .i64 (v 2), .int .i64 (v 3), .int .i64 (v 4), .int .i64 (v 5), .int .i64 (v 6), .int .i64 (v 7), .int .i64 (v 8)] 75)).cell? ⟨w2.heap.size, 8, none⟩ = some (.int .i64 (v 6)) := World.cell?_alloc_at _ _ _ _ rfl
      have q9 : (w2.alloc (.cells #[.bool lv, .bool r, .int .i64 (v 0), .int .i64 (v 1), .int .i64 (v 2), .int .i64 (v 3), .int .i64 (v 4), .int .i64 (v 5), .int .i64 (v 6), .int .i64 (v 7), .int .i64 (v 8)] 75)).cell? ⟨w2.heap.size, 9, none⟩ = some (.int .i64 (v 7)) := World.cell?_alloc_at _ _ _ _ rfl
      have q10 : (w2.alloc (.cells #[.bool lv, .bool r, .int .i64 (v 0), .int .i64 (v 1), .int .i64 (v 2), .int .i64 (v 3), .int .i64 (v 4), .int .i64 (v 5), .int .i64 (v 6), .int .i64 (v 7), .int .i64 (v 8)] 75)).cell? ⟨w2.heap.size, 10, none⟩ = some (.int .i64 (v 8)) := World.cell?_alloc_at _ _ _ _ rfl
      generalize (w2.alloc (.cells #[.bool lv, .bool r, .int .i64 (v 0), .int .i64 (v 1), .int .i64 (v 2), .int .i64 (v 3), .int .i64 (v 4), .int .i64 (v 5), .int .i64 (v 6), .int .i64 (v 7), .int .i64 (v 8)] 75)) = W1 at *
      generalize w2.heap.size = g at *
      clear hS
      go_region_held3 (fun w' => w'.cell? ⟨g, 0, none⟩ = some (.bool lv) ∧ w'.cell? ⟨g, 1, none⟩ = some (.bool r) ∧ w'.cell? ⟨g, 2, none⟩ = some (.int .i64 (v 0)) ∧ w'.cell? ⟨g, 3, none⟩ = some (.int .i64 (v 1)) ∧ w'.cell? ⟨g, 4, none⟩ = some (.int .i64 (v 2)) ∧ w'.cell? ⟨g, 5, none⟩ = some (.int .i64 (v 3)) ∧ w'.cell? ⟨g, 6, none⟩ = some (.int .i64 (v 4)) ∧ w'.cell? ⟨g, 7, none⟩ = some (.int .i64 (v 5)) ∧ w'.cell? ⟨g, 8, none⟩ = some (.int .i64 (v 6)) ∧ w'.cell? ⟨g, 9, none⟩ = some (.int .i64 (v 7)) ∧ w'.cell? ⟨g, 10, none⟩ = some (.int .i64 (v 8))) (first | exact ⟨q0, q1, q2, q3, q4, q5, q6, q7, q8, q9, q10⟩ | go_keep)
        (first
          | (go_at_call 21; (with_reducible refine (HL.out _ ?_).mono ?_); (exact hS1.drew); rintro e w3 ⟨rfl, hb3⟩; replace q0 := pw_cell_below hb3 q0; replace q1 := pw_cell_below hb3 q1; replace q2 := pw_cell_below hb3 q2; replace q3 := pw_cell_below hb3 q3; replace q4 := pw_cell_below hb3 q4; replace q5 := pw_cell_below hb3 q5; replace q6 := pw_cell_below hb3 q6; replace q7 := pw_cell_below hb3 q7; replace q8 := pw_cell_below hb3 q8; replace q9 := pw_cell_below hb3 q9; replace q10 := pw_cell_below hb3 q10; replace hS1 := hS1.drew.move hb3)
          | (go_at_call 22; (with_reducible refine (HR.out _ ?_).mono ?_); (exact hS1); rintro e w4 ⟨rfl, hb4⟩; replace q0 := pw_cell_below hb4 q0; replace q1 := pw_cell_below hb4 q1; replace q2 := pw_cell_below hb4 q2; replace q3 := pw_cell_below hb4 q3; replace q4 := pw_cell_below hb4 q4; replace q5 := pw_cell_below hb4 q5; replace q6 := pw_cell_below hb4 q6; replace q7 := pw_cell_below hb4 q7; replace q8 := pw_cell_below hb4 q8; replace q9 := pw_cell_below hb4 q9; replace q10 := pw_cell_below hb4 q10; replace hS1 := hS1.move hb4)
          | (go_at_call 23; (with_reducible refine (HF.out _ ?_).mono ?_); (exact hS1); rintro e w5 ⟨rfl, hb5⟩; replace q0 := pw_cell_below hb5 q0; replace q1 := pw_cell_below hb5 q1; replace q2 := pw_cell_below hb5 q2; replace q3 := pw_cell_below hb5 q3; replace q4 := pw_cell_below hb5 q4; replace q5 := pw_cell_below hb5 q5; replace q6 := pw_cell_below hb5 q6; replace q7 := pw_cell_below hb5 q7; replace q8 := pw_cell_below hb5 q8; replace q9 := pw_cell_below hb5 q9; replace q10 := pw_cell_below hb5 q10; replace hS1 := hS1.move hb5))
      clear q0 q1 q2 q3 q4 q5 q6 q7 q8 q9 q10
      have HS1 := Lib.hid hS1
      have hj2 : (j : Int) - 1 + 1 = ((j + 1 : Nat) : Int) - 1 := by omega
      clear hS1 HL HR HF
      go_wp2_with fail
      go_roundw
      case rel => exact ⟨j + 1, by omega, by rw [← hj2]; go_num, HS1⟩
      case measure => simp [intOf]; omega
    · have hj3 : j = 11 := by omega
      subst hj3
      have c0 : wr.cell? ⟨w.heap.size, 0, none⟩ = some (.slice A T.length c) := blk_cell HI.out.box 0
      have hkl : (keysL M).length ≤ 1000 := by have := HML.out; rw [keysL, List.length_map]; exact this
      have HKL := Lib.hid hkl
      have HAL := Lib.hid (fun (W : World) (hW : Sm w W bs mb n M A c T) => All_C hW HN.out)
      have HAR := Lib.hid (fun (W : World) (hW : Sm w W bs mb n M A c T) => AllRef_C hW HC.out HS.out HRI.out)
      clear hkl
      have hS1 := HI.out
      generalize keysL M = K at *
      go_wp2_with fail
      go_region_held3 (fun w' => w'.cell? ⟨w.heap.size, 0, none⟩ = some (.slice A T.length c)) (first | exact c0 | go_keep)
        (first
          | (go_at_call 24; (with_reducible refine (HAL.out _ ?_).mono ?_); (exact hS1.drew); rintro e w2 ⟨A1, c1, rfl, hl1, hr1, hb2⟩; replace c0 := pw_cell_below hb2 c0; replace hS1 := hS1.drew.move hb2)
          | (go_at_call 44; (with_reducible refine (HAR.out _ ?_).mono ?_); (exact hS1); rintro e w3 ⟨A2, c2, rfl, hl2, hr2, hb3⟩; replace c0 := pw_cell_below hb3 c0; replace hS1 := hS1.move hb3; replace hr1 := Kd.C_below hr1 hb3)
          | (go_at_call 43; (with_reducible refine (Ints_same hr1 hl1 hr2 hl2 HKL.out).mono ?_); rintro e w4 ⟨rfl, hb4⟩; replace c0 := pw_cell_below hb4.below c0; replace hS1 := hS1.move hb4.below))
      have HB := Lib.hid hS1.below
      clear c0 hS1 hr1 hr2
      go_wp2_with fail
      go_ret
      exact ⟨rfl, HB.out⟩
instance : Inhabited Order := ⟨⟨0, 0, 0, fun _ => 0⟩⟩
def kO : Kd Order := Kd.iso (Kd.pair (Kd.int .u64) (Kd.pair (Kd.int .i64) (Kd.pair (Kd.int .i64) k24))) (fun o : Order => (o.id, o.op, o.owner, v24 o.v))
theorem kO_mk (w : World) (o : Order) : kO.K w o (cells12 o).toList :=
  ⟨[.int .u64 o.id], _, rfl, rfl, ⟨[.int .i64 o.op], _, rfl, rfl, ⟨[.int .i64 o.owner], _, rfl, rfl, k24_mk w (v24 o.v)⟩⟩⟩
theorem kO_open {w : World} {o : Order} {cs : List Value} (h : kO.K w o cs) : cs = (cells12 o).toList := by
  obtain ⟨_, _, rfl, rfl, ⟨_, _, rfl, rfl, ⟨_, _, rfl, rfl, s2⟩⟩⟩ := h
  obtain rfl := k24_open s2
  rfl
theorem opens_ord : Open.Opens Try.prog 26 (fun (o : Order) cs => ∀ w, kO.K w o cs) Open.WfO := by
  intro H enc w base sp held fuel cs x h hl
  obtain ⟨o, h1, h2⟩ := Open.opens_order _ _ _ _ _ _ _ _ h hl
  exact ⟨o, fun w => h1 ▸ kO_mk w o, h2⟩
theorem ord_cells {w : World} {ad : Addr} {l : List Order} (h : Kd.C kO w (some ad) l.length l) (i : Nat) (hi : i < l.length) (o : Order) (ho : l.getD i default = o) :
    w.cell? (ad.add (i * 12)) = some (.int .u64 o.id) ∧ w.cell? ⟨(ad.add (i * 12)).block, (ad.add (i * 12)).off + 1, none⟩ = some (.int .i64 o.op) ∧ w.cell? ⟨(ad.add (i * 12)).block, (ad.add (i * 12)).off + 2, none⟩ = some (.int .i64 o.owner)
    ∧ w.cell? ⟨(ad.add (i * 12)).block, (ad.add (i * 12)).off + 3, none⟩ = some (.int .i64 (o.v 0)) ∧ w.cell? ⟨(ad.add (i * 12)).block, (ad.add (i * 12)).off + 4, none⟩ = some (.int .i64 (o.v 1)) ∧ w.cell? ⟨(ad.add (i * 12)).block, (ad.add (i * 12)).off + 5, none⟩ = some (.int .i64 (o.v 2))
    ∧ w.cell? ⟨(ad.add (i * 12)).block, (ad.add (i * 12)).off + 6, none⟩ = some (.int .i64 (o.v 3)) ∧ w.cell? ⟨(ad.add (i * 12)).block, (ad.add (i * 12)).off + 7, none⟩ = some (.int .i64 (o.v 4)) ∧ w.cell? ⟨(ad.add (i * 12)).block, (ad.add (i * 12)).off + 8, none⟩ = some (.int .i64 (o.v 5))
    ∧ w.cell? ⟨(ad.add (i * 12)).block, (ad.add (i * 12)).off + 9, none⟩ = some (.int .i64 (o.v 6)) ∧ w.cell? ⟨(ad.add (i * 12)).block, (ad.add (i * 12)).off + 10, none⟩ = some (.int .i64 (o.v 7)) ∧ w.cell? ⟨(ad.add (i * 12)).block, (ad.add (i * 12)).off + 11, none⟩ = some (.int .i64 (o.v 8)) := by
  obtain ⟨ad', c, e, _, hK, hc0⟩ := Kd.C_get h default (i : Int) (by omega) (by omega)
  rw [Int.toNat_natCast] at hc0 hK
  obtain rfl : ad = ad' := by injection e
  have hc : ∀ j u, c[j]? = some u → w.cell? (ad.add (i * 12 + j)) = some u := hc0
  rw [ho] at hK
  obtain rfl := kO_open hK
  exact ⟨hc 0 _ rfl, by rw [← add_field _ _ 1 (by omega)]; exact hc 1 _ rfl, by rw [← add_field _ _ 2 (by omega)]; exact hc 2 _ rfl, by rw [← add_field _ _ 3 (by omega)]; exact hc 3 _ rfl, by rw [← add_field _ _ 4 (by omega)]; exact hc 4 _ rfl, by rw [← add_field _ _ 5 (by omega)]; exact hc 5 _ rfl, by rw [← add_field _ _ 6 (by omega)]; exact hc 6 _ rfl, by rw [← add_field _ _ 7 (by omega)]; exact hc 7 _ rfl, by rw [← add_field _ _ 8 (by omega)]; exact hc 8 _ rfl, by rw [← add_field _ _ 9 (by omega)]; exact hc 9 _ rfl, by rw [← add_field _ _ 10 (by omega)]; exact hc 10 _ rfl, by rw [← add_field _ _ 11 (by omega)]; exact hc 11 _ rfl⟩
structure Ds (w W : World) (bs rb : Nat) (mb : Option Nat) (n : Nat) (M : Mp) (A : Option Addr) (c : Nat) (T : TT) : Prop where
  book : BookAt W bs mb n M
  ref : Kd.C k75 W A T.length T
  hc : T.length ≤ c
  row : ∃ g cur, A = some ⟨g, 0, none⟩ ∧ W.heap[g]? = some (.cells cur 75 (0, 0))
  box : W.heap[rb]? = some (.cells #[.slice A T.length c] 44 (0, 0))
  below : Below w.heap.size w W
  hbs : w.heap.size ≤ bs
  hrb : w.heap.size ≤ rb
  hb : ∀ b, mb = some b → w.heap.size ≤ b
variable {w W W' : World} {bs rb n c : Nat} {mb : Option Nat} {M : Mp} {A : Option Addr} {T : TT}
theorem Ds.move (h : Ds w W bs rb mb n M A c T) (hb : Below W.heap.size W W') : Ds w W' bs rb mb n M A c T := by
  obtain ⟨g, cur, e, hg⟩ := h.row
  exact ⟨h.book.below hb, Kd.C_below h.ref hb, h.hc, ⟨g, cur, e, (hb.block _ (blk_lt hg)).trans hg⟩, (hb.block _ (blk_lt h.box)).trans h.box, h.below.trans (hb.mono h.below.size), h.hbs, h.hrb, h.hb⟩
theorem Ds.drew (h : Ds w W bs rb mb n M A c T) : Ds w W.drew bs rb mb n M A c T := h.move (Below.refl _ _).drew
theorem Ds.alloc (h : Ds w W bs rb mb n M A c T) (o : Obj) : Ds w (W.alloc o) bs rb mb n M A c T := h.move ((Below.refl _ _).alloc (Nat.le_refl _) _)
theorem row_of_R {base : Nat} {ok : Nat → Prop} {v : Value} {T' : TT} (h : Kd.R k75 75 W base ok v T') (h9 : T'.length = 9) :
    ∃ A' c', v = .slice A' T'.length c' ∧ T'.length ≤ c' ∧ Kd.C k75 W A' T'.length T' ∧ ∃ g cur, A' = some ⟨g, 0, none⟩ ∧ W.heap[g]? = some (.cells cur 75 (0, 0)) := by
  obtain ⟨A1, c1, rfl, hc, hC⟩ := Kd.R_reads h
  obtain ⟨ad, cs, e, hl, hK, hc0⟩ := Kd.C_get hC z75 0 (by omega) (by omega)
  subst e
  obtain ⟨g, cur, rfl, hb, hlt, hh⟩ := R_ad h
  exact ⟨_, c1, rfl, hc, hC, g, cur, rfl, hh⟩
theorem C_block {g m : Nat} {xs : TT} (h : Kd.C k75 W (some ⟨g, 0, none⟩) m xs) (e : W'.heap[g]? = W.heap[g]?) : Kd.C k75 W' (some ⟨g, 0, none⟩) m xs :=
  ⟨h.1, h.2.1, fun hn => by
    obtain ⟨ad, ea, hc⟩ := h.2.2 hn
    refine ⟨ad, ea, fun j p hj => ?_⟩
    obtain ⟨c, hs, hr, hcell⟩ := hc j p hj
    injection ea with ea
    subst ea
    refine ⟨c, hs, ?_, fun i u hu => ?_⟩
    · have hk := k75_open hr
      subst hk
      exact k75_mk W' p
    · have := hcell i u hu
      rw [add0] at this ⊢
      exact (World.cell?_of_block (a := ⟨g, _, none⟩) e).trans this⟩
theorem mb_ne {b : Nat} (h : BookAt W bs (some b) n M) : (∀ t cs, W.heap[b]? ≠ some (.cells cs t (0, 0))) := by
  intro t cs e
  obtain ⟨es, clock, hb⟩ := h.map.isMap
  rw [e] at hb
  cases hb
/-- The document's book, put into its variable. -/
theorem Ds.put (h : Ds w W bs rb mb n M A c T) {base : Nat} {ok : Nat → Prop} {A' : Option Addr} {c' : Nat} {T' : TT} (h9 : T'.length = 9) (hR : Kd.R k75 75 W base ok (.slice A' T'.length c') T') :
    Ds w (W.setCell ⟨rb, 0, none⟩ (.slice A' T'.length c')) bs rb mb n M A' c' T' := by
  have hR2 := Kd.R_set hR h.box (by decide) 0 (.slice A' T'.length c')
  obtain ⟨A1, c1, e, hc, hC, hrow⟩ := row_of_R hR2 h9
  injection e with e1 e2 e3
  subst e1 e3
  have hbr : rb ≠ bs := by
    rintro rfl
    have := h.box.symm.trans h.book.box
    injection this with this
    injection this with _ this
    exact absurd this (by decide)
  have far : ∀ k, k ≠ rb → (W.setCell ⟨rb, 0, none⟩ (.slice A' T'.length c')).heap[k]? = W.heap[k]? := fun k hk => Below.heap_setCell W ⟨rb, 0, none⟩ _ k hk
  refine ⟨⟨(far bs hbr.symm).trans h.book.box, h.book.map.move fun b e => ?_⟩, hC, hc, hrow, blk_put h.box 0 _ rfl, h.below.setCell h.hrb _, h.hbs, h.hrb, h.hb⟩
  subst e
  exact far b (fun e => mb_ne h.book _ _ (e ▸ h.box))
/-- An order done in our book. -/
theorem Ds.done (h : Ds w W bs rb mb n M A c T) {b : Nat} {o : Order} (hb : mb = some b ∨ mb = none ∧ W.heap.size ≤ b) (hB : BookAt W' bs (some b) (n + 1) (doM M o)) (ht : Turn W W' bs 0 (fun k => k = b)) : Ds w W' bs rb (some b) (n + 1) (doM M o) A c T := by
  obtain ⟨g, cur, e, hg⟩ := h.row
  have nb : ∀ (k : Nat) (t : TypeId) (cs : Array Value), W.heap[k]? = some (.cells cs t (0, 0)) → k ≠ b := by
    intro k t cs hk e
    subst e
    rcases hb with rfl | ⟨_, hb⟩
    · exact mb_ne h.book _ _ hk
    · have := blk_lt hk
      omega
  have ns : ∀ (k : Nat) (t : TypeId) (cs : Array Value), W.heap[k]? = some (.cells cs t (0, 0)) → t ≠ 54 → k ≠ bs := by
    rintro k t cs hk hne rfl
    have := hk.symm.trans h.book.box
    injection this with this
    injection this with _ this
    exact hne this
  have keep : ∀ (k : Nat) (t : TypeId) (cs : Array Value), W.heap[k]? = some (.cells cs t (0, 0)) → t ≠ 54 → W'.heap[k]? = some (.cells cs t (0, 0)) := fun k t cs hk h1 => (ht.block k (blk_lt hk) (ns k t cs hk h1) (nb k t cs hk)).trans hk
  have hbw : w.heap.size ≤ b := by
    rcases hb with e | ⟨_, hb⟩
    · exact h.hb b e
    · exact Nat.le_trans h.below.size hb
  have hgk := keep g _ _ hg (by decide)
  refine ⟨hB, ?_, h.hc, ⟨g, cur, e, hgk⟩, keep rb _ _ h.box (by decide), ?_, h.hbs, h.hrb, fun b' e => by injection e with e; omega⟩
  · subst e
    exact C_block h.ref (hgk.trans hg.symm)
  · exact h.below.trans (ht.under h.below.size h.hbs (fun k hk => by omega))
end Go.Proofs.Ytdnhmlpjohojdaa.Adm.Bk
