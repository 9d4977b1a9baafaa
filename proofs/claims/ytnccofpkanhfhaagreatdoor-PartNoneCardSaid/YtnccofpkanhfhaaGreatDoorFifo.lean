/-
  fifo.Hall: queues by their names; the methods, each by its contract.
-/
import Derived.Test.YtnccofpkanhfhaaGreatDoorQueue
import Derived.Test.YtnccofpkanhfhaaGreatDoorPure
set_option linter.unusedVariables false
set_option linter.unusedSimpArgs false
namespace Go.Proofs.YtnccofpkanhfhaaGreatDoor.Fifo
open Go.RowKit Go.Maps Go.WideMaps Go.Proofs.YtnccofpkanhfhaaGreatDoor.Tab Go.Proofs.YtnccofpkanhfhaaGreatDoor.Pure
abbrev vq (x : Q) : Value := .pointer (some ⟨x.q, 0, none⟩)
abbrev Tabl := List (ByteArray × Q)
theorem law : Keyed Tryz.prog 9 := string_keyed Tryz.underlying9
theorem zero (w : World) : (zeroValue 139).run Tryz.prog w = .ok (.pointer none) w := by kernel_rfl
structure Hall (w : World) (bs off : Nat) (mb : Option Nat) (n : Nat) (M : Tabl) (sz : Int) : Prop where
  tab : TabAt ks vq Tryz.prog 9 w bs off mb n M sz
  qs : ∀ p ∈ M, QAt w p.2
  ne : ∀ p ∈ M, p.2.ps ≠ []
  apart : ∀ p ∈ M, ∀ p' ∈ M, p.1 ≠ p'.1 → ∀ k ∈ p.2.foot, k ∉ p'.2.foot
  far : ∀ p ∈ M, ∀ k ∈ p.2.foot, k ≠ bs ∧ mb ≠ some k
/-- The blocks that are the hall's. -/
def own (bs : Nat) (mb : Option Nat) (M : Tabl) (k : Nat) : Prop := k = bs ∨ mb = some k ∨ ∃ p ∈ M, k ∈ p.2.foot
/-- What a write under the name s may touch. -/
def may (bs : Nat) (mb : Option Nat) (M : Tabl) (s : ByteArray) (k : Nat) : Prop := k = bs ∨ mb = some k ∨ ∃ x, tlook ks M s = some x ∧ k ∈ x.foot
theorem look_mem {M : Tabl} {s : ByteArray} {x : Q} (h : tlook ks M s = some x) : (s, x) ∈ M := by
  unfold tlook at h
  cases e : M.find? fun p => (ks p.1).sameKey (ks s) with
  | none => rw [e] at h; cases h
  | some p =>
    rw [e] at h
    simp only [Option.map_some, Option.some.injEq] at h
    have h2 := List.find?_some e
    replace h2 := (ks_one _ _).1 h2
    rw [← h, ← h2]
    exact List.mem_of_find?_eq_some e
theorem mem_tput {M : Tabl} {s : ByteArray} {x : Q} {p : ByteArray × Q} : p ∈ tput ks M s x ↔ p = (s, x) ∨ p ∈ M ∧ p.1 ≠ s := by
  unfold tput
  rw [mem_tins, mem_tdel]
section
variable {w w' : World} {bs off n n' : Nat} {mb : Option Nat} {M : Tabl} {sz sz' : Int} {s : ByteArray}
theorem Hall.lt (h : Hall w bs off mb n M sz) : bs < w.heap.size := h.tab.lt
theorem Hall.own_lt (h : Hall w bs off mb n M sz) {k : Nat} (hk : own bs mb M k) : k < w.heap.size := by
  rcases hk with rfl | rfl | ⟨p, hp, hk⟩
  · exact h.tab.lt
  · exact h.tab.map.lt
  · exact (h.qs p hp).lt k hk
theorem Hall.may_own (h : Hall w bs off mb n M sz) {k : Nat} (hk : may bs mb M s k) : own bs mb M k := by
  rcases hk with rfl | rfl | ⟨x, hx, hk⟩
  · exact .inl rfl
  · exact .inr (.inl rfl)
  · exact .inr (.inr ⟨_, look_mem hx, hk⟩)
theorem Hall.move (h : Hall w bs off mb n M sz) (hm : ∀ k, own bs mb M k → w'.heap[k]? = w.heap[k]?) : Hall w' bs off mb n M sz :=
  ⟨h.tab.move (hm bs (.inl rfl)) (fun b e => hm b (.inr (.inl e))), fun p hp => (h.qs p hp).move (fun k hk => hm k (.inr (.inr ⟨p, hp, hk⟩))), h.ne, h.apart, h.far⟩
theorem Hall.below (h : Hall w bs off mb n M sz) (hb : Below w.heap.size w w') : Hall w' bs off mb n M sz := h.move (fun k hk => hb.block k (h.own_lt hk))
theorem Hall.drew (h : Hall w bs off mb n M sz) : Hall w.drew bs off mb n M sz := h.move (fun _ _ => rfl)
theorem Hall.stays (h : Hall w bs off mb n M sz) (ht : Touch w w' (may bs mb M s)) {p : ByteArray × Q} (hp : p ∈ M) (hps : p.1 ≠ s) : QAt w' p.2 := by
  refine (h.qs p hp).move (fun k hk => ht.block k ((h.qs p hp).lt k hk) ?_)
  rintro (rfl | e | ⟨x, hx, hkx⟩)
  · exact (h.far p hp _ hk).1 rfl
  · exact (h.far p hp k hk).2 e
  · exact h.apart p hp _ (look_mem hx) hps k hk hkx
/-- A queue x' under s from now on. -/
theorem Hall.put (h : Hall w bs off mb n M sz) {b : Nat} {x' : Q} (hb : mb = some b ∨ mb = none ∧ w.heap.size ≤ b) (ht : Touch w w' (may bs mb M s)) (htab : TabAt ks vq Tryz.prog 9 w' bs off (some b) n' (tput ks M s x') sz') (hq : QAt w' x') (hne : x'.ps ≠ [])
    (hf : ∀ k ∈ x'.foot, (∃ x, tlook ks M s = some x ∧ k ∈ x.foot) ∨ w.heap.size ≤ k ∧ k ≠ b) : Hall w' bs off (some b) n' (tput ks M s x') sz' ∧ Touch w w' (own bs mb M) ∧ (∀ k, own bs (some b) (tput ks M s x') k → own bs mb M k ∨ w.heap.size ≤ k) := by
  have hbl := h.lt
  have key : ∀ p ∈ M, p.1 ≠ s → ∀ k ∈ x'.foot, k ∉ p.2.foot := by
    intro p hp hps k hk hkp
    rcases hf k hk with ⟨x, hx, hkx⟩ | ⟨hge, _⟩
    · exact h.apart p hp _ (look_mem hx) hps k hkp hkx
    · have := (h.qs p hp).lt k hkp
      omega
  refine ⟨⟨htab, ?_, ?_, ?_, ?_⟩, ht.mono (fun k _ hk => h.may_own hk), ?_⟩
  · intro p hp
    rcases mem_tput.1 hp with rfl | ⟨hp, hps⟩
    · exact hq
    · exact h.stays ht hp hps
  · intro p hp
    rcases mem_tput.1 hp with rfl | ⟨hp, hps⟩
    · exact hne
    · exact h.ne p hp
  · intro p hp p' hp' hpp k hk hk'
    rcases mem_tput.1 hp with rfl | ⟨hp, hps⟩
    · rcases mem_tput.1 hp' with rfl | ⟨hp', hps'⟩
      · exact hpp rfl
      · exact key p' hp' hps' k hk hk'
    · rcases mem_tput.1 hp' with rfl | ⟨hp', hps'⟩
      · exact key p hp hps k hk' hk
      · exact h.apart p hp p' hp' hpp k hk hk'
  · intro p hp k hk
    rcases mem_tput.1 hp with rfl | ⟨hp, hps⟩
    · rcases hf k hk with ⟨x, hx, hkx⟩ | ⟨hge, hkb⟩
      · obtain ⟨h1, h2⟩ := h.far _ (look_mem hx) k hkx
        refine ⟨h1, fun e => ?_⟩
        injection e with e
        subst e
        rcases hb with hb | ⟨_, hb⟩
        · exact h2 hb
        · have := (h.qs _ (look_mem hx)).lt b hkx
          omega
      · exact ⟨by omega, fun e => by injection e with e; exact hkb e.symm⟩
    · obtain ⟨h1, h2⟩ := h.far p hp k hk
      refine ⟨h1, fun e => ?_⟩
      injection e with e
      subst e
      rcases hb with hb | ⟨_, hb⟩
      · exact h2 hb
      · have := (h.qs p hp).lt b hk
        omega
  · rintro k (rfl | e | ⟨p, hp, hk⟩)
    · exact .inl (.inl rfl)
    · injection e with e
      subst e
      rcases hb with hb | ⟨_, hb⟩
      · exact .inl (.inr (.inl hb))
      · exact .inr hb
    · rcases mem_tput.1 hp with rfl | ⟨hp, hps⟩
      · rcases hf k hk with ⟨x, hx, hkx⟩ | ⟨hge, _⟩
        · exact .inl (.inr (.inr ⟨_, look_mem hx, hkx⟩))
        · exact .inr hge
      · exact .inl (.inr (.inr ⟨p, hp, hk⟩))
/-- No queue under s from now on. -/
theorem Hall.del (h : Hall w bs off mb n M sz) (ht : Touch w w' (may bs mb M s)) (htab : TabAt ks vq Tryz.prog 9 w' bs off mb n' (tdel ks M s) sz') : Hall w' bs off mb n' (tdel ks M s) sz' ∧ Touch w w' (own bs mb M) ∧ (∀ k, own bs mb (tdel ks M s) k → own bs mb M k) := by
  refine ⟨⟨htab, ?_, ?_, ?_, ?_⟩, ht.mono (fun k _ hk => h.may_own hk), ?_⟩
  · intro p hp
    obtain ⟨hp, hps⟩ := (mem_tdel _ _ _).1 hp
    exact h.stays ht hp hps
  · intro p hp
    exact h.ne p ((mem_tdel _ _ _).1 hp).1
  · intro p hp p' hp'
    exact h.apart p ((mem_tdel _ _ _).1 hp).1 p' ((mem_tdel _ _ _).1 hp').1
  · intro p hp
    exact h.far p ((mem_tdel _ _ _).1 hp).1
  · rintro k (rfl | e | ⟨p, hp, hk⟩)
    · exact .inl rfl
    · exact .inr (.inl e)
    · exact .inr (.inr ⟨p, ((mem_tdel _ _ _).1 hp).1, hk⟩)
end
/-! ### a queue's turn is no turn of the map -/
theorem dat_same {x x' : Q} (hv : vq x' = vq x) {s : ByteArray} : ∀ {M : Tabl}, Rising ks M → tlook ks M s = some x → dat ks vq (tput ks M s x') = dat ks vq M
  | [], _, h => by simp [tlook] at h
  | y :: r, hr, h => by
    obtain ⟨h1, h2⟩ := List.pairwise_cons.1 hr
    by_cases e : y.1 = s
    · have hy : (ks y.1).sameKey (ks s) = true := (ks_one _ _).2 e
      have hx : y.2 = x := by simpa [tlook, List.find?_cons, hy] using h
      have hd : tdel ks (y :: r) s = r := by
        unfold tdel
        simp only [List.filter_cons, hy]
        rw [if_neg (by simp), List.filter_eq_self]
        intro p hp
        have hne : p.1 ≠ s := fun e' => by
          have := (lt_before _ _).2 (h1 p hp)
          rw [e, e'] at this
          exact lt_irrefl _ this
        rw [ks_one.ne hne]; rfl
      have ht : tput ks (y :: r) s x' = (s, x') :: r := by
        unfold tput
        rw [hd]
        cases r with
        | nil => rfl
        | cons z r =>
          simp only [tins]
          rw [if_pos]
          rw [← e]
          exact h1 z (by simp)
      rw [ht]
      unfold dat
      simp only [List.map_cons]
      rw [hv, ← e, hx]
    · have hy : (ks y.1).sameKey (ks s) = false := ks_one.ne e
      have hl : tlook ks r s = some x := by simpa [tlook, List.find?_cons, hy] using h
      have hd : tdel ks (y :: r) s = y :: tdel ks r s := by
        unfold tdel
        simp [List.filter_cons, hy]
      have hlt : (ks y.1).before (ks s) = true := h1 _ (look_mem hl)
      have ht : tput ks (y :: r) s x' = y :: tput ks r s x' := by
        unfold tput
        rw [hd]
        simp only [tins]
        rw [if_neg]
        intro hb
        exact lt_asymm ((lt_before _ _).2 hlt) ((lt_before _ _).2 hb)
      have ih := dat_same hv h2 hl
      unfold dat at ih ⊢
      rw [ht]
      simp only [List.map_cons]
      simp only [DataW.map.injEq] at ih
      rw [ih]
theorem tab_same {w : World} {bs off n : Nat} {mb : Option Nat} {M : Tabl} {sz : Int} (h : TabAt ks vq Tryz.prog 9 w bs off mb n M sz) {s : ByteArray} {x x' : Q} (hv : x'.q = x.q) (hl : tlook ks M s = some x) : TabAt ks vq Tryz.prog 9 w bs off mb n (tput ks M s x') sz := by
  have hd := dat_same (x := x) (x' := x') (by unfold vq; rw [hv]) (h.map.rising law) hl
  cases mb with
  | none =>
    have hM : M = [] := h.map
    subst hM
    cases hl
  | some b =>
    have hm : w.ownsMap Tryz.prog 9 heldR b n (dat ks vq M) := h.map
    exact ⟨h.c0, h.c1, h.f0, h.f1, show w.ownsMap Tryz.prog 9 heldR b n (dat ks vq (tput ks M s x')) by rw [hd]; exact hm⟩
/-! ### the methods -/
def grows (M : Tabl) (s t : ByteArray) : Int := 16 + t.size + (if (tlook ks M s).isSome then 0 else 16 + s.size)
theorem made (w : World) (n : Nat) : Hall (w.alloc (.cells #[.map none, .int .i64 0] 60)) w.heap.size 0 none n [] 0 :=
  ⟨TabAt.new w _ n, by simp, by simp, by simp, by simp⟩
section
variable {w : World} {bs off n : Nat} {mb : Option Nat} {M : Tabl} {sz : Int}
theorem Size_ (h : Hall w bs off mb n M sz) :
    Calls Tryz.prog 22 #[.pointer (some ⟨bs, off, none⟩)] w fun e w' => e = .returned (.int .i64 sz) ∧ w' = w := by
  have c1 := h.tab.c1
  clear h
  go_enter Tryz.func22, Tryz.ntmps22
  go_wp2
  go_ret
  exact ⟨rfl, rfl⟩
theorem find (h : TabAt ks vq Tryz.prog 9 w bs off mb n M sz) (s : ByteArray) (hs : s.size ≤ maxLen) :
    Calls Tryz.prog 75 #[.pointer (some ⟨bs, off, none⟩), .string s] w fun e w' => e = .returned (((tlook ks M s).map vq).getD (.pointer none)) ∧ w' = w := by
  have c0 := h.c0
  have hl := h.map.run_look false law Tryz.underlying58 (zero w) s (keyOf_string_mk Tryz.underlying9 hs)
  simp only [if_false, Bool.false_eq_true] at hl
  clear h
  generalize ((tlook ks M s).map vq).getD (.pointer none) = v at *
  go_enter Tryz.func75, Tryz.ntmps75
  go_wp2
  go_ret
  exact ⟨rfl, rfl⟩
set_option maxRecDepth 100000 in
theorem Grows (h : TabAt ks vq Tryz.prog 9 w bs off mb n M sz) (s t : ByteArray) (hs : s.size ≤ 140737488351232) (ht : t.size ≤ 140737488351232) :
    Calls Tryz.prog 88 #[.pointer (some ⟨bs, off, none⟩), .string s, .string t] w fun e w' => e = .returned (.int .i64 (grows M s t)) ∧ w' = w := by
  have hF := hid (find h s (by unfold maxLen; omega))
  clear h
  unfold grows
  cases hl : tlook ks M s with
  | none =>
    rw [hl] at hF
    simp only [Option.map_none, Option.getD_none] at hF
    go_enter Tryz.func88, Tryz.ntmps88
    go_wp2_with (go_at_call 75; refine hF.out.mono ?_; rintro e w' ⟨rfl, rfl⟩)
    go_ret
    exact ⟨by simp, rfl⟩
  | some x =>
    rw [hl] at hF
    simp only [Option.map_some, Option.getD_some] at hF
    go_enter Tryz.func88, Tryz.ntmps88
    go_wp2_with (go_at_call 75; refine hF.out.mono ?_; rintro e w' ⟨rfl, rfl⟩)
    go_ret
    exact ⟨by simp, rfl⟩
theorem Waits_ (h : Hall w bs off mb n M sz) (s : ByteArray) (hs : s.size ≤ 140737488351232) :
    Calls Tryz.prog 40 #[.pointer (some ⟨bs, off, none⟩), .string s] w fun e w' => e = .returned (.int .i64 (match tlook ks M s with | some x => (x.ps.length : Int) | none => 0)) ∧ w' = w := by
  have hF := hid (find h.tab s (by unfold maxLen; omega))
  cases hl : tlook ks M s with
  | none =>
    rw [hl] at hF
    simp only [Option.map_none, Option.getD_none] at hF
    clear h
    go_enter Tryz.func40, Tryz.ntmps40
    go_wp2_with (go_at_call 75; refine hF.out.mono ?_; rintro e w' ⟨rfl, rfl⟩)
    go_ret
    exact ⟨rfl, rfl⟩
  | some x =>
    rw [hl] at hF
    simp only [Option.map_some, Option.getD_some] at hF
    have c2 := (h.qs _ (look_mem hl)).c2
    simp only at c2
    clear h
    go_enter Tryz.func40, Tryz.ntmps40
    go_wp2_with (go_at_call 75; refine hF.out.mono ?_; rintro e w' ⟨rfl, rfl⟩)
    go_ret
    exact ⟨rfl, rfl⟩
end
theorem grows_bd (M : Tabl) (s t : ByteArray) : 0 ≤ grows M s t ∧ grows M s t ≤ 32 + s.size + t.size := by
  unfold grows
  split <;> omega
end Go.Proofs.YtnccofpkanhfhaaGreatDoor.Fifo
