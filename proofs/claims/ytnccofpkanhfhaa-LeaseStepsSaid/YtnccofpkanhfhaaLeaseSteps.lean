/-
  concourselaw29.LeaseSteps: the walk.
-/
import Derived.Test.YtnccofpkanhfhaaLeasePure
import Derived.Test.YtnccofpkanhfhaaLeaseLaw
import Derived.Test.YtnccofpkanhfhaaTexts
import Derived.Outline
set_option linter.unusedVariables false
set_option linter.unusedSimpArgs false
namespace Go.Proofs.Ytnccofpkanhfhaa.Lease
open Go.RowKit Go.Maps Go.WideMaps Go.Proofs.Ytnccofpkanhfhaa.Tab Go.Proofs.Ytnccofpkanhfhaa.Pure Go.Proofs.Ytnccofpkanhfhaa.R Go.Proofs.Ytnccofpkanhfhaa.Texts Go.Proofs.YtnccofpkanhfhaaW.PrintWords
attribute [local go_sem ↓] Go.wp_at_zero Go.wp_at_succ
/-- Expire at a map that is nil: nothing. -/
theorem Expire_nilmap {w : World} {bs off n : Nat} {M : Tabl} {sz : Int} (h : Leases w bs off none n M sz) (now : Int) :
    Calls Try.prog 61 #[.pointer (some ⟨bs, off, none⟩), .int .i64 now] w fun e w' => e = .returned (.tuple #[]) ∧ Below w.heap.size w w' := by
  have hM : M = [] := h.map
  subst hM
  have hN := hid (Names_nilmap h)
  clear h
  go_enter Try.func61, Try.ntmps61
  go_wp2_with fail
  refine hN.out.mono ?_
  rintro e w1 ⟨v, rfl, hv, hB⟩
  obtain ⟨A, c, rfl, hl, hC⟩ := Kd.R_reads hv
  clear hv hC
  go_wp2_with fail
  refine wp_loop_rounds 1 ?_
  rw [rounds_succ]
  go_wp2_with fail
  go_end0
  exact ⟨rfl, hB⟩
/-- Leases (they are M), the document's rows N, and a box. -/
structure St (w wr : World) (bs : Nat) (mb : Option Nat) (n : Nat) (M N : Tabl) (v : Value) (bx : Nat) (cs : Array Value) : Prop where
  store : Leases wr bs 0 mb n M (size M)
  own : ∀ b, mb = some b → w.heap.size ≤ b
  hbs : w.heap.size ≤ bs
  rows : Kd.R k98 98 wr w.heap.size (fun k => k ≠ bs ∧ some k ≠ mb ∧ k ≠ bx) v (rows N)
  below : Below w.heap.size w wr
  rising : Rising ks M
  good : Good 10000 n M
  risingN : Rising ks N
  goodN : Good 10000 n N
  box : ∀ j u, cs[j]? = some u → wr.cell? ⟨bx, j, none⟩ = some u
  hbx : cs = #[] ∨ bx ≠ bs ∧ mb ≠ some bx
section
variable {w wr w' : World} {bs n bx : Nat} {mb : Option Nat} {M N : Tabl} {v : Value} {cs : Array Value}
theorem St.move (h : St w wr bs mb n M N v bx cs) (hb : Below wr.heap.size wr w') : St w w' bs mb n M N v bx cs :=
  ⟨h.store.below hb, h.own, h.hbs, Kd.R_below h.rows hb, below_then h.below h.below.size hb, h.rising, h.good, h.risingN, h.goodN, fun j u hj => (World.cell?_of_block (hb.block bx (World.block_lt_of_cell? _ _ (h.box j u hj)))).trans (h.box j u hj), h.hbx⟩
theorem St.mono (h : St w wr bs mb n M N v bx cs) {m : Nat} (hm : n ≤ m) : St w wr bs mb m M N v bx cs :=
  ⟨⟨h.store.c0, h.store.c1, h.store.f0, h.store.f1, h.store.map.mono hm⟩, h.own, h.hbs, h.rows, h.below, h.rising, h.good.mono hm, h.risingN, h.goodN.mono hm, h.box, h.hbx⟩
/-- A box more. -/
theorem St.boxed (h : St w wr bs mb n M N v bx cs) (cs' : Array Value) (T : TypeId) : St w (wr.alloc (.cells cs' T)) bs mb n M N v wr.heap.size cs' := by
  have hb : Below wr.heap.size wr (wr.alloc (.cells cs' T)) := (Below.refl _ _).alloc (Nat.le_refl _) _
  refine ⟨h.store.below hb, h.own, h.hbs, Kd.R_mono (Kd.R_below (Kd.R_bound h.rows) hb) (fun k hk => ⟨hk.1.1, hk.1.2.1, by have := hk.2.2.1; omega⟩), below_then h.below h.below.size hb, h.rising, h.good, h.risingN, h.goodN, fun j u hj => (World.cell?_alloc_at _ _ _ _ rfl).trans hj, .inr ⟨?_, ?_⟩⟩
  · have := h.store.lt
    omega
  · intro e
    subst e
    have := h.store.map.lt
    omega
theorem St.slice (h : St w wr bs mb n M N v bx cs) : ∃ A c, v = .slice A N.length c ∧ N.length ≤ c ∧ Kd.C k98 wr A (Lease.rows N).length (Lease.rows N) := by
  obtain ⟨A, c, he, hl, hr⟩ := Kd.R_reads h.rows
  rw [rows_length] at he hl
  exact ⟨A, c, he, hl, hr⟩
theorem St.bound (h : St w wr bs mb n M N v bx cs) (hn : n ≤ 400) : 0 ≤ Lease.size M ∧ Lease.size M ≤ 1152921504606846976 := by
  refine ⟨size_nonneg M, ?_⟩
  have h1 := h.good.size
  have h2 : ((24 + 2 * 10000 : Nat) : Int) * (n : Int) ≤ (24 + 2 * 10000 : Nat) * (400 : Int) := Int.mul_le_mul_of_nonneg_left (by omega) (by omega)
  omega
theorem St.grows (h : St w wr bs mb n M N v bx cs) {s t : ByteArray} (hs : s.size ≤ 10000) (ht : t.size ≤ 10000) :
    Calls Try.prog 56 #[.pointer (some ⟨bs, 0, none⟩), .string s, .string t] wr fun e w' => e = .returned (.int .i64 (Lease.grows M s t)) ∧ St w w' bs mb n M N v bx cs :=
  (Grows h.store s t (by omega) (by omega)).mono fun e w' ⟨he, hb⟩ => ⟨he, h.move hb⟩
theorem St.holder (h : St w wr bs mb n M N v bx cs) {s : ByteArray} (hs : s.size ≤ 10000) :
    Calls Try.prog 63 #[.pointer (some ⟨bs, 0, none⟩), .string s] wr fun e w' => e = .returned (.tuple #[.string (val M s).1, .int .i64 (val M s).2, .bool (tlook ks M s).isSome]) ∧ St w w' bs mb n M N v bx cs :=
  (Holder_ h.store s (by unfold maxLen; omega)).mono fun e w' ⟨he, hb⟩ => ⟨he, h.move hb⟩
theorem St.size_ (h : St w wr bs mb n M N v bx cs) :
    Calls Try.prog 64 #[.pointer (some ⟨bs, 0, none⟩)] wr fun e w' => e = .returned (.int .i64 (Lease.size M)) ∧ w' = wr := Size_ h.store
theorem St.find (h : St w wr bs mb n M N v bx cs) (hn : n ≤ 400) (s : ByteArray) :
    Calls Try.prog 55 #[v, .string s] wr fun e w' => (∃ t : Int, e = .returned (.int .i64 t) ∧ (t = -1 ∧ tlook ks N s = none ∨ ∃ (j : Nat) (hj : j < N.length), t = j ∧ N[j].1 = s ∧ tlook ks N s = some N[j].2)) ∧ St w w' bs mb n M N v bx cs := by
  obtain ⟨A, c, rfl, hl, hr⟩ := h.slice
  have hm := h.goodN.1
  rcases find_ok h.risingN s (by omega) (k := N.length + 1) (by omega) with ⟨h1, h2⟩ | ⟨j, hj, h1, h2⟩
  · have := concourseref29_Find.calls _ A c _ s _ wr hr (by rw [rows_length]; exact hl) h1
    rw [rows_length] at this
    exact this.mono fun e w' ⟨he, hd⟩ => ⟨⟨_, he, .inl ⟨rfl, h2⟩⟩, h.move hd.below⟩
  · have := concourseref29_Find.calls _ A c _ s _ wr hr (by rw [rows_length]; exact hl) h1
    rw [rows_length] at this
    exact this.mono fun e w' ⟨he, hd⟩ => ⟨⟨_, he, .inr ⟨j, hj, rfl, h2⟩⟩, h.move hd.below⟩
theorem St.refSize (h : St w wr bs mb n M N v bx cs) (hn : n ≤ 400) :
    Calls Try.prog 65 #[v] wr fun e w' => e = .returned (.int .i64 (Lease.size N)) ∧ St w w' bs mb n M N v bx cs := by
  obtain ⟨A, c, rfl, hl, hr⟩ := h.slice
  have hm := h.goodN.1
  have h1 := h.goodN.size
  have h2 : ((24 + 2 * 10000 : Nat) : Int) * (n : Int) ≤ (24 + 2 * 10000 : Nat) * (400 : Int) := Int.mul_le_mul_of_nonneg_left (by omega) (by omega)
  obtain ⟨k, hk⟩ := size_ok N (by omega) (by omega)
  have := concourseref29_Size.calls k A c _ _ wr hr (by rw [rows_length]; exact hl) hk
  rw [rows_length] at this
  exact this.mono fun e w' ⟨he, hd⟩ => ⟨he, h.move hd.below⟩
/-- What a function of the document's has done to its own rows, and left. -/
theorem St.kept (h : St w wr bs mb n M N v bx cs) (hk : Kept wr w' (fun k => k ≠ bs ∧ some k ≠ mb ∧ k ≠ bx)) (hB : Below w.heap.size w w') {N' : Tabl} {v' : Value} (hv : Kd.R k98 98 w' w.heap.size (fun k => (k ≠ bs ∧ some k ≠ mb ∧ k ≠ bx) ∨ wr.heap.size ≤ k) v' (Lease.rows N')) (hr : Rising ks N') {m : Nat} (hg : Good 10000 m N') (hm : n ≤ m) (hbx2 : bx < wr.heap.size) : St w w' bs mb m M N' v' bx cs := by
  have hlt := h.store.lt
  have e1 : w'.heap[bs]? = wr.heap[bs]? := hk.2 bs hlt (fun h' => h'.1 rfl)
  have e2 : ∀ b, mb = some b → w'.heap[b]? = wr.heap[b]? := fun b e => hk.2 b (by subst e; exact h.store.map.lt) (fun h' => h'.2.1 e.symm)
  have e3 : w'.heap[bx]? = wr.heap[bx]? := hk.2 bx hbx2 (fun h' => h'.2.2 rfl)
  have hst := h.store.move e1 e2
  refine ⟨⟨hst.c0, hst.c1, hst.f0, hst.f1, hst.map.mono hm⟩, h.own, h.hbs, Kd.R_mono hv (fun k hk => ?_), hB, h.rising, h.good.mono hm, hr, hg, fun j u hj => (World.cell?_of_block e3).trans (h.box j u hj), h.hbx⟩
  rcases hk with hk | hk
  · exact hk
  · exact ⟨by omega, fun e => by subst e; have := h.store.map.lt; omega, by omega⟩
theorem St.refTake (h : St w wr bs mb n M N v bx cs) (hn : n ≤ 400) (hbx2 : bx < wr.heap.size) {s t : ByteArray} (hs : s.size ≤ 10000) (ht : t.size ≤ 10000) (ticks now : Int) :
    Calls Try.prog 57 #[v, .string s, .string t, .int .i64 ticks, .int .i64 now] wr fun e w' => ∃ v', e = .returned (.tuple #[v', .bool (!blocked N s t)]) ∧ St w w' bs mb (n + 1) M (if blocked N s t then N else tput ks N s (t, till ticks now)) v' bx cs := by
  have hm := h.goodN.1
  obtain ⟨k, hk⟩ := take_ok h.risingN s t ticks now (by omega)
  cases hb : blocked N s t
  · rw [hb] at hk
    simp only [if_false, Bool.false_eq_true] at hk ⊢
    refine (concourseref29_Take.calls k _ v _ s t ticks now _ _ w wr h.below h.rows hk).mono ?_
    rintro e w' ⟨v', rfl, hv, hB, hk⟩
    exact ⟨v', rfl, h.kept hk hB hv (rising_tput h.risingN _ _) (h.goodN.tput hs ht (till_pos _ _)) (by omega) hbx2⟩
  · rw [hb] at hk
    simp only [if_true] at hk ⊢
    refine (concourseref29_Take.calls k _ v _ s t ticks now _ _ w wr h.below h.rows hk).mono ?_
    rintro e w' ⟨v', rfl, hv, hB, hk⟩
    exact ⟨v', rfl, h.kept hk hB hv h.risingN (h.goodN.mono (by omega)) (by omega) hbx2⟩
theorem St.refFree (h : St w wr bs mb n M N v bx cs) (hn : n ≤ 400) (hbx2 : bx < wr.heap.size) (s t : ByteArray) :
    Calls Try.prog 59 #[v, .string s, .string t] wr fun e w' => ∃ v', e = .returned (.tuple #[v', .bool (mine N s t)]) ∧ St w w' bs mb n M (if mine N s t then tdel ks N s else N) v' bx cs := by
  have hm := h.goodN.1
  obtain ⟨k, hk⟩ := free_ok h.risingN s t (by omega)
  cases hb : mine N s t
  · rw [hb] at hk
    simp only [if_false, Bool.false_eq_true] at hk ⊢
    refine (concourseref29_Free.calls k _ v _ s t _ _ w wr h.below h.rows hk).mono ?_
    rintro e w' ⟨v', rfl, hv, hB, hk⟩
    exact ⟨v', rfl, h.kept hk hB hv h.risingN h.goodN (Nat.le_refl _) hbx2⟩
  · rw [hb] at hk
    simp only [if_true] at hk ⊢
    refine (concourseref29_Free.calls k _ v _ s t _ _ w wr h.below h.rows hk).mono ?_
    rintro e w' ⟨v', rfl, hv, hB, hk⟩
    exact ⟨v', rfl, h.kept hk hB hv (rising_tdel h.risingN s) (h.goodN.tdel s) (Nat.le_refl _) hbx2⟩
theorem St.refExpire (h : St w wr bs mb n M N v bx cs) (hn : n ≤ 400) (hbx2 : bx < wr.heap.size) (now : Int) :
    Calls Try.prog 62 #[v, .int .i64 now] wr fun e w' => ∃ v', e = .returned v' ∧ St w w' bs mb n M (N.filter fun p => decide (now < p.2.2)) v' bx cs := by
  obtain ⟨A, c, rfl, hl, hr⟩ := h.slice
  have hm := h.goodN.1
  obtain ⟨k, hk⟩ := expire_ok N now (by omega)
  have := concourseref29_Expire.calls k A c _ now _ wr hr (by rw [rows_length]; exact hl) hk
  rw [rows_length] at this
  exact this.mono fun e w' ⟨v', he, hv, hb⟩ => ⟨v', he, h.kept (Kept.of_below hb _) (below_then h.below h.below.size hb) (Kd.R_lower (Kd.R_mono (Kd.R_bound hv) (fun k hk => .inr hk.2.1)) h.below.size) (rising_filter h.risingN _) (h.goodN.filter _) (Nat.le_refl _) hbx2⟩
/-- The leases turn: the rows are those of before. -/
theorem St.turn (h : St w wr bs mb n M N v bx cs) (hbx2 : bx < wr.heap.size) {b m : Nat} {M' : Tabl} (hnm : n ≤ m) (hb : mb = some b ∨ mb = none ∧ wr.heap.size ≤ b) (hst : Leases w' bs 0 (some b) m M' (Lease.size M')) (ht : Turn wr w' bs 0 (fun k => k = b)) (hr : Rising ks M') (hs : Good 10000 m M') (hc : cs ≠ #[]) : St w w' bs (some b) m M' N v bx cs := by
  have hwb : w.heap.size ≤ b := by
    rcases hb with hb | ⟨_, hb⟩
    · exact h.own b hb
    · exact Nat.le_trans h.below.size hb
  have hokb : ∀ k, some k ≠ mb → k < wr.heap.size → k ≠ b := by
    rintro k h2 hk e
    subst e
    rcases hb with hb | ⟨_, hb⟩
    · exact h2 hb.symm
    · omega
  obtain ⟨hx1, hx2⟩ := h.hbx.resolve_left hc
  have hx3 : bx ≠ b := hokb bx (fun e => hx2 e.symm) hbx2
  refine ⟨hst, fun b' e => by injection e with e; rw [← e]; exact hwb, h.hbs, ?_, h.below.trans (ht.under h.below.size h.hbs (fun k hk => by subst hk; exact hwb)), hr, hs, h.risingN, h.goodN.mono hnm, fun j u hj => (World.cell?_of_block (ht.block bx hbx2 hx1 hx3)).trans (h.box j u hj), .inr ⟨hx1, fun e => hx3 (by injection e with e; exact e.symm)⟩⟩
  refine Kd.R_mono (Kd.R_step (Kd.R_bound h.rows) (fun k hk hlt => ht.block k hlt hk.1.1 (hokb k hk.1.2.1 hlt))) (fun k hk => ⟨hk.1.1, fun e => ?_, hk.1.2.2⟩)
  injection e with e
  exact hokb k hk.1.2.1 hk.2.2.1 e
theorem St.take (h : St w wr bs mb n M N v bx cs) (hn : n ≤ 400) (hbx2 : bx < wr.heap.size) (hc : cs ≠ #[]) {s t : ByteArray} (hs : s.size ≤ 10000) (ht : t.size ≤ 10000) (ticks now : Int) :
    Calls Try.prog 58 #[.pointer (some ⟨bs, 0, none⟩), .string s, .string t, .int .i64 ticks, .int .i64 now] wr fun e w' => e = .returned (.bool (!blocked M s t)) ∧ ∃ mb', St w w' bs mb' (n + 1) (if blocked M s t then M else tput ks M s (t, till ticks now)) N v bx cs := by
  obtain ⟨h0, h1⟩ := h.bound hn
  have go : (val M s = (⟨#[]⟩, 0) ∨ (1 ≤ (val M s).2 ∧ (val M s).1 = t)) → (tlook ks M s = none ∨ (val M s).1 = t) → blocked M s t = false → Calls Try.prog 58 #[.pointer (some ⟨bs, 0, none⟩), .string s, .string t, .int .i64 ticks, .int .i64 now] wr fun e w' => e = .returned (.bool (!blocked M s t)) ∧ ∃ mb', St w w' bs mb' (n + 1) (if blocked M s t then M else tput ks M s (t, till ticks now)) N v bx cs := by
    intro hgo hgo2 hbl
    rw [hbl]
    simp only [if_false, Bool.false_eq_true]
    refine (Take h.store s t (by omega) (by omega) hgo ticks now h0 h1 (by unfold maxLen; omega)).mono ?_
    rintro e w' ⟨rfl, b, hb, h2, h3⟩
    exact ⟨rfl, some b, h.turn hbx2 (by omega) hb (by rw [size_tput h.rising _ _ _ hgo2]; exact h2) h3 (rising_tput h.rising _ _) (h.good.tput hs ht (till_pos _ _)) hc⟩
  cases e : tlook ks M s with
  | none => exact go (.inl (by unfold val; rw [e]; rfl)) (.inl e) (by unfold blocked; rw [e])
  | some x =>
    have hx := h.good.look e
    have hv : val M s = x := by unfold val; rw [e]; rfl
    by_cases hxt : x.1 = t
    · exact go (.inr ⟨by rw [hv]; exact hx.2.2, by rw [hv]; exact hxt⟩) (.inr (by rw [hv]; exact hxt)) (by unfold blocked; rw [e]; simp [hxt])
    · have hbl : blocked M s t = true := by unfold blocked; rw [e]; simp [hxt]
      rw [hbl]
      exact (Take_blocked h.store s t x (by unfold maxLen; omega) e hx.2.2 hxt ticks now).mono fun e w' ⟨he, hb⟩ => ⟨he, mb, (h.move hb).mono (by omega)⟩
theorem St.free (h : St w wr bs mb n M N v bx cs) (hn : n ≤ 400) (hbx2 : bx < wr.heap.size) (hc : cs ≠ #[]) {s : ByteArray} (hs : s.size ≤ 10000) (t : ByteArray) :
    Calls Try.prog 60 #[.pointer (some ⟨bs, 0, none⟩), .string s, .string t] wr fun e w' => e = .returned (.bool (mine M s t)) ∧ St w w' bs mb n (if mine M s t then tdel ks M s else M) N v bx cs := by
  obtain ⟨h0, h1⟩ := h.bound hn
  cases e : tlook ks M s with
  | none =>
    rw [show mine M s t = false by unfold mine; rw [e]]
    exact (Free_not h.store s t (by unfold maxLen; omega) (.inl e)).mono fun e w' ⟨he, hb⟩ => ⟨he, h.move hb⟩
  | some x =>
    have hx := h.good.look e
    have hv : val M s = x := by unfold val; rw [e]; rfl
    by_cases hxt : x.1 = t
    · subst hxt
      rw [show mine M s x.1 = true by unfold mine; rw [e]; simp]
      cases mb with
      | none =>
        have hM : M = [] := h.store.map
        subst hM
        cases e
      | some b =>
        exact (Free_some h.store s x (by omega) e (by omega) h0 h1).mono fun e' w' ⟨he, h2, h3⟩ =>
          ⟨he, h.turn hbx2 (Nat.le_refl _) (.inl rfl) (by simp only [if_true]; rw [size_tdel h.rising e]; exact h2) h3 (rising_tdel h.rising s) (h.good.tdel s) hc⟩
    · rw [show mine M s t = false by unfold mine; rw [e]; simp [hxt]]
      exact (Free_not h.store s t (by unfold maxLen; omega) (.inr (by rw [hv]; exact hxt))).mono fun e w' ⟨he, hb⟩ => ⟨he, h.move hb⟩
theorem St.expire (h : St w wr bs mb n M N v bx cs) (hn : n ≤ 400) (hbx2 : bx < wr.heap.size) (hc : cs ≠ #[]) (now : Int) :
    Calls Try.prog 61 #[.pointer (some ⟨bs, 0, none⟩), .int .i64 now] wr fun e w' => e = .returned (.tuple #[]) ∧ St w w' bs mb n (M.filter fun p => decide (now < p.2.2)) N v bx cs := by
  obtain ⟨h0, h1⟩ := h.bound hn
  cases mb with
  | none =>
    have hM : M = [] := h.store.map
    subst hM
    exact (Expire_nilmap h.store now).mono fun e' w' ⟨he, hb⟩ => ⟨he, h.move hb⟩
  | some b =>
    refine (Expire_some h.store now (by omega) (fun p hp => ⟨by have := (h.good.2 p hp).1; omega, by have := (h.good.2 p hp).2.1; omega⟩) h1).mono ?_
    rintro e w' ⟨rfl, h2, h3⟩
    rw [without_all] at h2
    exact ⟨rfl, h.turn hbx2 (Nat.le_refl _) (.inl rfl) h2 h3 (rising_filter h.rising _) (h.good.filter _) hc⟩
theorem St.names (h : St w wr bs mb n M N v bx cs) (hn : n ≤ 400) :
    Calls Try.prog 66 #[.pointer (some ⟨bs, 0, none⟩)] wr fun e w' => ∃ A c, e = .returned (.slice A M.length c) ∧ (M.map fun p => p.1).length ≤ c ∧ Kd.C Kd.string w' A (M.map fun p => p.1).length (M.map fun p => p.1) ∧ Below wr.heap.size wr w' := by
  refine (Names_ h.store (by omega)).mono ?_
  rintro e w' ⟨v', rfl, hv, hb⟩
  obtain ⟨A, c, rfl, hl, hr⟩ := Kd.R_reads hv
  exact ⟨A, c, by rw [List.length_map], hl, hr, hb⟩
theorem St.refNames (h : St w wr bs mb n M N v bx cs) (hn : n ≤ 400) :
    Calls Try.prog 67 #[v] wr fun e w' => ∃ A c, e = .returned (.slice A N.length c) ∧ (N.map fun p => p.1).length ≤ c ∧ Kd.C Kd.string w' A (N.map fun p => p.1).length (N.map fun p => p.1) ∧ Below wr.heap.size wr w' := by
  obtain ⟨A, c, rfl, hl, hr⟩ := h.slice
  have hm := h.goodN.1
  obtain ⟨k, hk⟩ := names_ok N (by omega)
  have := concourseref29_Names.calls k A c _ _ wr hr (by rw [rows_length]; exact hl) hk
  rw [rows_length] at this
  refine this.mono ?_
  rintro e w' ⟨v', rfl, hv, hb⟩
  obtain ⟨A', c', rfl, hl', hr'⟩ := Kd.R_reads hv
  exact ⟨A', c', by rw [List.length_map], hl', hr', hb⟩
theorem St.cells {x : Step} (h : St w wr bs mb n M N v bx #[.int .i64 x.f0, .string x.f1, .string x.f2, .int .i64 x.f3, .int .i64 x.f4]) :
    wr.cell? ⟨bx, 0, none⟩ = some (.int .i64 x.f0) ∧ wr.cell? ⟨bx, 1, none⟩ = some (.string x.f1) ∧ wr.cell? ⟨bx, 2, none⟩ = some (.string x.f2) ∧ wr.cell? ⟨bx, 3, none⟩ = some (.int .i64 x.f3) ∧ wr.cell? ⟨bx, 4, none⟩ = some (.int .i64 x.f4) :=
  ⟨h.box 0 _ rfl, h.box 1 _ rfl, h.box 2 _ rfl, h.box 3 _ rfl, h.box 4 _ rfl⟩
theorem St.blt {x : Step} (h : St w wr bs mb n M N v bx #[.int .i64 x.f0, .string x.f1, .string x.f2, .int .i64 x.f3, .int .i64 x.f4]) : bx < wr.heap.size := World.block_lt_of_cell? _ _ h.cells.1
end
set_option maxRecDepth 100000 in
set_option maxHeartbeats 4000000 in
theorem LeaseSteps_walk (w : World) (A : Option Addr) (c : Nat) (l : List Step) (hr : Kd.C k87 w A l.length l) (hc : l.length ≤ c) (hq0 : ∀ x ∈ l, (Lit.int .i64 x.f0).wf = true ∧ x.f1.size ≤ 140737488351232 ∧ x.f2.size ≤ 140737488351232 ∧ (Lit.int .i64 x.f3).wf = true ∧ (Lit.int .i64 x.f4).wf = true) (hlen : l.length * 56 ≤ 140737488351232) :
    Calls Try.prog 12 #[.slice A l.length c] w fun e w' => e = .returned (.bool true) ∧ Below w.heap.size w w' := by
  have hq : ∀ x ∈ l, x.f1.size ≤ 140737488351232 ∧ x.f2.size ≤ 140737488351232 := fun x hx => ⟨(hq0 x hx).2.1, (hq0 x hx).2.2.1⟩
  clear hq0
  obtain ⟨r, hm1, hm2⟩ := much_ok l hq (by omega)
  have hM := hid (concourselaw29_much.calls _ A c l r w hr hc hm1)
  have HR := hid hr
  clear hq
  have HM2 := hid hm2
  clear hr hm1 hm2
  go_enter Try.func12, Try.ntmps12
  go_wp2_with fail
  refine hM.out.mono ?_
  rintro e w1 ⟨rfl, hb1⟩
  cases r with
  | true =>
    go_wp2_with (go_at_call 53; refine (awake _).mono ?_; rintro e w' ⟨rfl, hB⟩)
    go_ret
    exact ⟨rfl, hb1.trans (hB.mono hb1.size)⟩
  | false =>
    obtain ⟨h150, hsm⟩ := HM2.out rfl
    clear HM2 hM
    have hC := hid hc
    have HS := hid hsm
    clear hc hsm
    go_wp2_with (go_at_call 54; refine (New _).mono ?_; rintro e w' ⟨rfl, rfl⟩)
    have h0 : Leases (w1.alloc (.cells #[.map none, .int .i64 0] 106)) w1.heap.size 0 none 0 [] 0 := made w1 0
    have B0 : Below w.heap.size w (w1.alloc (.cells #[.map none, .int .i64 0] 106)) := hb1.alloc hb1.size _
    have hbs : w.heap.size ≤ w1.heap.size := hb1.size
    obtain ⟨bs, hbe⟩ : ∃ bs, bs = w1.heap.size := ⟨_, rfl⟩
    rw [← hbe] at h0 hbs ⊢
    generalize w1.alloc (.cells #[.map none, .int .i64 0] 106) = W0 at *
    clear hbe hb1 w1
    have S0 : St w W0 bs none 0 [] [] (.slice none 0 0) 0 #[] := ⟨h0, (fun b e => by cases e), hbs, Kd.R_nil _ _ _ _ _, B0, List.Pairwise.nil, Good.nil _ _, List.Pairwise.nil, Good.nil _ _, (fun j u hj => by simp at hj), .inl rfl⟩
    clear h0 B0 hbs
    go_wp2_with fail
    go_loopw [4, 5] (fun v0 v1 wr => ∃ (i : Nat) (mb : Option Nat) (M : Tabl) (bx : Nat) (cs : Array Value), i ≤ l.length ∧ v1 = .int .i64 i ∧ Hid (St w wr bs mb (2 * i) M M v0 bx cs)) (fun v0 v1 _ => l.length - (intOf v1).toNat)
    case atStart => exact ⟨0, none, [], 0, #[], Nat.zero_le _, rfl, hid S0⟩
    case round =>
      clear S0
      obtain ⟨i, mb, M, bx, cs, hil, rfl, HI⟩ := hrel
      by_cases hlt : i < l.length
      · obtain ⟨ad, ead, hx0, hx1, hx2, hx3, hx4⟩ := at_T87 (Kd.C_below HR.out HI.out.below) (i : Int) (by omega) (by omega)
        have hxs := HS.out _ (show rd_T87 l (i : Int) ∈ l by rw [rd_step]; simp [List.getD_eq_getElem?_getD, List.getElem?_eq_getElem hlt])
        generalize rd_T87 l (i : Int) = x at *
        rw [Int.toNat_natCast] at hx0 hx1 hx2 hx3 hx4
        subst ead
        have hi0 : (0 : Int) ≤ (i : Int) := by omega
        have hic : (i : Int) < (l.length : Int) := by omega
        have hS := hid (HI.out.boxed #[.int .i64 x.f0, .string x.f1, .string x.f2, .int .i64 x.f3, .int .i64 x.f4] 87)
        clear HI
        go_wp2_with fail
        replace hS := hS.out
        generalize wr.heap.size = bx2 at *
        generalize wr.alloc (.cells #[.int .i64 x.f0, .string x.f1, .string x.f2, .int .i64 x.f3, .int .i64 x.f4] 87) = W1 at *
        clear hx0 hx1 hx2 hx3 hx4
        obtain ⟨hk, hv⟩ := hxs
        have hi2 : 2 * i ≤ 400 := by omega
        have hi3 : 2 * (i + 1) ≤ 400 := by omega
        obtain ⟨q0, q1, q2, q3, q4⟩ := hS.cells
        refine (hS.find hi2 x.f1).mono ?_
        rintro e w2 ⟨⟨t, rfl, ht⟩, h2⟩
        replace hS := h2
        clear h2 q0 q1 q2 q3 q4
        obtain ⟨q0, q1, q2, q3, q4⟩ := hS.cells
        rcases ht with ⟨rfl, hn⟩ | ⟨j, hj, rfl, hj1, hj2⟩
        · have hg : Lease.grows M x.f1 x.f2 = 24 + (x.f1.size : Int) + (x.f2.size : Int) := by unfold Lease.grows; rw [hn]; rfl
          clear hn
          go_wp2_with fail
          have hG := hS.grows hk hv
          rw [hg] at hG
          refine hG.mono ?_
          rintro e w3 ⟨rfl, h3⟩
          replace hS := h3
          clear h3 q0 q1 q2 q3 q4
          obtain ⟨q0, q1, q2, q3, q4⟩ := hS.cells
          clear hg hG
          by_cases e1 : x.f0 = 1
          · rw [e1] at q0
            go_wp2_with fail
            refine (hS.refTake hi2 hS.blt hk hv x.f3 x.f4).mono ?_
            rintro e w4 ⟨v4, rfl, h4⟩
            replace hS := h4
            clear h4 q0 q1 q2 q3 q4
            obtain ⟨q0, q1, q2, q3, q4⟩ := hS.cells
            rw [e1] at q0
            go_wp2_with fail
            refine (hS.take (by omega) hS.blt (by simp) hk hv x.f3 x.f4).mono ?_
            rintro e w5 ⟨rfl, mb5, h5⟩
            obtain ⟨mb2, M2, hS2⟩ : ∃ mb2 M2, St w w5 bs mb2 (2 * (i + 1)) M2 M2 v4 bx2 _ := ⟨_, _, h5⟩
            clear h5 hS q0 q1 q2 q3 q4
            obtain ⟨q0, q1, q2, q3, q4⟩ := hS2.cells
            go_wp2_with fail
            refine (hS2.holder hk).mono ?_
            rintro e w6 ⟨rfl, h6⟩
            replace hS2 := h6
            clear h6 q0 q1 q2 q3 q4
            obtain ⟨q0, q1, q2, q3, q4⟩ := hS2.cells
            go_wp2_with fail
            refine (hS2.find hi3 x.f1).mono ?_
            rintro e w7 ⟨⟨t2, rfl, ht2⟩, h7⟩
            replace hS2 := h7
            clear h7 q0 q1 q2 q3 q4
            obtain ⟨q0, q1, q2, q3, q4⟩ := hS2.cells
            rcases ht2 with ⟨rfl, hn2⟩ | ⟨j2, hj2, rfl, hj3, hj4⟩
            · have hv2 : val M2 x.f1 = (⟨#[]⟩, 0) := by unfold val; rw [hn2]; rfl
              have hs2 : (tlook ks M2 x.f1).isSome = false := by rw [hn2]; rfl
              rw [hv2, hs2]
              clear hv2 hs2 hn2
              go_wp2_with fail
              refine hS2.size_.mono ?_
              rintro e w' ⟨rfl, rfl⟩
              go_wp2_with fail
              refine (hS2.refSize hi3).mono ?_
              rintro e w10 ⟨rfl, h10⟩
              go_wp2_with fail
              refine (h10.names hi3).mono ?_
              rintro e w11 ⟨A11, c11, rfl, hl11, hr11, hb11⟩
              replace h10 := h10.move hb11
              go_wp2_with fail
              refine (h10.refNames hi3).mono ?_
              rintro e w12 ⟨A12, c12, rfl, hl12, hr12, hb12⟩
              replace hr11 := Kd.C_below hr11 hb12
              replace h10 := h10.move hb12
              have hMl : (M2.map fun p => p.1).length ≤ 8796093022207 := by have := h10.good.1; rw [List.length_map]; omega
              go_wp2_with fail
              refine (Texts_same hr11 hl11 hr12 hl12 hMl (List.length_map _) (List.length_map _)).mono ?_
              rintro e w13 ⟨rfl, hb13⟩
              replace h10 := h10.move hb13
              clear hr11 hl11 hr12 hl12 hMl hS2 q0 q1 q2 q3 q4
              go_wp2_with fail
              go_roundw
              case rel => exact ⟨i + 1, mb2, M2, bx2, _, by omega, by go_num, hid h10⟩
              case measure => simp [intOf]; omega
            · have hv2 : val M2 x.f1 = M2[j2].2 := by unfold val; rw [hj4]; rfl
              have hs2 : (tlook ks M2 x.f1).isSome = true := by rw [hj4]; rfl
              rw [hv2, hs2]
              obtain ⟨A9, c9, rfl, hl9, hr9⟩ := hS2.slice
              obtain ⟨ad9, e9, y0, y1, y2⟩ := at_T98 hr9 (j2 : Int) (by omega) (by rw [rows_length]; omega)
              rw [rd_eq, Int.toNat_natCast, rows_at M2 hj2] at y0 y1 y2
              subst e9
              have y1' : w7.cell? ⟨(ad9.add (j2 * 3)).block, (ad9.add (j2 * 3)).off + 1, none⟩ = some (.string M2[j2].2.1) := y1
              have y2' : w7.cell? ⟨(ad9.add (j2 * 3)).block, (ad9.add (j2 * 3)).off + 2, none⟩ = some (.int .i64 M2[j2].2.2) := y2
              clear hv2 hs2 hr9 y0 y1 y2 hj4
              have hj0 : (0 : Int) ≤ (j2 : Int) := by omega
              have hjm : (j2 : Int) < (M2.length : Int) := by omega
              go_wp2_with fail
              refine hS2.size_.mono ?_
              rintro e w' ⟨rfl, rfl⟩
              go_wp2_with fail
              refine (hS2.refSize hi3).mono ?_
              rintro e w10 ⟨rfl, h10⟩
              go_wp2_with fail
              refine (h10.names hi3).mono ?_
              rintro e w11 ⟨A11, c11, rfl, hl11, hr11, hb11⟩
              replace h10 := h10.move hb11
              go_wp2_with fail
              refine (h10.refNames hi3).mono ?_
              rintro e w12 ⟨A12, c12, rfl, hl12, hr12, hb12⟩
              replace hr11 := Kd.C_below hr11 hb12
              replace h10 := h10.move hb12
              have hMl : (M2.map fun p => p.1).length ≤ 8796093022207 := by have := h10.good.1; rw [List.length_map]; omega
              go_wp2_with fail
              refine (Texts_same hr11 hl11 hr12 hl12 hMl (List.length_map _) (List.length_map _)).mono ?_
              rintro e w13 ⟨rfl, hb13⟩
              replace h10 := h10.move hb13
              clear hr11 hl11 hr12 hl12 hMl hS2 q0 q1 q2 q3 q4
              go_wp2_with fail
              go_roundw
              case rel => exact ⟨i + 1, mb2, M2, bx2, _, by omega, by go_num, hid h10⟩
              case measure => simp [intOf]; omega
          · by_cases e2 : x.f0 = 2
            · rw [e2] at q0
              go_wp2_with fail
              refine (hS.refFree hi2 hS.blt x.f1 x.f2).mono ?_
              rintro e w4 ⟨v4, rfl, h4⟩
              replace hS := h4
              clear h4 q0 q1 q2 q3 q4
              obtain ⟨q0, q1, q2, q3, q4⟩ := hS.cells
              rw [e2] at q0
              go_wp2_with fail
              refine (hS.free (by omega) hS.blt (by simp) hk x.f2).mono ?_
              rintro e w5 ⟨rfl, h5⟩
              obtain ⟨mb2, M2, hS2⟩ : ∃ mb2 M2, St w w5 bs mb2 (2 * (i + 1)) M2 M2 v4 bx2 _ := ⟨_, _, h5.mono (by omega)⟩
              clear h5 hS q0 q1 q2 q3 q4
              obtain ⟨q0, q1, q2, q3, q4⟩ := hS2.cells
              go_wp2_with fail
              refine (hS2.holder hk).mono ?_
              rintro e w6 ⟨rfl, h6⟩
              replace hS2 := h6
              clear h6 q0 q1 q2 q3 q4
              obtain ⟨q0, q1, q2, q3, q4⟩ := hS2.cells
              go_wp2_with fail
              refine (hS2.find hi3 x.f1).mono ?_
              rintro e w7 ⟨⟨t2, rfl, ht2⟩, h7⟩
              replace hS2 := h7
              clear h7 q0 q1 q2 q3 q4
              obtain ⟨q0, q1, q2, q3, q4⟩ := hS2.cells
              rcases ht2 with ⟨rfl, hn2⟩ | ⟨j2, hj2, rfl, hj3, hj4⟩
              · have hv2 : val M2 x.f1 = (⟨#[]⟩, 0) := by unfold val; rw [hn2]; rfl
                have hs2 : (tlook ks M2 x.f1).isSome = false := by rw [hn2]; rfl
                rw [hv2, hs2]
                clear hv2 hs2 hn2
                go_wp2_with fail
                refine hS2.size_.mono ?_
                rintro e w' ⟨rfl, rfl⟩
                go_wp2_with fail
                refine (hS2.refSize hi3).mono ?_
                rintro e w10 ⟨rfl, h10⟩
                go_wp2_with fail
                refine (h10.names hi3).mono ?_
                rintro e w11 ⟨A11, c11, rfl, hl11, hr11, hb11⟩
                replace h10 := h10.move hb11
                go_wp2_with fail
                refine (h10.refNames hi3).mono ?_
                rintro e w12 ⟨A12, c12, rfl, hl12, hr12, hb12⟩
                replace hr11 := Kd.C_below hr11 hb12
                replace h10 := h10.move hb12
                have hMl : (M2.map fun p => p.1).length ≤ 8796093022207 := by have := h10.good.1; rw [List.length_map]; omega
                go_wp2_with fail
                refine (Texts_same hr11 hl11 hr12 hl12 hMl (List.length_map _) (List.length_map _)).mono ?_
                rintro e w13 ⟨rfl, hb13⟩
                replace h10 := h10.move hb13
                clear hr11 hl11 hr12 hl12 hMl hS2 q0 q1 q2 q3 q4
                go_wp2_with fail
                go_roundw
                case rel => exact ⟨i + 1, mb2, M2, bx2, _, by omega, by go_num, hid h10⟩
                case measure => simp [intOf]; omega
              · have hv2 : val M2 x.f1 = M2[j2].2 := by unfold val; rw [hj4]; rfl
                have hs2 : (tlook ks M2 x.f1).isSome = true := by rw [hj4]; rfl
                rw [hv2, hs2]
                obtain ⟨A9, c9, rfl, hl9, hr9⟩ := hS2.slice
                obtain ⟨ad9, e9, y0, y1, y2⟩ := at_T98 hr9 (j2 : Int) (by omega) (by rw [rows_length]; omega)
                rw [rd_eq, Int.toNat_natCast, rows_at M2 hj2] at y0 y1 y2
                subst e9
                have y1' : w7.cell? ⟨(ad9.add (j2 * 3)).block, (ad9.add (j2 * 3)).off + 1, none⟩ = some (.string M2[j2].2.1) := y1
                have y2' : w7.cell? ⟨(ad9.add (j2 * 3)).block, (ad9.add (j2 * 3)).off + 2, none⟩ = some (.int .i64 M2[j2].2.2) := y2
                clear hv2 hs2 hr9 y0 y1 y2 hj4
                have hj0 : (0 : Int) ≤ (j2 : Int) := by omega
                have hjm : (j2 : Int) < (M2.length : Int) := by omega
                go_wp2_with fail
                refine hS2.size_.mono ?_
                rintro e w' ⟨rfl, rfl⟩
                go_wp2_with fail
                refine (hS2.refSize hi3).mono ?_
                rintro e w10 ⟨rfl, h10⟩
                go_wp2_with fail
                refine (h10.names hi3).mono ?_
                rintro e w11 ⟨A11, c11, rfl, hl11, hr11, hb11⟩
                replace h10 := h10.move hb11
                go_wp2_with fail
                refine (h10.refNames hi3).mono ?_
                rintro e w12 ⟨A12, c12, rfl, hl12, hr12, hb12⟩
                replace hr11 := Kd.C_below hr11 hb12
                replace h10 := h10.move hb12
                have hMl : (M2.map fun p => p.1).length ≤ 8796093022207 := by have := h10.good.1; rw [List.length_map]; omega
                go_wp2_with fail
                refine (Texts_same hr11 hl11 hr12 hl12 hMl (List.length_map _) (List.length_map _)).mono ?_
                rintro e w13 ⟨rfl, hb13⟩
                replace h10 := h10.move hb13
                clear hr11 hl11 hr12 hl12 hMl hS2 q0 q1 q2 q3 q4
                go_wp2_with fail
                go_roundw
                case rel => exact ⟨i + 1, mb2, M2, bx2, _, by omega, by go_num, hid h10⟩
                case measure => simp [intOf]; omega
            · go_wp2_with fail
              refine (hS.expire hi2 hS.blt (by simp) x.f4).mono ?_
              rintro e w4 ⟨rfl, h4⟩
              replace hS := h4
              clear h4 q0 q1 q2 q3 q4
              obtain ⟨q0, q1, q2, q3, q4⟩ := hS.cells
              go_wp2_with fail
              refine (hS.refExpire hi2 hS.blt x.f4).mono ?_
              rintro e w5 ⟨v4, rfl, h5⟩
              obtain ⟨mb2, M2, hS2⟩ : ∃ mb2 M2, St w w5 bs mb2 (2 * (i + 1)) M2 M2 v4 bx2 _ := ⟨_, _, h5.mono (by omega)⟩
              clear h5 hS q0 q1 q2 q3 q4
              obtain ⟨q0, q1, q2, q3, q4⟩ := hS2.cells
              go_wp2_with fail
              refine (hS2.holder hk).mono ?_
              rintro e w6 ⟨rfl, h6⟩
              replace hS2 := h6
              clear h6 q0 q1 q2 q3 q4
              obtain ⟨q0, q1, q2, q3, q4⟩ := hS2.cells
              go_wp2_with fail
              refine (hS2.find hi3 x.f1).mono ?_
              rintro e w7 ⟨⟨t2, rfl, ht2⟩, h7⟩
              replace hS2 := h7
              clear h7 q0 q1 q2 q3 q4
              obtain ⟨q0, q1, q2, q3, q4⟩ := hS2.cells
              rcases ht2 with ⟨rfl, hn2⟩ | ⟨j2, hj2, rfl, hj3, hj4⟩
              · have hv2 : val M2 x.f1 = (⟨#[]⟩, 0) := by unfold val; rw [hn2]; rfl
                have hs2 : (tlook ks M2 x.f1).isSome = false := by rw [hn2]; rfl
                rw [hv2, hs2]
                clear hv2 hs2 hn2
                go_wp2_with fail
                refine hS2.size_.mono ?_
                rintro e w' ⟨rfl, rfl⟩
                go_wp2_with fail
                refine (hS2.refSize hi3).mono ?_
                rintro e w10 ⟨rfl, h10⟩
                go_wp2_with fail
                refine (h10.names hi3).mono ?_
                rintro e w11 ⟨A11, c11, rfl, hl11, hr11, hb11⟩
                replace h10 := h10.move hb11
                go_wp2_with fail
                refine (h10.refNames hi3).mono ?_
                rintro e w12 ⟨A12, c12, rfl, hl12, hr12, hb12⟩
                replace hr11 := Kd.C_below hr11 hb12
                replace h10 := h10.move hb12
                have hMl : (M2.map fun p => p.1).length ≤ 8796093022207 := by have := h10.good.1; rw [List.length_map]; omega
                go_wp2_with fail
                refine (Texts_same hr11 hl11 hr12 hl12 hMl (List.length_map _) (List.length_map _)).mono ?_
                rintro e w13 ⟨rfl, hb13⟩
                replace h10 := h10.move hb13
                clear hr11 hl11 hr12 hl12 hMl hS2 q0 q1 q2 q3 q4
                go_wp2_with fail
                go_roundw
                case rel => exact ⟨i + 1, mb2, M2, bx2, _, by omega, by go_num, hid h10⟩
                case measure => simp [intOf]; omega
              · have hv2 : val M2 x.f1 = M2[j2].2 := by unfold val; rw [hj4]; rfl
                have hs2 : (tlook ks M2 x.f1).isSome = true := by rw [hj4]; rfl
                rw [hv2, hs2]
                obtain ⟨A9, c9, rfl, hl9, hr9⟩ := hS2.slice
                obtain ⟨ad9, e9, y0, y1, y2⟩ := at_T98 hr9 (j2 : Int) (by omega) (by rw [rows_length]; omega)
                rw [rd_eq, Int.toNat_natCast, rows_at M2 hj2] at y0 y1 y2
                subst e9
                have y1' : w7.cell? ⟨(ad9.add (j2 * 3)).block, (ad9.add (j2 * 3)).off + 1, none⟩ = some (.string M2[j2].2.1) := y1
                have y2' : w7.cell? ⟨(ad9.add (j2 * 3)).block, (ad9.add (j2 * 3)).off + 2, none⟩ = some (.int .i64 M2[j2].2.2) := y2
                clear hv2 hs2 hr9 y0 y1 y2 hj4
                have hj0 : (0 : Int) ≤ (j2 : Int) := by omega
                have hjm : (j2 : Int) < (M2.length : Int) := by omega
                go_wp2_with fail
                refine hS2.size_.mono ?_
                rintro e w' ⟨rfl, rfl⟩
                go_wp2_with fail
                refine (hS2.refSize hi3).mono ?_
                rintro e w10 ⟨rfl, h10⟩
                go_wp2_with fail
                refine (h10.names hi3).mono ?_
                rintro e w11 ⟨A11, c11, rfl, hl11, hr11, hb11⟩
                replace h10 := h10.move hb11
                go_wp2_with fail
                refine (h10.refNames hi3).mono ?_
                rintro e w12 ⟨A12, c12, rfl, hl12, hr12, hb12⟩
                replace hr11 := Kd.C_below hr11 hb12
                replace h10 := h10.move hb12
                have hMl : (M2.map fun p => p.1).length ≤ 8796093022207 := by have := h10.good.1; rw [List.length_map]; omega
                go_wp2_with fail
                refine (Texts_same hr11 hl11 hr12 hl12 hMl (List.length_map _) (List.length_map _)).mono ?_
                rintro e w13 ⟨rfl, hb13⟩
                replace h10 := h10.move hb13
                clear hr11 hl11 hr12 hl12 hMl hS2 q0 q1 q2 q3 q4
                go_wp2_with fail
                go_roundw
                case rel => exact ⟨i + 1, mb2, M2, bx2, _, by omega, by go_num, hid h10⟩
                case measure => simp [intOf]; omega
        · have hg : Lease.grows M x.f1 x.f2 = 0 := by unfold Lease.grows; rw [hj2]; rfl
          have hj0 : (0 : Int) ≤ (j : Int) := by omega
          clear hj1 hj2
          go_wp2_with fail
          have hG := hS.grows hk hv
          rw [hg] at hG
          refine hG.mono ?_
          rintro e w3 ⟨rfl, h3⟩
          replace hS := h3
          clear h3 q0 q1 q2 q3 q4
          obtain ⟨q0, q1, q2, q3, q4⟩ := hS.cells
          clear hg hG
          by_cases e1 : x.f0 = 1
          · rw [e1] at q0
            go_wp2_with fail
            refine (hS.refTake hi2 hS.blt hk hv x.f3 x.f4).mono ?_
            rintro e w4 ⟨v4, rfl, h4⟩
            replace hS := h4
            clear h4 q0 q1 q2 q3 q4
            obtain ⟨q0, q1, q2, q3, q4⟩ := hS.cells
            rw [e1] at q0
            go_wp2_with fail
            refine (hS.take (by omega) hS.blt (by simp) hk hv x.f3 x.f4).mono ?_
            rintro e w5 ⟨rfl, mb5, h5⟩
            obtain ⟨mb2, M2, hS2⟩ : ∃ mb2 M2, St w w5 bs mb2 (2 * (i + 1)) M2 M2 v4 bx2 _ := ⟨_, _, h5⟩
            clear h5 hS q0 q1 q2 q3 q4
            obtain ⟨q0, q1, q2, q3, q4⟩ := hS2.cells
            go_wp2_with fail
            refine (hS2.holder hk).mono ?_
            rintro e w6 ⟨rfl, h6⟩
            replace hS2 := h6
            clear h6 q0 q1 q2 q3 q4
            obtain ⟨q0, q1, q2, q3, q4⟩ := hS2.cells
            go_wp2_with fail
            refine (hS2.find hi3 x.f1).mono ?_
            rintro e w7 ⟨⟨t2, rfl, ht2⟩, h7⟩
            replace hS2 := h7
            clear h7 q0 q1 q2 q3 q4
            obtain ⟨q0, q1, q2, q3, q4⟩ := hS2.cells
            rcases ht2 with ⟨rfl, hn2⟩ | ⟨j2, hj2, rfl, hj3, hj4⟩
            · have hv2 : val M2 x.f1 = (⟨#[]⟩, 0) := by unfold val; rw [hn2]; rfl
              have hs2 : (tlook ks M2 x.f1).isSome = false := by rw [hn2]; rfl
              rw [hv2, hs2]
              clear hv2 hs2 hn2
              go_wp2_with fail
              refine hS2.size_.mono ?_
              rintro e w' ⟨rfl, rfl⟩
              go_wp2_with fail
              refine (hS2.refSize hi3).mono ?_
              rintro e w10 ⟨rfl, h10⟩
              go_wp2_with fail
              refine (h10.names hi3).mono ?_
              rintro e w11 ⟨A11, c11, rfl, hl11, hr11, hb11⟩
              replace h10 := h10.move hb11
              go_wp2_with fail
              refine (h10.refNames hi3).mono ?_
              rintro e w12 ⟨A12, c12, rfl, hl12, hr12, hb12⟩
              replace hr11 := Kd.C_below hr11 hb12
              replace h10 := h10.move hb12
              have hMl : (M2.map fun p => p.1).length ≤ 8796093022207 := by have := h10.good.1; rw [List.length_map]; omega
              go_wp2_with fail
              refine (Texts_same hr11 hl11 hr12 hl12 hMl (List.length_map _) (List.length_map _)).mono ?_
              rintro e w13 ⟨rfl, hb13⟩
              replace h10 := h10.move hb13
              clear hr11 hl11 hr12 hl12 hMl hS2 q0 q1 q2 q3 q4
              go_wp2_with fail
              go_roundw
              case rel => exact ⟨i + 1, mb2, M2, bx2, _, by omega, by go_num, hid h10⟩
              case measure => simp [intOf]; omega
            · have hv2 : val M2 x.f1 = M2[j2].2 := by unfold val; rw [hj4]; rfl
              have hs2 : (tlook ks M2 x.f1).isSome = true := by rw [hj4]; rfl
              rw [hv2, hs2]
              obtain ⟨A9, c9, rfl, hl9, hr9⟩ := hS2.slice
              obtain ⟨ad9, e9, y0, y1, y2⟩ := at_T98 hr9 (j2 : Int) (by omega) (by rw [rows_length]; omega)
              rw [rd_eq, Int.toNat_natCast, rows_at M2 hj2] at y0 y1 y2
              subst e9
              have y1' : w7.cell? ⟨(ad9.add (j2 * 3)).block, (ad9.add (j2 * 3)).off + 1, none⟩ = some (.string M2[j2].2.1) := y1
              have y2' : w7.cell? ⟨(ad9.add (j2 * 3)).block, (ad9.add (j2 * 3)).off + 2, none⟩ = some (.int .i64 M2[j2].2.2) := y2
              clear hv2 hs2 hr9 y0 y1 y2 hj4
              have hj0 : (0 : Int) ≤ (j2 : Int) := by omega
              have hjm : (j2 : Int) < (M2.length : Int) := by omega
              go_wp2_with fail
              refine hS2.size_.mono ?_
              rintro e w' ⟨rfl, rfl⟩
              go_wp2_with fail
              refine (hS2.refSize hi3).mono ?_
              rintro e w10 ⟨rfl, h10⟩
              go_wp2_with fail
              refine (h10.names hi3).mono ?_
              rintro e w11 ⟨A11, c11, rfl, hl11, hr11, hb11⟩
              replace h10 := h10.move hb11
              go_wp2_with fail
              refine (h10.refNames hi3).mono ?_
              rintro e w12 ⟨A12, c12, rfl, hl12, hr12, hb12⟩
              replace hr11 := Kd.C_below hr11 hb12
              replace h10 := h10.move hb12
              have hMl : (M2.map fun p => p.1).length ≤ 8796093022207 := by have := h10.good.1; rw [List.length_map]; omega
              go_wp2_with fail
              refine (Texts_same hr11 hl11 hr12 hl12 hMl (List.length_map _) (List.length_map _)).mono ?_
              rintro e w13 ⟨rfl, hb13⟩
              replace h10 := h10.move hb13
              clear hr11 hl11 hr12 hl12 hMl hS2 q0 q1 q2 q3 q4
              go_wp2_with fail
              go_roundw
              case rel => exact ⟨i + 1, mb2, M2, bx2, _, by omega, by go_num, hid h10⟩
              case measure => simp [intOf]; omega
          · by_cases e2 : x.f0 = 2
            · rw [e2] at q0
              go_wp2_with fail
              refine (hS.refFree hi2 hS.blt x.f1 x.f2).mono ?_
              rintro e w4 ⟨v4, rfl, h4⟩
              replace hS := h4
              clear h4 q0 q1 q2 q3 q4
              obtain ⟨q0, q1, q2, q3, q4⟩ := hS.cells
              rw [e2] at q0
              go_wp2_with fail
              refine (hS.free (by omega) hS.blt (by simp) hk x.f2).mono ?_
              rintro e w5 ⟨rfl, h5⟩
              obtain ⟨mb2, M2, hS2⟩ : ∃ mb2 M2, St w w5 bs mb2 (2 * (i + 1)) M2 M2 v4 bx2 _ := ⟨_, _, h5.mono (by omega)⟩
              clear h5 hS q0 q1 q2 q3 q4
              obtain ⟨q0, q1, q2, q3, q4⟩ := hS2.cells
              go_wp2_with fail
              refine (hS2.holder hk).mono ?_
              rintro e w6 ⟨rfl, h6⟩
              replace hS2 := h6
              clear h6 q0 q1 q2 q3 q4
              obtain ⟨q0, q1, q2, q3, q4⟩ := hS2.cells
              go_wp2_with fail
              refine (hS2.find hi3 x.f1).mono ?_
              rintro e w7 ⟨⟨t2, rfl, ht2⟩, h7⟩
              replace hS2 := h7
              clear h7 q0 q1 q2 q3 q4
              obtain ⟨q0, q1, q2, q3, q4⟩ := hS2.cells
              rcases ht2 with ⟨rfl, hn2⟩ | ⟨j2, hj2, rfl, hj3, hj4⟩
              · have hv2 : val M2 x.f1 = (⟨#[]⟩, 0) := by unfold val; rw [hn2]; rfl
                have hs2 : (tlook ks M2 x.f1).isSome = false := by rw [hn2]; rfl
                rw [hv2, hs2]
                clear hv2 hs2 hn2
                go_wp2_with fail
                refine hS2.size_.mono ?_
                rintro e w' ⟨rfl, rfl⟩
                go_wp2_with fail
                refine (hS2.refSize hi3).mono ?_
                rintro e w10 ⟨rfl, h10⟩
                go_wp2_with fail
                refine (h10.names hi3).mono ?_
                rintro e w11 ⟨A11, c11, rfl, hl11, hr11, hb11⟩
                replace h10 := h10.move hb11
                go_wp2_with fail
                refine (h10.refNames hi3).mono ?_
                rintro e w12 ⟨A12, c12, rfl, hl12, hr12, hb12⟩
                replace hr11 := Kd.C_below hr11 hb12
                replace h10 := h10.move hb12
                have hMl : (M2.map fun p => p.1).length ≤ 8796093022207 := by have := h10.good.1; rw [List.length_map]; omega
                go_wp2_with fail
                refine (Texts_same hr11 hl11 hr12 hl12 hMl (List.length_map _) (List.length_map _)).mono ?_
                rintro e w13 ⟨rfl, hb13⟩
                replace h10 := h10.move hb13
                clear hr11 hl11 hr12 hl12 hMl hS2 q0 q1 q2 q3 q4
                go_wp2_with fail
                go_roundw
                case rel => exact ⟨i + 1, mb2, M2, bx2, _, by omega, by go_num, hid h10⟩
                case measure => simp [intOf]; omega
              · have hv2 : val M2 x.f1 = M2[j2].2 := by unfold val; rw [hj4]; rfl
                have hs2 : (tlook ks M2 x.f1).isSome = true := by rw [hj4]; rfl
                rw [hv2, hs2]
                obtain ⟨A9, c9, rfl, hl9, hr9⟩ := hS2.slice
                obtain ⟨ad9, e9, y0, y1, y2⟩ := at_T98 hr9 (j2 : Int) (by omega) (by rw [rows_length]; omega)
                rw [rd_eq, Int.toNat_natCast, rows_at M2 hj2] at y0 y1 y2
                subst e9
                have y1' : w7.cell? ⟨(ad9.add (j2 * 3)).block, (ad9.add (j2 * 3)).off + 1, none⟩ = some (.string M2[j2].2.1) := y1
                have y2' : w7.cell? ⟨(ad9.add (j2 * 3)).block, (ad9.add (j2 * 3)).off + 2, none⟩ = some (.int .i64 M2[j2].2.2) := y2
                clear hv2 hs2 hr9 y0 y1 y2 hj4
                have hj0 : (0 : Int) ≤ (j2 : Int) := by omega
                have hjm : (j2 : Int) < (M2.length : Int) := by omega
                go_wp2_with fail
                refine hS2.size_.mono ?_
                rintro e w' ⟨rfl, rfl⟩
                go_wp2_with fail
                refine (hS2.refSize hi3).mono ?_
                rintro e w10 ⟨rfl, h10⟩
                go_wp2_with fail
                refine (h10.names hi3).mono ?_
                rintro e w11 ⟨A11, c11, rfl, hl11, hr11, hb11⟩
                replace h10 := h10.move hb11
                go_wp2_with fail
                refine (h10.refNames hi3).mono ?_
                rintro e w12 ⟨A12, c12, rfl, hl12, hr12, hb12⟩
                replace hr11 := Kd.C_below hr11 hb12
                replace h10 := h10.move hb12
                have hMl : (M2.map fun p => p.1).length ≤ 8796093022207 := by have := h10.good.1; rw [List.length_map]; omega
                go_wp2_with fail
                refine (Texts_same hr11 hl11 hr12 hl12 hMl (List.length_map _) (List.length_map _)).mono ?_
                rintro e w13 ⟨rfl, hb13⟩
                replace h10 := h10.move hb13
                clear hr11 hl11 hr12 hl12 hMl hS2 q0 q1 q2 q3 q4
                go_wp2_with fail
                go_roundw
                case rel => exact ⟨i + 1, mb2, M2, bx2, _, by omega, by go_num, hid h10⟩
                case measure => simp [intOf]; omega
            · go_wp2_with fail
              refine (hS.expire hi2 hS.blt (by simp) x.f4).mono ?_
              rintro e w4 ⟨rfl, h4⟩
              replace hS := h4
              clear h4 q0 q1 q2 q3 q4
              obtain ⟨q0, q1, q2, q3, q4⟩ := hS.cells
              go_wp2_with fail
              refine (hS.refExpire hi2 hS.blt x.f4).mono ?_
              rintro e w5 ⟨v4, rfl, h5⟩
              obtain ⟨mb2, M2, hS2⟩ : ∃ mb2 M2, St w w5 bs mb2 (2 * (i + 1)) M2 M2 v4 bx2 _ := ⟨_, _, h5.mono (by omega)⟩
              clear h5 hS q0 q1 q2 q3 q4
              obtain ⟨q0, q1, q2, q3, q4⟩ := hS2.cells
              go_wp2_with fail
              refine (hS2.holder hk).mono ?_
              rintro e w6 ⟨rfl, h6⟩
              replace hS2 := h6
              clear h6 q0 q1 q2 q3 q4
              obtain ⟨q0, q1, q2, q3, q4⟩ := hS2.cells
              go_wp2_with fail
              refine (hS2.find hi3 x.f1).mono ?_
              rintro e w7 ⟨⟨t2, rfl, ht2⟩, h7⟩
              replace hS2 := h7
              clear h7 q0 q1 q2 q3 q4
              obtain ⟨q0, q1, q2, q3, q4⟩ := hS2.cells
              rcases ht2 with ⟨rfl, hn2⟩ | ⟨j2, hj2, rfl, hj3, hj4⟩
              · have hv2 : val M2 x.f1 = (⟨#[]⟩, 0) := by unfold val; rw [hn2]; rfl
                have hs2 : (tlook ks M2 x.f1).isSome = false := by rw [hn2]; rfl
                rw [hv2, hs2]
                clear hv2 hs2 hn2
                go_wp2_with fail
                refine hS2.size_.mono ?_
                rintro e w' ⟨rfl, rfl⟩
                go_wp2_with fail
                refine (hS2.refSize hi3).mono ?_
                rintro e w10 ⟨rfl, h10⟩
                go_wp2_with fail
                refine (h10.names hi3).mono ?_
                rintro e w11 ⟨A11, c11, rfl, hl11, hr11, hb11⟩
                replace h10 := h10.move hb11
                go_wp2_with fail
                refine (h10.refNames hi3).mono ?_
                rintro e w12 ⟨A12, c12, rfl, hl12, hr12, hb12⟩
                replace hr11 := Kd.C_below hr11 hb12
                replace h10 := h10.move hb12
                have hMl : (M2.map fun p => p.1).length ≤ 8796093022207 := by have := h10.good.1; rw [List.length_map]; omega
                go_wp2_with fail
                refine (Texts_same hr11 hl11 hr12 hl12 hMl (List.length_map _) (List.length_map _)).mono ?_
                rintro e w13 ⟨rfl, hb13⟩
                replace h10 := h10.move hb13
                clear hr11 hl11 hr12 hl12 hMl hS2 q0 q1 q2 q3 q4
                go_wp2_with fail
                go_roundw
                case rel => exact ⟨i + 1, mb2, M2, bx2, _, by omega, by go_num, hid h10⟩
                case measure => simp [intOf]; omega
              · have hv2 : val M2 x.f1 = M2[j2].2 := by unfold val; rw [hj4]; rfl
                have hs2 : (tlook ks M2 x.f1).isSome = true := by rw [hj4]; rfl
                rw [hv2, hs2]
                obtain ⟨A9, c9, rfl, hl9, hr9⟩ := hS2.slice
                obtain ⟨ad9, e9, y0, y1, y2⟩ := at_T98 hr9 (j2 : Int) (by omega) (by rw [rows_length]; omega)
                rw [rd_eq, Int.toNat_natCast, rows_at M2 hj2] at y0 y1 y2
                subst e9
                have y1' : w7.cell? ⟨(ad9.add (j2 * 3)).block, (ad9.add (j2 * 3)).off + 1, none⟩ = some (.string M2[j2].2.1) := y1
                have y2' : w7.cell? ⟨(ad9.add (j2 * 3)).block, (ad9.add (j2 * 3)).off + 2, none⟩ = some (.int .i64 M2[j2].2.2) := y2
                clear hv2 hs2 hr9 y0 y1 y2 hj4
                have hj0 : (0 : Int) ≤ (j2 : Int) := by omega
                have hjm : (j2 : Int) < (M2.length : Int) := by omega
                go_wp2_with fail
                refine hS2.size_.mono ?_
                rintro e w' ⟨rfl, rfl⟩
                go_wp2_with fail
                refine (hS2.refSize hi3).mono ?_
                rintro e w10 ⟨rfl, h10⟩
                go_wp2_with fail
                refine (h10.names hi3).mono ?_
                rintro e w11 ⟨A11, c11, rfl, hl11, hr11, hb11⟩
                replace h10 := h10.move hb11
                go_wp2_with fail
                refine (h10.refNames hi3).mono ?_
                rintro e w12 ⟨A12, c12, rfl, hl12, hr12, hb12⟩
                replace hr11 := Kd.C_below hr11 hb12
                replace h10 := h10.move hb12
                have hMl : (M2.map fun p => p.1).length ≤ 8796093022207 := by have := h10.good.1; rw [List.length_map]; omega
                go_wp2_with fail
                refine (Texts_same hr11 hl11 hr12 hl12 hMl (List.length_map _) (List.length_map _)).mono ?_
                rintro e w13 ⟨rfl, hb13⟩
                replace h10 := h10.move hb13
                clear hr11 hl11 hr12 hl12 hMl hS2 q0 q1 q2 q3 q4
                go_wp2_with fail
                go_roundw
                case rel => exact ⟨i + 1, mb2, M2, bx2, _, by omega, by go_num, hid h10⟩
                case measure => simp [intOf]; omega
      · have hiL : i = l.length := by omega
        subst hiL
        have hL := HI.out.below
        clear HI
        go_wp2_with (go_at_call 53; refine (awake _).mono ?_; rintro e w' ⟨rfl, hB⟩)
        go_ret
        exact ⟨rfl, hL.trans (hB.mono hL.size)⟩
end Go.Proofs.Ytnccofpkanhfhaa.Lease
