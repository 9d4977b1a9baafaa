/-
  concourselaw29.LeaseOne: the walk.
-/
import Derived.Test.YtnccofpkanhfhaaLeasePure
import Derived.Test.YtnccofpkanhfhaaLeaseLaw
import Derived.Outline
set_option linter.unusedVariables false
set_option linter.unusedSimpArgs false
namespace Go.Proofs.Ytnccofpkanhfhaa.Lease
open Go.RowKit Go.Maps Go.WideMaps Go.Proofs.Ytnccofpkanhfhaa.Tab Go.Proofs.Ytnccofpkanhfhaa.Pure Go.Proofs.YtnccofpkanhfhaaW.PrintWords
/-- Leases of the call's own. -/
structure Sg (w wr : World) (bs : Nat) (mb : Option Nat) (n : Nat) (M : Tabl) : Prop where
  store : Leases wr bs 0 mb n M (size M)
  own : ∀ b, mb = some b → w.heap.size ≤ b
  hbs : w.heap.size ≤ bs
  below : Below w.heap.size w wr
  rising : Rising ks M
  good : Good 140737488351232 n M
section
variable {w wr w' : World} {bs n : Nat} {mb : Option Nat} {M : Tabl}
theorem Sg.move (h : Sg w wr bs mb n M) (hb : Below wr.heap.size wr w') : Sg w w' bs mb n M :=
  ⟨h.store.below hb, h.own, h.hbs, below_then h.below h.below.size hb, h.rising, h.good⟩
theorem Sg.bound (h : Sg w wr bs mb n M) (hn : n ≤ 400) : 0 ≤ Lease.size M ∧ Lease.size M ≤ 1152921504606846976 := by
  refine ⟨size_nonneg M, ?_⟩
  have h1 := h.good.size
  have h2 : ((24 + 2 * 140737488351232 : Nat) : Int) * (n : Int) ≤ (24 + 2 * 140737488351232 : Nat) * (400 : Int) := Int.mul_le_mul_of_nonneg_left (by omega) (by omega)
  omega
theorem Sg.size_ (h : Sg w wr bs mb n M) :
    Calls Try.prog 64 #[.pointer (some ⟨bs, 0, none⟩)] wr fun e w' => e = .returned (.int .i64 (Lease.size M)) ∧ w' = wr := Size_ h.store
theorem Sg.turn (h : Sg w wr bs mb n M) {b m : Nat} {M' : Tabl} (hb : mb = some b ∨ mb = none ∧ wr.heap.size ≤ b) (hst : Leases w' bs 0 (some b) m M' (Lease.size M')) (ht : Turn wr w' bs 0 (fun k => k = b)) (hr : Rising ks M') (hs : Good 140737488351232 m M') : Sg w w' bs (some b) m M' := by
  have hwb : w.heap.size ≤ b := by
    rcases hb with hb | ⟨_, hb⟩
    · exact h.own b hb
    · exact Nat.le_trans h.below.size hb
  exact ⟨hst, fun b' e => by injection e with e; rw [← e]; exact hwb, h.hbs, h.below.trans (ht.under h.below.size h.hbs (fun k hk => by subst hk; exact hwb)), hr, hs⟩
/-- It is nobody's, or this one's. -/
theorem Sg.take (h : Sg w wr bs mb n M) (hn : n ≤ 400) {s t : ByteArray} (hs : s.size ≤ 140737488351232) (ht : t.size ≤ 140737488351232) (ticks now : Int) (hno : tlook ks M s = none ∨ ∃ x, tlook ks M s = some x ∧ x.1 = t) :
    Calls Try.prog 58 #[.pointer (some ⟨bs, 0, none⟩), .string s, .string t, .int .i64 ticks, .int .i64 now] wr fun e w' => e = .returned (.bool true) ∧ ∃ b, Sg w w' bs (some b) (n + 1) (tput ks M s (t, till ticks now)) := by
  obtain ⟨h0, h1⟩ := h.bound hn
  have hgo : val M s = (⟨#[]⟩, 0) ∨ (1 ≤ (val M s).2 ∧ (val M s).1 = t) := by
    rcases hno with e | ⟨x, e, hx⟩
    · exact .inl (by unfold val; rw [e]; rfl)
    · have hv : val M s = x := by unfold val; rw [e]; rfl
      exact .inr ⟨by rw [hv]; exact (h.good.look e).2.2, by rw [hv]; exact hx⟩
  have hgo2 : tlook ks M s = none ∨ (val M s).1 = t := by
    rcases hno with e | ⟨x, e, hx⟩
    · exact .inl e
    · exact .inr (by unfold val; rw [e]; exact hx)
  refine (Take h.store s t hs ht hgo ticks now h0 h1 (by unfold maxLen; omega)).mono ?_
  rintro e w' ⟨rfl, b, hb, h2, h3⟩
  exact ⟨rfl, b, h.turn hb (by rw [size_tput h.rising _ _ _ hgo2]; exact h2) h3 (rising_tput h.rising _ _) (h.good.tput hs ht (till_pos _ _))⟩
theorem Sg.barred (h : Sg w wr bs mb n M) {s t : ByteArray} (hs : s.size ≤ 140737488351232) (ticks now : Int) {x : ByteArray × Int} (e : tlook ks M s = some x) (hx : x.1 ≠ t) :
    Calls Try.prog 58 #[.pointer (some ⟨bs, 0, none⟩), .string s, .string t, .int .i64 ticks, .int .i64 now] wr fun e w' => e = .returned (.bool false) ∧ Sg w w' bs mb n M :=
  (Take_blocked h.store s t x (by unfold maxLen; omega) e (h.good.look e).2.2 hx ticks now).mono fun e w' ⟨he, hb⟩ => ⟨he, h.move hb⟩
theorem Sg.not_free (h : Sg w wr bs mb n M) {s t : ByteArray} (hs : s.size ≤ 140737488351232) (hno : tlook ks M s = none ∨ (val M s).1 ≠ t) :
    Calls Try.prog 60 #[.pointer (some ⟨bs, 0, none⟩), .string s, .string t] wr fun e w' => e = .returned (.bool false) ∧ Sg w w' bs mb n M :=
  (Free_not h.store s t (by unfold maxLen; omega) hno).mono fun e w' ⟨he, hb⟩ => ⟨he, h.move hb⟩
theorem Sg.free {b : Nat} (h : Sg w wr bs (some b) n M) (hn : n ≤ 400) {s t : ByteArray} (hs : s.size ≤ 140737488351232) {x : ByteArray × Int} (e : tlook ks M s = some x) (hx : x.1 = t) :
    Calls Try.prog 60 #[.pointer (some ⟨bs, 0, none⟩), .string s, .string t] wr fun e w' => e = .returned (.bool true) ∧ Sg w w' bs (some b) n (tdel ks M s) := by
  obtain ⟨h0, h1⟩ := h.bound hn
  subst hx
  exact (Free_some h.store s x hs e (h.good.look e).2.1 h0 h1).mono fun e' w' ⟨he, h2, h3⟩ => ⟨he, h.turn (.inl rfl) (by rw [size_tdel h.rising e]; exact h2) h3 (rising_tdel h.rising s) (h.good.tdel s)⟩
theorem Sg.expire {b : Nat} (h : Sg w wr bs (some b) n M) (hn : n ≤ 400) (now : Int) :
    Calls Try.prog 61 #[.pointer (some ⟨bs, 0, none⟩), .int .i64 now] wr fun e w' => e = .returned (.tuple #[]) ∧ Sg w w' bs (some b) n (M.filter fun p => decide (now < p.2.2)) := by
  obtain ⟨h0, h1⟩ := h.bound hn
  refine (Expire_some h.store now (by omega) (fun p hp => ⟨(h.good.2 p hp).1, (h.good.2 p hp).2.1⟩) h1).mono ?_
  rintro e w' ⟨rfl, h2, h3⟩
  rw [without_all] at h2
  exact ⟨rfl, h.turn (.inl rfl) h2 h3 (rising_filter h.rising _) (h.good.filter _)⟩
end
theorem one_look (s : ByteArray) (x : ByteArray × Int) : tlook ks [(s, x)] s = some x := by simp [tlook, ks_one.self]
theorem one_del (s : ByteArray) (x : ByteArray × Int) : tdel ks [(s, x)] s = [] := by simp [tdel, ks_one.self]
theorem one_put (s : ByteArray) (x y : ByteArray × Int) : tput ks [(s, x)] s y = [(s, y)] := by unfold tput; rw [one_del]; rfl
theorem till_eq {ticks now : Int} (h1 : 1 ≤ ticks) (h2 : ticks ≤ 65536) (h3 : 0 ≤ now) (h4 : now ≤ 65535) : till ticks now = now + ticks := by unfold till; omega
set_option maxRecDepth 100000 in
set_option maxHeartbeats 4000000 in
theorem LeaseOne_walk (w : World) (name : ByteArray) (hs : name.size ≤ 140737488351232) (a b : ByteArray) (hab : a.size ≤ 140737488351232 ∧ b.size ≤ 140737488351232) (p q : Int) (hpq : (Lit.int .u16 p).wf = true ∧ (Lit.int .u16 q).wf = true) :
    Calls Try.prog 13 #[.string name, .agg #[.string a, .string b], .agg #[.int .u16 p, .int .u16 q]] w fun e w' => e = .returned (.bool true) ∧ Below w.heap.size w w' := by
  obtain ⟨ha, hb⟩ := hab
  have hp : 0 ≤ p ∧ p ≤ 65535 := by have h := hpq.1; simp [Lit.wf, IntKind.min, IntKind.max, IntKind.signed, IntKind.bits] at h; omega
  have hq : 0 ≤ q ∧ q ≤ 65535 := by have h := hpq.2; simp [Lit.wf, IntKind.min, IntKind.max, IntKind.signed, IntKind.bits] at h; omega
  clear hpq
  obtain ⟨hp0, hp1⟩ := hp
  obtain ⟨hq0, hq1⟩ := hq
  go_enter Try.func13, Try.ntmps13
  go_wp2_with fail
  have e0 : (w.alloc (.cells #[.string a, .string b] 101)).heap.size = w.heap.size + 1 := by simp
  have q0 : ((w.alloc (.cells #[.string a, .string b] 101)).alloc (.cells #[.int .u16 p, .int .u16 q] 103)).cell? ⟨w.heap.size, 0, none⟩ = some (.string a) := (World.cell?_of_block (Below.heap_alloc _ _ _ (by simp))).trans (World.cell?_alloc_at _ _ _ _ rfl)
  have q1 : ((w.alloc (.cells #[.string a, .string b] 101)).alloc (.cells #[.int .u16 p, .int .u16 q] 103)).cell? ⟨w.heap.size, 1, none⟩ = some (.string b) := (World.cell?_of_block (Below.heap_alloc _ _ _ (by simp))).trans (World.cell?_alloc_at _ _ _ _ rfl)
  have q2 : ((w.alloc (.cells #[.string a, .string b] 101)).alloc (.cells #[.int .u16 p, .int .u16 q] 103)).cell? ⟨w.heap.size + 1, 0, none⟩ = some (.int .u16 p) := by rw [← e0]; exact World.cell?_alloc_at _ _ _ _ rfl
  have q3 : ((w.alloc (.cells #[.string a, .string b] 101)).alloc (.cells #[.int .u16 p, .int .u16 q] 103)).cell? ⟨w.heap.size + 1, 1, none⟩ = some (.int .u16 q) := by rw [← e0]; exact World.cell?_alloc_at _ _ _ _ rfl
  have B1 : Below w.heap.size w ((w.alloc (.cells #[.string a, .string b] 101)).alloc (.cells #[.int .u16 p, .int .u16 q] 103)) := ((Below.refl _ _).alloc (Nat.le_refl _) _).alloc (by simp) _
  clear e0
  generalize (w.alloc (.cells #[.string a, .string b] 101)).alloc (.cells #[.int .u16 p, .int .u16 q] 103) = W at *
  have HB := hid B1
  clear B1
  generalize hn0 : w.heap.size = n0 at q0 q1 q2 q3 ⊢
  rw [← hn0]
  go_region_held3 (fun w' => w'.cell? ⟨n0, 0, none⟩ = some (.string a) ∧ w'.cell? ⟨n0, 1, none⟩ = some (.string b) ∧ w'.cell? ⟨n0 + 1, 0, none⟩ = some (.int .u16 p) ∧ w'.cell? ⟨n0 + 1, 1, none⟩ = some (.int .u16 q)) (first | exact ⟨q0, q1, q2, q3⟩ | go_keep) (fail)
  have HBd := hid (show Below w.heap.size w W.drew from HB.out.drew)
  by_cases hab : a = b
  · subst hab
    go_wp2_with (go_at_call 53; refine (awake _).mono ?_; rintro e w' ⟨rfl, hB⟩)
    go_ret
    exact ⟨rfl, HBd.out.trans (hB.mono HBd.out.size)⟩
  have hab2 : (a.toList == b.toList) = false := by rw [beq_eq_false_iff_ne]; exact fun e => hab (toList_inj.1 e)
  go_wp2_with fail
  have hw1 : IntKind.i64.wrap (p + 1) = p + 1 := IntWalk.i64_in _ (by omega)
  go_region_held3 (fun w' => w'.cell? ⟨n0 + 1, 0, none⟩ = some (.int .u16 p) ∧ w'.cell? ⟨n0 + 1, 1, none⟩ = some (.int .u16 q)) (first | exact ⟨q2, q3⟩ | go_keep) (fail)
  have hw0 : IntKind.i64.wrap p = p := IntWalk.i64_in _ (by omega)
  have hwq : IntKind.i64.wrap q = q := IntWalk.i64_in _ (by omega)
  rw [hw0, hw1, hwq]
  have HB2 := hid (show Below w.heap.size w W.drew.drew from HBd.out.drew)
  generalize W.drew.drew = W2 at *
  clear q0 q1 q2 q3 hw0 hw1 hwq HBd HB
  generalize n0 + 1 = n1 at *
  have ht1 : till (p + 1) q = q + (p + 1) := till_eq (by omega) (by omega) hq0 hq1
  have ht2 : till 1 q = q + 1 := till_eq (by omega) (by omega) hq0 hq1
  have hwa : IntKind.i64.wrap (q + (p + 1)) = q + (p + 1) := IntWalk.i64_in _ (by omega)
  have hwb : IntKind.i64.wrap (q + (p + 1) - 1) = q + (p + 1) - 1 := IntWalk.i64_in _ (by omega)
  have S0 : Sg w (W2.alloc (.cells #[.map none, .int .i64 0] 106)) W2.heap.size none 0 [] := ⟨made W2 0, (fun b e => by cases e), HB2.out.size, HB2.out.alloc HB2.out.size _, List.Pairwise.nil, Good.nil _ _⟩
  clear hn0
  go_wp2_with fail
  generalize W2.alloc (.cells #[.map none, .int .i64 0] 106) = W3 at *
  generalize W2.heap.size = bs at *
  refine (S0.take (by omega) hs ha (p + 1) q (.inl rfl)).mono ?_
  rintro e w1 ⟨rfl, b1, S1⟩
  rw [ht1] at S1
  change Sg w w1 bs (some b1) 1 [(name, (a, q + (p + 1)))] at S1
  clear S0
  go_wp2_with fail
  refine (S1.barred hs (p + 1) q (one_look _ _) hab).mono ?_
  rintro e w2 ⟨rfl, S2⟩
  clear S1
  go_wp2_with fail
  refine (S2.take (by omega) hs ha (p + 1) q (.inr ⟨_, one_look _ _, rfl⟩)).mono ?_
  rintro e w3 ⟨rfl, b3, S3⟩
  rw [ht1, one_put] at S3
  clear S2
  go_wp2_with fail
  refine (S3.not_free hs (.inr (by unfold val; rw [one_look]; exact hab))).mono ?_
  rintro e w4 ⟨rfl, S4⟩
  clear S3
  go_wp2_with fail
  refine (S4.expire (by omega) _).mono ?_
  rintro e w5 ⟨rfl, S5⟩
  rw [List.filter_cons, if_pos (by simp; omega), List.filter_nil] at S5
  clear S4
  go_wp2_with fail
  refine (S5.barred hs 1 q (one_look _ _) hab).mono ?_
  rintro e w6 ⟨rfl, S6⟩
  clear S5
  go_wp2_with fail
  refine (S6.expire (by omega) _).mono ?_
  rintro e w7 ⟨rfl, S7⟩
  rw [List.filter_cons, if_neg (by simp), List.filter_nil] at S7
  clear S6
  go_wp2_with fail
  refine (S7.take (by omega) hs hb 1 q (.inl rfl)).mono ?_
  rintro e w8 ⟨rfl, b8, S8⟩
  rw [ht2] at S8
  change Sg w w8 bs (some b8) 3 [(name, (b, q + 1))] at S8
  clear S7
  go_wp2_with fail
  refine (S8.barred hs 1 q (one_look _ _) (fun e => hab e.symm)).mono ?_
  rintro e w9 ⟨rfl, S9⟩
  clear S8
  go_wp2_with fail
  refine (S9.free (by omega) hs (one_look _ _) rfl).mono ?_
  rintro e w10 ⟨rfl, S10⟩
  rw [one_del] at S10
  clear S9
  go_wp2_with fail
  refine (S10.not_free hs (.inl rfl)).mono ?_
  rintro e w11 ⟨rfl, S11⟩
  clear S10
  go_wp2_with fail
  refine S11.size_.mono ?_
  rintro e w' ⟨rfl, rfl⟩
  go_wp2_with (go_at_call 53; refine (awake _).mono ?_; rintro e w' ⟨rfl, hB⟩)
  go_ret
  exact ⟨rfl, S11.below.trans (hB.mono S11.below.size)⟩
end Go.Proofs.Ytnccofpkanhfhaa.Lease
