/-
  concourselaw26.KvSteps: the walk.
-/
import Derived.Test.YtnccofpkanhfhaaKvPure
import Derived.Test.YtnccofpkanhfhaaKvLaw
import Derived.Test.YtnccofpkanhfhaaTexts
import Derived.Deep.RegionHeld3
import Derived.Deep.DrawnRows
import Derived.Outline
set_option linter.unusedVariables false
set_option linter.unusedSimpArgs false
namespace Go.Proofs.Ytnccofpkanhfhaa.Kv
open Go.RowKit Go.Maps Go.WideMaps Go.Proofs.Ytnccofpkanhfhaa.Tab Go.Proofs.Ytnccofpkanhfhaa.Pure Go.Proofs.Ytnccofpkanhfhaa.R Go.Proofs.Ytnccofpkanhfhaa.Texts Go.Proofs.YtnccofpkanhfhaaW.PrintWords
attribute [local go_sem ↓] Go.wp_at_zero Go.wp_at_succ
/-- A store (it holds M), and the document's rows N. -/
structure St (w wr : World) (bs : Nat) (mb : Option Nat) (n : Nat) (M N : Tabl) (v : Value) : Prop where
  store : Store wr bs 0 mb n M (size M)
  own : ∀ b, mb = some b → w.heap.size ≤ b
  hbs : w.heap.size ≤ bs
  rows : Kd.R k114 114 wr w.heap.size (fun k => k ≠ bs ∧ some k ≠ mb) v (rows N)
  below : Below w.heap.size w wr
  rising : Rising ks M
  small : Small n M
  risingN : Rising ks N
  smallN : Small n N
section
variable {w wr w' : World} {bs n : Nat} {mb : Option Nat} {M N : Tabl} {v : Value}
theorem St.move (h : St w wr bs mb n M N v) (hb : Below wr.heap.size wr w') : St w w' bs mb n M N v :=
  ⟨h.store.below hb, h.own, h.hbs, Kd.R_below h.rows hb, below_then h.below h.below.size hb, h.rising, h.small, h.risingN, h.smallN⟩
theorem St.drew (h : St w wr bs mb n M N v) : St w wr.drew bs mb n M N v := ⟨h.store.drew, h.own, h.hbs, Kd.R_drew h.rows, h.below.drew, h.rising, h.small, h.risingN, h.smallN⟩
theorem St.mono (h : St w wr bs mb n M N v) {m : Nat} (hm : n ≤ m) : St w wr bs mb m M N v :=
  ⟨⟨h.store.c0, h.store.c1, h.store.f0, h.store.f1, h.store.map.mono hm⟩, h.own, h.hbs, h.rows, h.below, h.rising, h.small.mono hm, h.risingN, h.smallN.mono hm⟩
theorem St.slice (h : St w wr bs mb n M N v) : ∃ A c, v = .slice A N.length c ∧ N.length ≤ c ∧ Kd.C k114 wr A (Kv.rows N).length (Kv.rows N) := by
  obtain ⟨A, c, he, hl, hr⟩ := Kd.R_reads h.rows
  rw [rows_length] at he hl
  exact ⟨A, c, he, hl, hr⟩
theorem St.grows (h : St w wr bs mb n M N v) {s t : ByteArray} (hs : s.size ≤ 20000) (ht : t.size ≤ 20000) :
    Calls Try.prog 31 #[.pointer (some ⟨bs, 0, none⟩), .string s, .string t] wr fun e w' => e = .returned (.int .i64 (Kv.grows M s t)) ∧ St w w' bs mb n M N v :=
  (Grows h.store s t (by omega) (by omega) (by have := h.small.val s; omega)).mono fun e w' ⟨he, hb⟩ => ⟨he, h.move hb⟩
theorem St.get (h : St w wr bs mb n M N v) {s : ByteArray} (hs : s.size ≤ 20000) :
    Calls Try.prog 29 #[.pointer (some ⟨bs, 0, none⟩), .string s] wr fun e w' => e = .returned (.tuple #[.string (val M s), .bool (tlook ks M s).isSome]) ∧ St w w' bs mb n M N v :=
  (Get_ h.store s (by unfold maxLen; omega)).mono fun e w' ⟨he, hb⟩ => ⟨he, h.move hb⟩
theorem St.refGet (h : St w wr bs mb n M N v) (hn : n ≤ 200) (s : ByteArray) :
    Calls Try.prog 30 #[v, .string s] wr fun e w' => e = .returned (.tuple #[.string (val N s), .bool (tlook ks N s).isSome]) ∧ St w w' bs mb n M N v := by
  obtain ⟨A, c, rfl, hl, hr⟩ := h.slice
  have hm := h.smallN.1
  obtain ⟨k, hk⟩ := get_ok N s (by omega)
  have := concourseref26_Get.calls k A c _ s _ _ wr hr (by rw [rows_length]; exact hl) hk
  rw [rows_length] at this
  exact this.mono fun e w' ⟨he, hd⟩ => ⟨he, h.move hd.below⟩
theorem St.refSize (h : St w wr bs mb n M N v) (hn : n ≤ 200) :
    Calls Try.prog 32 #[v] wr fun e w' => e = .returned (.int .i64 (Kv.size N)) ∧ St w w' bs mb n M N v := by
  obtain ⟨A, c, rfl, hl, hr⟩ := h.slice
  have hm := h.smallN.1
  obtain ⟨k, hk⟩ := size_ok N (by omega) (by have := h.smallN.size; omega)
  have := concourseref26_Size.calls k A c _ _ wr hr (by rw [rows_length]; exact hl) hk
  rw [rows_length] at this
  exact this.mono fun e w' ⟨he, hd⟩ => ⟨he, h.move hd.below⟩
theorem St.size_ (h : St w wr bs mb n M N v) :
    Calls Try.prog 37 #[.pointer (some ⟨bs, 0, none⟩)] wr fun e w' => e = .returned (.int .i64 (Kv.size M)) ∧ w' = wr := Size_ h.store
/-- What lies behind the world in which a call began is neither the store nor its map. -/
theorem St.fresh (h : St w wr bs mb n M N v) {v' : Value} {ys : List Row} (hv : Kd.R k114 114 w' wr.heap.size (fun _ => True) v' ys) :
    Kd.R k114 114 w' w.heap.size (fun k => k ≠ bs ∧ some k ≠ mb) v' ys :=
  Kd.R_lower (Kd.R_mono (Kd.R_bound hv) (fun k hk => ⟨by have := h.store.lt; omega, fun e => by subst e; have := h.store.map.lt; omega⟩)) h.below.size
/-- The document's rows behind a put, in a slice of their own: the store is as it was. -/
theorem St.refPut (h : St w wr bs mb n M N v) (hn : n ≤ 200) (s t : ByteArray) :
    Calls Try.prog 33 #[v, .string s, .string t] wr fun e w' => ∃ v', e = .returned v' ∧ Kd.R k114 114 w' w.heap.size (fun k => k ≠ bs ∧ some k ≠ mb) v' (Kv.rows (tput ks N s t)) ∧ St w w' bs mb n M N v := by
  obtain ⟨A, c, rfl, hl, hr⟩ := h.slice
  have hm := h.smallN.1
  obtain ⟨k, hk⟩ := put_ok h.risingN s t (by omega)
  have := concourseref26_Put.calls k A c _ s t _ wr hr (by rw [rows_length]; exact hl) hk
  rw [rows_length] at this
  exact this.mono fun e w' ⟨v', he, hv, hb⟩ => ⟨v', he, h.fresh hv, h.move hb⟩
theorem St.refDel (h : St w wr bs mb n M N v) (hn : n ≤ 200) (s : ByteArray) :
    Calls Try.prog 36 #[v, .string s] wr fun e w' => ∃ v', e = .returned v' ∧ Kd.R k114 114 w' w.heap.size (fun k => k ≠ bs ∧ some k ≠ mb) v' (Kv.rows (tdel ks N s)) ∧ St w w' bs mb n M N v := by
  obtain ⟨A, c, rfl, hl, hr⟩ := h.slice
  have hm := h.smallN.1
  obtain ⟨k, hk⟩ := del_ok N s (by omega)
  have := concourseref26_Del.calls k A c _ s _ wr hr (by rw [rows_length]; exact hl) hk
  rw [rows_length] at this
  exact this.mono fun e w' ⟨v', he, hv, hb⟩ => ⟨v', he, h.fresh hv, h.move hb⟩
/-- The size of rows that were made just now. -/
theorem St.newSize (h : St w wr bs mb n M N v) {base : Nat} {ok : Nat → Prop} {v' : Value} {s t : ByteArray} (hv : Kd.R k114 114 wr base ok v' (Kv.rows (tput ks N s t))) (hn : n ≤ 200) (hs : s.size ≤ 20000) (ht : t.size ≤ 20000) :
    Calls Try.prog 32 #[v'] wr fun e w' => e = .returned (.int .i64 (Kv.size N + Kv.grows N s t)) ∧ St w w' bs mb n M N v := by
  obtain ⟨A, c, rfl, hl, hr⟩ := Kd.R_reads hv
  have hsm := h.smallN.tput hs ht
  have hm := hsm.1
  obtain ⟨k, hk⟩ := size_ok (tput ks N s t) (by omega) (by have := hsm.size; omega)
  have := concourseref26_Size.calls k A c _ _ wr hr hl hk
  rw [size_tput h.risingN] at this
  exact this.mono fun e w' ⟨he, hd⟩ => ⟨he, h.move hd.below⟩
/-- The rows are those of a new slice from now on. -/
theorem St.laid (h : St w wr bs mb n M N v) {v' : Value} (hv : Kd.R k114 114 wr w.heap.size (fun k => k ≠ bs ∧ some k ≠ mb) v' (Kv.rows M)) : St w wr bs mb n M M v' :=
  ⟨h.store, h.own, h.hbs, hv, h.below, h.rising, h.small, h.rising, h.small⟩
/-- The store turns: the rows are those of before. -/
theorem St.turn (h : St w wr bs mb n M N v) {b m : Nat} {M' : Tabl} (hnm : n ≤ m) (hb : mb = some b ∨ mb = none ∧ wr.heap.size ≤ b) (hst : Store w' bs 0 (some b) m M' (Kv.size M')) (ht : Turn wr w' bs 0 (fun k => k = b)) (hr : Rising ks M') (hs : Small m M') : St w w' bs (some b) m M' N v := by
  have hwb : w.heap.size ≤ b := by
    rcases hb with hb | ⟨_, hb⟩
    · exact h.own b hb
    · exact Nat.le_trans h.below.size hb
  have hokb : ∀ k, k ≠ bs ∧ some k ≠ mb → k < wr.heap.size → k ≠ b := by
    rintro k ⟨h1, h2⟩ hk e
    subst e
    rcases hb with hb | ⟨_, hb⟩
    · exact h2 hb.symm
    · omega
  refine ⟨hst, fun b' e => by injection e with e; rw [← e]; exact hwb, h.hbs, ?_, h.below.trans (ht.under h.below.size h.hbs (fun k hk => by subst hk; exact hwb)), hr, hs, h.risingN, h.smallN.mono hnm⟩
  refine Kd.R_mono (Kd.R_step (Kd.R_bound h.rows) (fun k hk hlt => ht.block k hlt hk.1.1 (hokb k hk.1 hlt))) (fun k hk => ⟨hk.1.1, fun e => ?_⟩)
  injection e with e
  exact hokb k hk.1 hk.2.2.1 e
theorem St.put (h : St w wr bs mb n M N v) (hn : n ≤ 200) {s t : ByteArray} (hs : s.size ≤ 20000) (ht : t.size ≤ 20000) :
    Calls Try.prog 34 #[.pointer (some ⟨bs, 0, none⟩), .string s, .string t] wr fun e w' => e = .returned (.tuple #[]) ∧ ∃ b, St w w' bs (some b) (n + 1) (tput ks M s t) N v :=
  (Put h.store s t (by omega) (by omega) (by have := h.small.val s; omega) (size_nonneg M) (by have := h.small.size; omega) (by unfold maxLen; omega)).mono fun e w' ⟨he, b, hb, h2, h3⟩ =>
    ⟨he, b, h.turn (by omega) hb (by rw [size_tput h.rising]; exact h2) h3 (rising_tput h.rising s t) (h.small.tput hs ht)⟩
theorem St.del (h : St w wr bs mb n M N v) (hn : n ≤ 200) {s : ByteArray} (hs : s.size ≤ 20000) :
    Calls Try.prog 35 #[.pointer (some ⟨bs, 0, none⟩), .string s] wr fun e w' => e = .returned (.bool (tlook ks M s).isSome) ∧ St w w' bs mb n (tdel ks M s) N v := by
  cases hl : tlook ks M s with
  | none =>
    rw [tdel_none hl]
    exact (Del_none h.store s (by unfold maxLen; omega) hl).mono fun e w' ⟨he, hb⟩ => ⟨he, h.move hb⟩
  | some x =>
    have hx := look_val (M := M) (s := s) (by rw [hl]; rfl)
    rw [hl] at hx
    injection hx with hx
    have hxs := h.small.val s
    rw [← hx] at hxs
    cases mb with
    | none =>
      have hM : M = [] := h.store.map
      subst hM
      cases hl
    | some b =>
      exact (Del_some h.store s x (by omega) hl (by omega) (size_nonneg M) (by have := h.small.size; omega)).mono fun e w' ⟨he, h2, h3⟩ =>
        ⟨he, h.turn (Nat.le_refl _) (.inl rfl) (by rw [size_tdel h.rising hl]; exact h2) h3 (rising_tdel h.rising s) (h.small.tdel s)⟩
theorem St.keys (h : St w wr bs mb n M N v) (hn : n ≤ 200) :
    Calls Try.prog 38 #[.pointer (some ⟨bs, 0, none⟩)] wr fun e w' => ∃ A c, e = .returned (.slice A M.length c) ∧ (M.map fun p => p.1).length ≤ c ∧ Kd.C Kd.string w' A (M.map fun p => p.1).length (M.map fun p => p.1) ∧ Below wr.heap.size wr w' := by
  refine (kv_any h.store (by omega)).mono ?_
  rintro e w' ⟨v', rfl, hv, hb⟩
  obtain ⟨A, c, rfl, hl, hr⟩ := Kd.R_reads hv
  exact ⟨A, c, by rw [List.length_map], hl, hr, hb⟩
theorem St.refKeys (h : St w wr bs mb n M N v) (hn : n ≤ 200) :
    Calls Try.prog 39 #[v] wr fun e w' => ∃ A c, e = .returned (.slice A N.length c) ∧ (N.map fun p => p.1).length ≤ c ∧ Kd.C Kd.string w' A (N.map fun p => p.1).length (N.map fun p => p.1) ∧ Below wr.heap.size wr w' := by
  obtain ⟨A, c, rfl, hl, hr⟩ := h.slice
  have hm := h.smallN.1
  obtain ⟨k, hk⟩ := keys_ok N (by omega)
  have := concourseref26_Keys.calls k A c _ _ wr hr (by rw [rows_length]; exact hl) hk
  rw [rows_length] at this
  refine this.mono ?_
  rintro e w' ⟨v', rfl, hv, hb⟩
  obtain ⟨A', c', rfl, hl', hr'⟩ := Kd.R_reads hv
  exact ⟨A', c', by rw [List.length_map], hl', hr', hb⟩
end
set_option maxRecDepth 100000 in
set_option maxHeartbeats 2000000 in
theorem KvSteps_walk (w : World) (A : Option Addr) (c : Nat) (l : List Step) (hr : Kd.C k50 w A l.length l) (hc : l.length ≤ c) (hq0 : ∀ x ∈ l, (Lit.int .i64 x.f0).wf = true ∧ x.f1.size ≤ 140737488351232 ∧ x.f2.size ≤ 140737488351232) (hlen : l.length * 40 ≤ 140737488351232) :
    Calls Try.prog 6 #[.slice A l.length c] w fun e w' => e = .returned (.bool true) ∧ Below w.heap.size w w' := by
  have hq := fun x hx => (hq0 x hx).2
  clear hq0
  obtain ⟨r, hm1, hm2⟩ := much_ok l hq (by omega)
  have hM := hid (concourselaw26_Much.calls _ A c l r w hr hc hm1)
  have HR := hid hr
  clear hq
  have HM2 := hid hm2
  clear hr hm1 hm2
  go_enter Try.func6, Try.ntmps6
  go_wp2_with fail
  refine hM.out.mono ?_
  rintro e w1 ⟨rfl, hb1⟩
  cases r with
  | true =>
    go_wp2_with (go_at_call 27; refine (awake _).mono ?_; rintro e w' ⟨rfl, hB⟩)
    go_ret
    exact ⟨rfl, hb1.trans (hB.mono hb1.size)⟩
  | false =>
    obtain ⟨h200, hsm⟩ := HM2.out rfl
    clear HM2 hM
    have hC := hid hc
    have HS := hid hsm
    clear hc hsm
    go_wp2_with (go_at_call 28; refine (New _).mono ?_; rintro e w' ⟨rfl, rfl⟩)
    have h0 : Store (w1.alloc (.cells #[.map none, .int .i64 0] 64)) w1.heap.size 0 none 0 [] 0 := made w1 0
    have B0 : Below w.heap.size w (w1.alloc (.cells #[.map none, .int .i64 0] 64)) := hb1.alloc hb1.size _
    have hbs : w.heap.size ≤ w1.heap.size := hb1.size
    obtain ⟨bs, hbe⟩ : ∃ bs, bs = w1.heap.size := ⟨_, rfl⟩
    rw [← hbe] at h0 hbs ⊢
    generalize w1.alloc (.cells #[.map none, .int .i64 0] 64) = W0 at *
    clear hbe hb1 w1
    have S0 : St w W0 bs none 0 [] [] (.slice none 0 0) := ⟨h0, (fun b e => by cases e), hbs, Kd.R_nil _ _ _ _ _, B0, List.Pairwise.nil, small_nil _, List.Pairwise.nil, small_nil _⟩
    clear h0 B0 hbs
    go_loopw [4, 5] (fun v0 v1 wr => ∃ (i : Nat) (mb : Option Nat) (M : Tabl), i ≤ l.length ∧ v1 = .int .i64 i ∧ Hid (St w wr bs mb i M M v0)) (fun v0 v1 _ => l.length - (intOf v1).toNat)
    case atStart => exact ⟨0, none, [], Nat.zero_le _, rfl, hid S0⟩
    case round =>
      clear S0
      obtain ⟨i, mb, M, hil, rfl, HI⟩ := hrel
      by_cases hlt : i < l.length
      · obtain ⟨ad, ead, hx0, hx1, hx2⟩ := at_T50 (Kd.C_below HR.out HI.out.below) (i : Int) (by omega) (by omega)
        have hxs := HS.out _ (show rd_T50 l (i : Int) ∈ l by rw [rd_step]; simp [List.getD_eq_getElem?_getD, List.getElem?_eq_getElem hlt])
        obtain ⟨x, HX⟩ : ∃ x, Hid (rd_T50 l (i : Int) = x) := ⟨_, hid rfl⟩
        rw [HX.out] at hx0 hx1 hx2 hxs
        rw [Int.toNat_natCast] at hx0 hx1 hx2
        subst ead
        have hi0 : (0 : Int) ≤ (i : Int) := by omega
        have hic : (i : Int) < (l.length : Int) := by omega
        go_wp2_with fail
        go_region_held3 (fun w' => w'.cell? ⟨(ad.add (i * 3)).block, (ad.add (i * 3)).off + 1, none⟩ = some (.string x.f1) ∧ w'.cell? ⟨(ad.add (i * 3)).block, (ad.add (i * 3)).off + 2, none⟩ = some (.string x.f2)) (first | exact ⟨hx1, hx2⟩ | go_keep) (fail)
        clear hx0 hx1 hx2
        have hS := HI.out.drew
        clear HI
        generalize wr.drew = wr at *
        obtain ⟨hk, hv⟩ := hxs
        have hi2 : i ≤ 200 := by omega
        have hgw : IntKind.i64.wrap (size M + grows M x.f1 x.f2 - size M) = grows M x.f1 x.f2 := by
          have := hS.small.val x.f1
          have := Kv.grows_bd M x.f1 x.f2 (by omega) (by omega) (by omega)
          rw [IntWalk.i64_in _ (by omega)]
          omega
        go_wp2_with fail
        refine (hS.get hk).mono ?_
        rintro e w2 ⟨rfl, h2⟩
        replace hS := h2
        clear h2
        go_wp2_with fail
        refine (hS.refGet hi2 x.f1).mono ?_
        rintro e w3 ⟨rfl, h3⟩
        replace hS := h3
        clear h3
        go_wp2_with fail
        refine (hS.grows hk hv).mono ?_
        rintro e w4 ⟨rfl, h4⟩
        replace hS := h4
        clear h4
        go_wp2_with fail
        refine (hS.refPut hi2 x.f1 x.f2).mono ?_
        rintro e w5 ⟨v5, rfl, hv5, h5⟩
        replace hS := h5
        clear h5
        go_wp2_with fail
        refine (hS.newSize hv5 hi2 hk hv).mono ?_
        rintro e w6 ⟨rfl, h6⟩
        replace hS := h6
        clear h6 hv5
        go_wp2_with fail
        refine (hS.refSize hi2).mono ?_
        rintro e w7 ⟨rfl, h7⟩
        replace hS := h7
        clear h7
        obtain ⟨ad', ead', hy0, _, _⟩ := at_T50 (Kd.C_below HR.out hS.below) (i : Int) (by omega) (by omega)
        obtain rfl : ad = ad' := by injection ead'
        rw [HX.out, Int.toNat_natCast] at hy0
        have hic2 : (i : Int) ≤ (c : Int) := by have := hC.out; omega
        have hi3 : i + 1 ≤ 200 := by omega
        by_cases e1 : x.f0 = 1
        · rw [e1] at hy0
          go_wp2_with fail
          refine (hS.put hi2 hk hv).mono ?_
          rintro e w8 ⟨rfl, b, h8⟩
          go_wp2_with fail
          refine (h8.refPut hi3 x.f1 x.f2).mono ?_
          rintro e w9 ⟨v9, rfl, hv9, h9⟩
          obtain ⟨mb2, M2, hS2⟩ : ∃ mb2 M2, St w w9 bs mb2 (i + 1) M2 M2 v9 := ⟨_, _, h9.laid hv9⟩
          clear h8 h9 hv9 hS
          go_wp2_with fail
          refine hS2.size_.mono ?_
          rintro e w' ⟨rfl, rfl⟩
          go_wp2_with fail
          refine (hS2.refSize hi3).mono ?_
          rintro e w10 ⟨rfl, h10⟩
          go_wp2_with fail
          refine (h10.keys hi3).mono ?_
          rintro e w11 ⟨A11, c11, rfl, hl11, hr11, hb11⟩
          replace h10 := h10.move hb11
          go_wp2_with fail
          refine (h10.refKeys hi3).mono ?_
          rintro e w12 ⟨A12, c12, rfl, hl12, hr12, hb12⟩
          replace hr11 := Kd.C_below hr11 hb12
          replace h10 := h10.move hb12
          have hMl : (M2.map fun p => p.1).length ≤ 8796093022207 := by have := h10.small.1; rw [List.length_map]; omega
          go_wp2_with fail
          refine (Texts_same hr11 hl11 hr12 hl12 hMl (List.length_map _) (List.length_map _)).mono ?_
          rintro e w13 ⟨rfl, hb13⟩
          replace h10 := h10.move hb13
          clear hr11 hl11 hr12 hl12 hMl hS2
          go_wp2_with fail
          go_roundw
          case rel => exact ⟨i + 1, mb2, M2, by omega, by go_num, hid h10⟩
          case measure => simp [intOf]; omega
        · by_cases e2 : x.f0 = 2
          · rw [e2] at hy0
            go_wp2_with fail
            refine (hS.del hi2 hk).mono ?_
            rintro e w8 ⟨rfl, h8⟩
            go_wp2_with fail
            refine (h8.refDel hi2 x.f1).mono ?_
            rintro e w9 ⟨v9, rfl, hv9, h9⟩
            obtain ⟨mb2, M2, hS2⟩ : ∃ mb2 M2, St w w9 bs mb2 (i + 1) M2 M2 v9 := ⟨_, _, (h9.laid hv9).mono (by omega)⟩
            clear h8 h9 hv9 hS
            go_wp2_with fail
            refine hS2.size_.mono ?_
            rintro e w' ⟨rfl, rfl⟩
            go_wp2_with fail
            refine (hS2.refSize hi3).mono ?_
            rintro e w10 ⟨rfl, h10⟩
            go_wp2_with fail
            refine (h10.keys hi3).mono ?_
            rintro e w11 ⟨A11, c11, rfl, hl11, hr11, hb11⟩
            replace h10 := h10.move hb11
            go_wp2_with fail
            refine (h10.refKeys hi3).mono ?_
            rintro e w12 ⟨A12, c12, rfl, hl12, hr12, hb12⟩
            replace hr11 := Kd.C_below hr11 hb12
            replace h10 := h10.move hb12
            have hMl : (M2.map fun p => p.1).length ≤ 8796093022207 := by have := h10.small.1; rw [List.length_map]; omega
            go_wp2_with fail
            refine (Texts_same hr11 hl11 hr12 hl12 hMl (List.length_map _) (List.length_map _)).mono ?_
            rintro e w13 ⟨rfl, hb13⟩
            replace h10 := h10.move hb13
            clear hr11 hl11 hr12 hl12 hMl hS2
            go_wp2_with fail
            go_roundw
            case rel => exact ⟨i + 1, mb2, M2, by omega, by go_num, hid h10⟩
            case measure => simp [intOf]; omega
          · obtain ⟨mb2, M2, hS2⟩ : ∃ mb2 M2, St w w7 bs mb2 (i + 1) M2 M2 u4 := ⟨_, _, hS.mono (by omega)⟩
            clear hS
            go_wp2_with fail
            refine hS2.size_.mono ?_
            rintro e w' ⟨rfl, rfl⟩
            go_wp2_with fail
            refine (hS2.refSize hi3).mono ?_
            rintro e w10 ⟨rfl, h10⟩
            go_wp2_with fail
            refine (h10.keys hi3).mono ?_
            rintro e w11 ⟨A11, c11, rfl, hl11, hr11, hb11⟩
            replace h10 := h10.move hb11
            go_wp2_with fail
            refine (h10.refKeys hi3).mono ?_
            rintro e w12 ⟨A12, c12, rfl, hl12, hr12, hb12⟩
            replace hr11 := Kd.C_below hr11 hb12
            replace h10 := h10.move hb12
            have hMl : (M2.map fun p => p.1).length ≤ 8796093022207 := by have := h10.small.1; rw [List.length_map]; omega
            go_wp2_with fail
            refine (Texts_same hr11 hl11 hr12 hl12 hMl (List.length_map _) (List.length_map _)).mono ?_
            rintro e w13 ⟨rfl, hb13⟩
            replace h10 := h10.move hb13
            clear hr11 hl11 hr12 hl12 hMl hS2
            go_wp2_with fail
            go_roundw
            case rel => exact ⟨i + 1, mb2, M2, by omega, by go_num, hid h10⟩
            case measure => simp [intOf]; omega
      · have hiL : i = l.length := by omega
        subst hiL
        have hL := HI.out.below
        clear HI
        go_wp2_with (go_at_call 27; refine (awake _).mono ?_; rintro e w' ⟨rfl, hB⟩)
        go_ret
        exact ⟨rfl, hL.trans (hB.mono hL.size)⟩
end Go.Proofs.Ytnccofpkanhfhaa.Kv
