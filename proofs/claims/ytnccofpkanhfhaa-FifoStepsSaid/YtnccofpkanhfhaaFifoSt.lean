/-
  A hall of the call's own, by what its queues hold; the chapter's example, and a hall that is not there.
-/
import Derived.Test.YtnccofpkanhfhaaFifoPop
import Derived.Test.YtnccofpkanhfhaaKeys
set_option linter.unusedVariables false
set_option linter.unusedSimpArgs false
namespace Go.Proofs.Ytnccofpkanhfhaa.Fifo
open Go.RowKit Go.Maps Go.WideMaps Go.Proofs.Ytnccofpkanhfhaa.Tab Go.Proofs.Ytnccofpkanhfhaa.Pure Go.Proofs.YtnccofpkanhfhaaW.PrintWords
/-- What waits under a name. -/
def at_ (M : Tabl) (s : ByteArray) : List ByteArray := match tlook ks M s with | some x => x.ts | none => []
def tw (ts : List ByteArray) : Int := (ts.map fun t => 16 + (t.size : Int)).sum
def tot (M : Tabl) : Int := wt (fun p => tw p.2.ts) M
def nm (M : Tabl) : Int := wt (fun p => 16 + (p.1.size : Int)) M
theorem tw_nonneg (ts : List ByteArray) : 0 ≤ tw ts := by
  unfold tw
  induction ts with
  | nil => exact Int.le_refl _
  | cons t r ih => simp only [List.map_cons, List.sum_cons]; omega
theorem tw_snoc (ts : List ByteArray) (t : ByteArray) : tw (ts ++ [t]) = tw ts + (16 + t.size) := by simp [tw]
theorem tw_cons (ts : List ByteArray) (t : ByteArray) : tw (t :: ts) = 16 + t.size + tw ts := by simp [tw]
theorem tot_nonneg (M : Tabl) : 0 ≤ tot M := by
  unfold tot wt
  induction M with
  | nil => exact Int.le_refl _
  | cons p M ih => simp only [List.map_cons, List.sum_cons]; have := tw_nonneg p.2.ts; omega
theorem nm_nonneg (M : Tabl) : 0 ≤ nm M := by
  unfold nm wt
  induction M with
  | nil => exact Int.le_refl _
  | cons p M ih => simp only [List.map_cons, List.sum_cons]; omega
structure Sg (B : Nat) (w wr : World) (bs : Nat) (mb : Option Nat) (n : Nat) (M : Tabl) : Prop where
  hall : Hall wr bs 0 mb n M (tot M + nm M)
  own : ∀ k, own bs mb M k → w.heap.size ≤ k
  below : Below w.heap.size w wr
  rising : Rising ks M
  len : M.length ≤ n
  size : tot M + nm M ≤ n * (2 * (16 + B : Nat) : Int)
  each : ∀ p ∈ M, p.1.size ≤ B ∧ p.2.ps.length ≤ n ∧ ∀ t ∈ p.2.ts, t.size ≤ B
section
variable {B : Nat} {w wr w' : World} {bs n : Nat} {mb : Option Nat} {M : Tabl}
theorem Sg.move (h : Sg B w wr bs mb n M) (hb : Below wr.heap.size wr w') : Sg B w w' bs mb n M :=
  ⟨h.hall.below hb, h.own, below_then h.below h.below.size hb, h.rising, h.len, h.size, h.each⟩
theorem Sg.drew (h : Sg B w wr bs mb n M) : Sg B w wr.drew bs mb n M := ⟨h.hall.drew, h.own, h.below.drew, h.rising, h.len, h.size, h.each⟩
theorem Sg.mono (h : Sg B w wr bs mb n M) {m : Nat} (hm : n ≤ m) : Sg B w wr bs mb m M :=
  ⟨h.hall.mono hm, h.own, h.below, h.rising, by have := h.len; omega, by have h1 := h.size; have h2 : ((n : Int)) * (2 * (16 + B : Nat) : Int) ≤ (m : Int) * (2 * (16 + B : Nat) : Int) := Int.mul_le_mul_of_nonneg_right (by omega) (by omega); omega, fun p hp => ⟨(h.each p hp).1, by have := (h.each p hp).2.1; omega, (h.each p hp).2.2⟩⟩
theorem Sg.made (B : Nat) (w wr : World) (hb : Below w.heap.size w wr) : Sg B w (wr.alloc (.cells #[.map none, .int .i64 0] 79)) wr.heap.size none 0 [] := by
  refine ⟨Fifo.made wr 0, fun k hk => ?_, hb.alloc hb.size _, List.Pairwise.nil, Nat.zero_le _, by simp [tot, nm, wt], by simp⟩
  rcases hk with rfl | e | ⟨p, hp, _⟩
  · exact hb.size
  · cases e
  · cases hp
theorem at_some (h : Sg B w wr bs mb n M) {s : ByteArray} {x : Q} (hl : tlook ks M s = some x) : at_ M s = x.ts ∧ x.ts ≠ [] := by
  refine ⟨by unfold at_; rw [hl], fun e => ?_⟩
  have := h.hall.ne _ (look_mem hl)
  unfold Q.ts at e
  exact this (List.map_eq_nil_iff.1 e)
theorem at_none {s : ByteArray} (hl : tlook ks M s = none) : at_ M s = [] := by unfold at_; rw [hl]
theorem Sg.look_of (h : Sg B w wr bs mb n M) {s t : ByteArray} {ts : List ByteArray} (e : at_ M s = t :: ts) : ∃ x b0 r, tlook ks M s = some x ∧ x.ps = (b0, t) :: r ∧ r.map (·.2) = ts := by
  cases hl : tlook ks M s with
  | none => rw [at_none hl] at e; cases e
  | some x =>
    rw [(at_some h hl).1] at e
    unfold Q.ts at e
    cases hp : x.ps with
    | nil => rw [hp] at e; cases e
    | cons y r =>
      rw [hp] at e
      simp only [List.map_cons, List.cons.injEq] at e
      exact ⟨x, y.1, r, rfl, by rw [hp, ← e.1], e.2⟩
theorem at_tput (M : Tabl) (s u : ByteArray) (x : Q) : at_ (tput ks M s x) u = if u = s then x.ts else at_ M u := by
  by_cases h : u = s
  · subst h; rw [if_pos rfl]; unfold at_; rw [tlook_put_same ks_one]
  · rw [if_neg h]; unfold at_; rw [tlook_put_other ks_one _ (Ne.symm h)]
theorem at_tdel (M : Tabl) (s u : ByteArray) : at_ (tdel ks M s) u = if u = s then [] else at_ M u := by
  by_cases h : u = s
  · subst h; rw [if_pos rfl]; unfold at_; rw [tlook_del_same ks_one]
  · rw [if_neg h]; unfold at_; rw [tlook_del_other ks_one _ (Ne.symm h)]
theorem keys_at (h : Sg B w wr bs mb n M) (u : ByteArray) : u ∈ M.map (fun p => p.1) ↔ at_ M u ≠ [] := by
  rw [← look_some_iff]
  cases hl : tlook ks M u with
  | none => rw [at_none hl]; simp
  | some x => have := at_some h hl; rw [this.1]; simp [this.2]
theorem tot_put {s : ByteArray} {x : Q} (hr : Rising ks M) : tot (tput ks M s x) = tot M - tw (at_ M s) + tw x.ts := by
  unfold tot
  rw [wt_tput]
  cases e : tlook ks M s with
  | none => rw [tdel_none e, at_none e]; simp only [tw, List.map_nil, List.sum_nil]; omega
  | some a =>
    have := wt_tdel (fun p : ByteArray × Q => tw p.2.ts) hr e
    rw [show at_ M s = a.ts by unfold at_; rw [e]]
    simp only at this ⊢
    omega
theorem nm_put {s : ByteArray} {x : Q} (hr : Rising ks M) : nm (tput ks M s x) = nm M + (if (tlook ks M s).isSome then 0 else 16 + s.size) := by
  unfold nm
  rw [wt_tput]
  cases e : tlook ks M s with
  | none => rw [tdel_none e]; simp; omega
  | some a =>
    have := wt_tdel (fun p : ByteArray × Q => 16 + (p.1.size : Int)) hr e
    simp only [Option.isSome_some, if_true] at this ⊢
    omega
theorem tot_del {s : ByteArray} {x : Q} (hr : Rising ks M) (e : tlook ks M s = some x) : tot (tdel ks M s) = tot M - tw x.ts := by
  have := wt_tdel (fun p : ByteArray × Q => tw p.2.ts) hr e
  unfold tot
  simp only at this
  omega
theorem nm_del {s : ByteArray} {x : Q} (hr : Rising ks M) (e : tlook ks M s = some x) : nm (tdel ks M s) = nm M - (16 + s.size) := by
  have := wt_tdel (fun p : ByteArray × Q => 16 + (p.1.size : Int)) hr e
  unfold nm
  simp only at this
  omega
theorem grows_tot (M : Tabl) (hr : Rising ks M) (s t : ByteArray) {x' : Q} (hx : x'.ts = at_ M s ++ [t]) : tot (tput ks M s x') + nm (tput ks M s x') = tot M + nm M + grows M s t := by
  rw [tot_put hr, nm_put hr, hx, tw_snoc]
  unfold grows
  omega
theorem Sg.sz (h : Sg B w wr bs mb n M) (hn : n ≤ 1000) (hB : B ≤ 140737488351232) : 0 ≤ tot M + nm M ∧ tot M + nm M ≤ 1152921504606846976 := by
  have h1 := tot_nonneg M
  have h2 := nm_nonneg M
  have h3 := h.size
  have h4 : ((n : Int)) * (2 * (16 + B : Nat) : Int) ≤ (1000 : Int) * (2 * (16 + B : Nat) : Int) := Int.mul_le_mul_of_nonneg_right (by omega) (by omega)
  omega
theorem Sg.grows (h : Sg B w wr bs mb n M) {s t : ByteArray} (hs : s.size ≤ 140737488351232) (ht : t.size ≤ 140737488351232) :
    Calls Try.prog 42 #[.pointer (some ⟨bs, 0, none⟩), .string s, .string t] wr fun e w' => e = .returned (.int .i64 (Fifo.grows M s t)) ∧ w' = wr := Grows h.hall.tab s t hs ht
theorem Sg.size_ (h : Sg B w wr bs mb n M) :
    Calls Try.prog 47 #[.pointer (some ⟨bs, 0, none⟩)] wr fun e w' => e = .returned (.int .i64 (tot M + nm M)) ∧ w' = wr := Size_ h.hall
theorem Sg.waits (h : Sg B w wr bs mb n M) {s : ByteArray} (hs : s.size ≤ 140737488351232) :
    Calls Try.prog 48 #[.pointer (some ⟨bs, 0, none⟩), .string s] wr fun e w' => e = .returned (.int .i64 (at_ M s).length) ∧ w' = wr := by
  refine (Waits_ h.hall s hs).mono ?_
  rintro e w' ⟨rfl, rfl⟩
  refine ⟨?_, rfl⟩
  cases hl : tlook ks M s with
  | none => rw [at_none hl]; rfl
  | some x => rw [(at_some h hl).1]; unfold Q.ts; simp
theorem Sg.names (h : Sg B w wr bs mb n M) (hn : n ≤ 1000) :
    Calls Try.prog 50 #[.pointer (some ⟨bs, 0, none⟩)] wr fun e w' => ∃ A c, e = .returned (.slice A M.length c) ∧ (M.map fun p => p.1).length ≤ c ∧ Kd.C Kd.string w' A (M.map fun p => p.1).length (M.map fun p => p.1) ∧ Below wr.heap.size wr w' := by
  refine (fifo_any h.hall.tab (by omega)).mono ?_
  rintro e w' ⟨v', rfl, hv, hb⟩
  obtain ⟨A, c, rfl, hl, hr⟩ := Kd.R_reads hv
  exact ⟨A, c, by rw [List.length_map], hl, hr, hb⟩
/-- What has turned: the hall's blocks, and new ones. -/
theorem Sg.push (h : Sg B w wr bs mb n M) (hn : n ≤ 999) (hB : B ≤ 140737488351232) {s t : ByteArray} (hs : s.size ≤ B) (ht : t.size ≤ B) :
    Calls Try.prog 44 #[.pointer (some ⟨bs, 0, none⟩), .string s, .string t] wr fun e w' => e = .returned (.tuple #[]) ∧
      ∃ b M', Sg B w w' bs (some b) (n + 1) M' ∧ (∀ u, at_ M' u = if u = s then at_ M s ++ [t] else at_ M u) ∧ tot M' = tot M + (16 + t.size) ∧ Touch wr w' (Fifo.own bs mb M) ∧ (∀ k, Fifo.own bs (some b) M' k → Fifo.own bs mb M k ∨ wr.heap.size ≤ k) := by
  obtain ⟨h0, h1⟩ := h.sz (by omega) hB
  refine (Push h.hall s t (by omega) (by omega) h0 h1 (by unfold maxLen; omega) (fun x hl => by have := (h.each _ (look_mem hl)).2.1; simp only at this; omega)).mono ?_
  rintro e w' ⟨rfl, b, x', hx, hh, ht2, ho⟩
  have hx' : x'.ts = at_ M s ++ [t] := hx
  have hgt := grows_tot M h.rising s t hx'
  refine ⟨rfl, b, tput ks M s x', ⟨by rw [hgt]; exact hh, ?_, ?_, rising_tput h.rising s x', ?_, ?_, ?_⟩, ?_, ?_, ht2, ho⟩
  · intro k hk
    rcases ho k hk with hk | hk
    · exact h.own k hk
    · have := h.below.size; omega
  · exact h.below.trans (ht2.under h.below.size h.own)
  · unfold tput
    rw [length_tins]
    have : (tdel ks M s).length ≤ M.length := List.length_filter_le _ _
    have := h.len
    omega
  · rw [hgt]
    have h3 := h.size
    have h4 := (grows_bd M s t).2
    have h5 : (((n + 1 : Nat) : Int)) * (2 * (16 + B : Nat) : Int) = (n : Int) * (2 * (16 + B : Nat) : Int) + (2 * (16 + B : Nat) : Int) := by
      rw [Int.natCast_add n 1, Int.add_mul]; simp
    omega
  · intro p hp
    rcases mem_tput.1 hp with rfl | ⟨hp, _⟩
    · have hlen : x'.ps.length = (at_ M s).length + 1 := by
        have := congrArg List.length hx'
        simpa [Q.ts] using this
      have hat : (at_ M s).length ≤ n ∧ ∀ t ∈ at_ M s, t.size ≤ B := by
        cases hl : tlook ks M s with
        | none => rw [at_none hl]; simp
        | some x =>
          have h2 := h.each _ (look_mem hl)
          rw [(at_some h hl).1]
          exact ⟨by unfold Q.ts; rw [List.length_map]; exact h2.2.1, h2.2.2⟩
      refine ⟨hs, by show x'.ps.length ≤ n + 1; omega, ?_⟩
      intro u hu
      rw [hx'] at hu
      rcases List.mem_append.1 hu with hu | hu
      · exact hat.2 u hu
      · rw [List.mem_singleton.1 hu]; exact ht
    · have h2 := h.each p hp
      exact ⟨h2.1, by omega, h2.2.2⟩
  · intro u
    rw [at_tput, hx']
  · rw [tot_put h.rising, hx', tw_snoc]
    omega
theorem Sg.pop_none (h : Sg B w wr bs mb n M) {s : ByteArray} (hs : s.size ≤ 140737488351232) (e : at_ M s = []) :
    Calls Try.prog 45 #[.pointer (some ⟨bs, 0, none⟩), .string s] wr fun e w' => e = .returned (.tuple #[.string ⟨#[]⟩, .bool false]) ∧ w' = wr := by
  refine Pop_none h.hall s hs ?_
  cases hl : tlook ks M s with
  | none => rfl
  | some x => have := at_some h hl; rw [e] at this; exact absurd this.1.symm this.2
theorem Sg.pop_some (h : Sg B w wr bs mb n M) (hn : n ≤ 1000) (hB : B ≤ 140737488351232) {s t : ByteArray} {ts : List ByteArray} (e : at_ M s = t :: ts) :
    Calls Try.prog 45 #[.pointer (some ⟨bs, 0, none⟩), .string s] wr fun e w' => e = .returned (.tuple #[.string t, .bool true]) ∧
      ∃ M', Sg B w w' bs mb n M' ∧ (∀ u, at_ M' u = if u = s then ts else at_ M u) ∧ tot M' = tot M - (16 + t.size) ∧ Touch wr w' (Fifo.own bs mb M) ∧ (∀ k, Fifo.own bs mb M' k → Fifo.own bs mb M k ∨ wr.heap.size ≤ k) := by
  obtain ⟨h0, h1⟩ := h.sz hn hB
  obtain ⟨x, b0, r, hl, hp, hr⟩ := h.look_of e
  have hea := h.each _ (look_mem hl)
  have hat := (at_some h hl).1
  have hxt : x.ts = t :: ts := by rw [← hat, e]
  have hst : t.size ≤ B := hea.2.2 t (by rw [hxt]; simp)
  have hss : s.size ≤ B := hea.1
  cases mb with
  | none =>
    have hM : M = [] := h.hall.tab.map
    subst hM
    cases hl
  | some b =>
    by_cases hr0 : r = []
    · subst hr0
      have hts : ts = [] := hr.symm
      subst hts
      refine (Pop_last h.hall s t (by omega) (by omega) h0 h1 hl hp).mono ?_
      rintro e' w' ⟨rfl, hh, ht2, ho⟩
      have htw : tw x.ts = 16 + (t.size : Int) := by rw [hxt]; simp [tw]
      have hsz : tot (tdel ks M s) + nm (tdel ks M s) = tot M + nm M - (32 + s.size + t.size) := by
        rw [tot_del h.rising hl, nm_del h.rising hl, htw]; omega
      refine ⟨rfl, tdel ks M s, ⟨by rw [hsz]; exact hh, ?_, h.below.trans (ht2.under h.below.size h.own), rising_tdel h.rising s, ?_, ?_, ?_⟩, ?_, ?_, ht2, ho⟩
      · intro k hk
        rcases ho k hk with hk | hk
        · exact h.own k hk
        · have := h.below.size; omega
      · exact Nat.le_trans (List.length_filter_le _ _) h.len
      · rw [hsz]; have := h.size; omega
      · exact fun p hp => h.each p ((mem_tdel _ _ _).1 hp).1
      · intro u; rw [at_tdel]
      · rw [tot_del h.rising hl, htw]
    · refine (Pop_more h.hall s t (by omega) (by omega) h0 h1 hl hp hr0 (by have := hea.2.1; simp only at this; omega)).mono ?_
      rintro e' w' ⟨rfl, hh, ht2, ho⟩
      have hxr : (Q.mk x.q x.last r).ts = ts := hr
      have htot : tot (tput ks M s ⟨x.q, x.last, r⟩) = tot M - (16 + t.size) := by
        rw [tot_put h.rising, hxr, hat, hxt, tw_cons]; omega
      have hsz : tot (tput ks M s ⟨x.q, x.last, r⟩) + nm (tput ks M s ⟨x.q, x.last, r⟩) = tot M + nm M - (16 + t.size) := by
        rw [htot, nm_put h.rising, hl]; simp; omega
      refine ⟨rfl, _, ⟨by rw [hsz]; exact hh, ?_, h.below.trans (ht2.under h.below.size h.own), rising_tput h.rising s _, ?_, ?_, ?_⟩, ?_, htot, ht2, ho⟩
      · intro k hk
        rcases ho k hk with hk | hk
        · exact h.own k hk
        · have := h.below.size; omega
      · have h2 := (List.Perm.length_eq (List.Perm.refl M))
        have hle : (tput ks M s (Q.mk x.q x.last r)).length ≤ M.length := by
          have hd := congrArg (fun d => Maps.size d) (dat_same (x := x) (x' := ⟨x.q, x.last, r⟩) rfl h.rising hl)
          simp only [dat_size] at hd
          omega
        have := h.len
        omega
      · rw [hsz]; have := h.size; omega
      · intro p hp'
        rcases mem_tput.1 hp' with rfl | ⟨hp', _⟩
        · refine ⟨hss, ?_, ?_⟩
          · have := hea.2.1
            simp only [hp, List.length_cons] at this ⊢
            omega
          · intro u hu
            rw [hxr] at hu
            exact hea.2.2 u (by rw [hxt]; simp [hu])
        · exact h.each p hp'
      · intro u; rw [at_tput, hxr]
end
/-! ### the chapter's example; no hall -/
def sQ : ByteArray := ⟨#[113]⟩
def sA : ByteArray := ⟨#[97]⟩
def sB : ByteArray := ⟨#[98]⟩
theorem ex6 : sA.toList = [97] := by kernel_rfl
set_option maxRecDepth 100000 in
set_option maxHeartbeats 1000000 in
theorem awake (w : World) : Calls Try.prog 40 #[] w fun e w' => e = .returned (.bool true) ∧ Below w.heap.size w w' := by
  go_enter Try.func40, Try.ntmps40
  have S0 := Sg.made 100 w w (Below.refl _ _)
  go_wp2_with (go_at_call 41; refine (New _).mono ?_; rintro e w' ⟨rfl, rfl⟩)
  refine (S0.push (s := sQ) (t := sA) (by omega) (by decide) (by decide) (by decide)).mono ?_
  rintro e w1 ⟨rfl, b1, M1, S1, h1, _⟩
  go_wp2_with fail
  refine (S1.push (s := sQ) (t := sB) (by omega) (by decide) (by decide) (by decide)).mono ?_
  rintro e w2 ⟨rfl, b2, M2, S2, h2, _⟩
  go_wp2_with fail
  have hq1 : at_ M1 sQ = [sA] := by rw [h1, if_pos rfl]; rfl
  have hq2 : at_ M2 sQ = [sA, sB] := by rw [h2, if_pos rfl, hq1]; rfl
  refine (S2.pop_some (by omega) (by decide) hq2).mono ?_
  rintro e w3 ⟨rfl, M3, S3, h3, _⟩
  have hq3 : at_ M3 sQ = [sB] := by rw [h3, if_pos rfl]
  have h6 := ex6
  have hW := S3.waits (s := sQ) (by decide)
  rw [hq3] at hW
  clear hq1 hq2 hq3 h1 h2 h3 S1 S2 S0
  go_wp2_with (go_at_call 48; refine hW.mono ?_; rintro e w' ⟨rfl, rfl⟩)
  go_ret
  exact ⟨rfl, S3.below⟩
set_option maxRecDepth 100000 in
set_option maxHeartbeats 1000000 in
theorem FifoNone_walk (w : World) (name : ByteArray) (hs : name.size ≤ 140737488351232) (s : ByteArray) (ht : s.size ≤ 140737488351232) :
    Calls Try.prog 11 #[.string name, .string s] w fun e w' => e = .returned (.bool true) ∧ Below w.heap.size w w' := by
  have hG := hid (fun W => Grows_nil name s hs ht W)
  have hM := hid (fun W : World => Grows (made W 0).tab name s hs ht)
  clear hs ht
  go_enter Try.func11, Try.ntmps11
  go_wp2_with (first
    | (go_at_call 44; refine (Push_nil _ _ _).mono ?_; rintro e w' ⟨rfl, rfl⟩)
    | (go_at_call 45; refine (Pop_nil _ _).mono ?_; rintro e w' ⟨rfl, rfl⟩)
    | (go_at_call 48; refine (Waits_nil _ _).mono ?_; rintro e w' ⟨rfl, rfl⟩)
    | (go_at_call 47; refine (Size_nil _).mono ?_; rintro e w' ⟨rfl, rfl⟩))
  refine (hG.out _).mono ?_
  rintro e w' ⟨rfl, rfl⟩
  go_wp2_with (go_at_call 41; refine (New _).mono ?_; rintro e w' ⟨rfl, rfl⟩)
  refine (hM.out _).mono ?_
  rintro e w1 ⟨rfl, rfl⟩
  go_wp2_with (first
    | (go_at_call 50; refine (fifo_nil _).mono ?_; rintro e w' ⟨rfl, rfl⟩)
    | (go_at_call 40; refine (awake _).mono ?_; rintro e w2 ⟨rfl, hB⟩))
  go_ret
  exact ⟨rfl, ((Below.refl _ _).alloc (Nat.le_refl _) _).trans (hB.mono (by simp))⟩
end Go.Proofs.Ytnccofpkanhfhaa.Fifo
