/-
  Counters, in plain Lean: what the document's functions answer of rows is what a map holds to which they were added.
-/
import Derived.Test.YtnccofpkanhfhaaPure
import Derived.Test.YtnccofpkanhfhaaCounter
import Derived.Test.YtnccofpkanhfhaaR14
import Derived.Test.YtnccofpkanhfhaaR18
import Derived.Test.YtnccofpkanhfhaaR20
import Derived.Test.YtnccofpkanhfhaaR23
set_option linter.unusedVariables false
set_option linter.unusedSimpArgs false
set_option linter.unusedSectionVars false
namespace Go.Proofs.Ytnccofpkanhfhaa.Counter
open Go.RowKit Go.Proofs.Ytnccofpkanhfhaa.Tab Go.Proofs.Ytnccofpkanhfhaa.Pure Go.Proofs.Ytnccofpkanhfhaa.R Go.Proofs.YtnccofpkanhfhaaW.PrintWords Go.Proofs.YtnccofpkanhfhaaW.PrintMore
abbrev Row := S28
abbrev z := z28
/-- The map to which rows were added, one behind the other. -/
def fold (l : List Row) : List (ByteArray × Int) := l.foldl (fun M x => tput ks M x.f0 (wrap64 (val M x.f0 + x.f1))) []
def size (M : List (ByteArray × Int)) : Int := wt (fun p => 24 + p.1.size) M
theorem fold_snoc (l : List Row) (x : Row) : fold (l ++ [x]) = tput ks (fold l) x.f0 (wrap64 (val (fold l) x.f0 + x.f1)) := by simp [fold]
theorem fold_take (l : List Row) (i : Nat) (h : i < l.length) : fold (l.take (i + 1)) = tput ks (fold (l.take i)) (l.getD i z).f0 (wrap64 (val (fold (l.take i)) (l.getD i z).f0 + (l.getD i z).f1)) := by
  rw [List.take_succ_eq_append_getElem h, fold_snoc]
  simp [List.getD_eq_getElem?_getD, List.getElem?_eq_getElem h]
theorem _root_.List.Perm.sum_eq_of_int {l m : List Int} (h : l.Perm m) : l.sum = m.sum := by
  induction h with
  | nil => rfl
  | cons x _ ih => simp [ih]
  | swap x y l => simp only [List.sum_cons]; omega
  | trans _ _ h1 h2 => exact h1.trans h2
/-- By induction on the rows from the front: what holds of the empty list, and of one row more. -/
theorem snoc_ind {p : List Row → Prop} (h0 : p []) (h1 : ∀ l x, p l → p (l ++ [x])) (l : List Row) : p l := by
  have : ∀ m : List Row, p m.reverse := by
    intro m
    induction m with
    | nil => exact h0
    | cons x m ih => rw [List.reverse_cons]; exact h1 _ _ ih
  have := this l.reverse
  rwa [List.reverse_reverse] at this
theorem fold_rising (l : List Row) : Rising ks (fold l) := by
  refine snoc_ind (p := fun l => Rising ks (fold l)) List.Pairwise.nil (fun l x ih => ?_) l
  rw [fold_snoc]
  exact rising_tput ih _ _
theorem fold_keys (l : List Row) (s : ByteArray) : s ∈ (fold l).map (fun p => p.1) ↔ s ∈ l.map (fun x => x.f0) := by
  refine snoc_ind (p := fun l => s ∈ (fold l).map (fun p => p.1) ↔ s ∈ l.map (fun x => x.f0)) Iff.rfl (fun l x ih => ?_) l
  rw [fold_snoc, mem_keys_tput, ih]
  simp [or_comm]
theorem val_tput (M : List (ByteArray × Int)) (s t : ByteArray) (v : Int) : val (tput ks M s v) t = if s = t then v else val M t := by
  unfold val
  split
  · rename_i h; subst h; rw [tlook_put_same ks_one]; rfl
  · rename_i h; rw [tlook_put_other ks_one _ h]
theorem val_wrap (l : List Row) (s : ByteArray) : wrap64 (val (fold l) s) = val (fold l) s := by
  refine snoc_ind (p := fun l => wrap64 (val (fold l) s) = val (fold l) s) (w64 (x := 0) (by decide) (by decide)) (fun l x ih => ?_) l
  rw [fold_snoc, val_tput]
  split
  · unfold wrap64; omega
  · exact ih
theorem size_tput {M : List (ByteArray × Int)} (h : Rising ks M) (s : ByteArray) (v : Int) : size (tput ks M s v) = size M + grows M s := by
  unfold size grows
  rw [wt_tput]
  cases e : tlook ks M s with
  | none => rw [tdel_none e]; simp; omega
  | some a =>
    have := wt_tdel (fun p : ByteArray × Int => 24 + (p.1.size : Int)) h e
    simp only [Option.isSome_some, if_true] at this ⊢
    omega
theorem size_nonneg (M : List (ByteArray × Int)) : 0 ≤ size M := by
  unfold size wt
  induction M with
  | nil => exact Int.le_refl _
  | cons p M ih => simp only [List.map_cons, List.sum_cons]; omega
theorem grows_bd (M : List (ByteArray × Int)) (s : ByteArray) : 0 ≤ grows M s ∧ grows M s ≤ 24 + s.size := by
  unfold grows
  split <;> omega
/-- How long all names are. -/
def len (l : List Row) : Nat := (l.map fun x => x.f0.size).sum
theorem size_le (l : List Row) : size (fold l) ≤ 24 * l.length + len l := by
  refine snoc_ind (p := fun l => size (fold l) ≤ 24 * l.length + len l) (by simp [fold, size, wt, len]) (fun l x ih => ?_) l
  rw [fold_snoc, size_tput (fold_rising l)]
  have := (grows_bd (fold l) x.f0).2
  simp only [len, List.map_append, List.sum_append, List.length_append, List.map_cons, List.map_nil, List.sum_cons, List.sum_nil, List.length_cons, List.length_nil] at ih ⊢
  omega

theorem len_take (l : List Row) (i : Nat) : len (l.take i) ≤ len l := by
  have h : len l = len (l.take i) + len (l.drop i) := by
    unfold len
    rw [← List.sum_append, ← List.map_append, List.take_append_drop]
  omega

/-! ### the printed functions -/
theorem rd_eq (l : List Row) (i : Int) : rd_T28 l i = l.getD i.toNat z := rfl
theorem much_loop (l : List Row) (hs : ∀ x ∈ l, x.f0.size ≤ 140737488351232) (hl : l.length ≤ 140737488351232) (d : Nat) : ∀ (n i : Int) (k : Nat), 0 ≤ n → n ≤ 1048576 → 0 ≤ i → (l.length : Int) - i = d → d < k →
    ∃ r, concourselaw27_much.l0 k l n i = some r ∧ (r = false → l.length ≤ 80 ∧ n + len (l.drop i.toNat) ≤ 10000) := by
  induction d with
  | zero =>
    intro n i k h0 h1 hi hd hk
    obtain ⟨k, rfl⟩ : ∃ m, k = m + 1 := ⟨k - 1, by omega⟩
    simp only [concourselaw27_much.l0]
    rw [if_neg (by omega)]
    have e : l.drop i.toNat = [] := List.drop_eq_nil_of_le (by omega)
    rw [e]
    by_cases h80 : (l.length : Int) > 80
    · rw [if_pos h80]
      exact ⟨true, rfl, fun h => by cases h⟩
    · rw [if_neg h80]
      exact ⟨_, rfl, fun h => ⟨by omega, by simp at h; simp [len]; omega⟩⟩
  | succ d ih =>
    intro n i k h0 h1 hi hd hk
    obtain ⟨k, rfl⟩ : ∃ m, k = m + 1 := ⟨k - 1, by omega⟩
    have hlt : i.toNat < l.length := by omega
    have hx : l.getD i.toNat z = l[i.toNat] := by simp [List.getD_eq_getElem?_getD, List.getElem?_eq_getElem hlt]
    have hsz := hs _ (List.getElem_mem hlt)
    simp only [concourselaw27_much.l0]
    rw [if_pos (by omega), if_pos hi, rd_eq, hx, w64 (x := i + 1) (by omega) (by omega), w64 (x := n + _) (by omega) (by omega)]
    have hdr : l.drop i.toNat = l[i.toNat] :: l.drop (i.toNat + 1) := List.drop_eq_getElem_cons hlt
    have hi1 : (i + 1).toNat = i.toNat + 1 := by omega
    obtain ⟨r, hr, hf⟩ := ih (mn (n + (l[i.toNat].f0.size : Int)) 1048576) (i + 1) k (by unfold mn; split <;> omega) (by unfold mn; split <;> omega) (by omega) (by omega) (by omega)
    refine ⟨r, hr, fun h => ?_⟩
    obtain ⟨h2, h3⟩ := hf h
    refine ⟨h2, ?_⟩
    rw [hi1] at h3
    rw [hdr]
    simp only [len, List.map_cons, List.sum_cons] at h3 ⊢
    unfold mn at h3
    split at h3 <;> omega
theorem much_ok (l : List Row) (hs : ∀ x ∈ l, x.f0.size ≤ 140737488351232) (hl : l.length ≤ 140737488351232) : ∃ r, concourselaw27_much.f (l.length + 1) l = some r ∧ (r = false → l.length ≤ 80 ∧ len l ≤ 10000) := by
  obtain ⟨r, h1, h2⟩ := much_loop l hs hl l.length 0 0 (l.length + 1) (by omega) (by omega) (by omega) (by omega) (by omega)
  refine ⟨r, h1, fun h => ?_⟩
  have := h2 h
  simp only [Int.toNat_zero, List.drop_zero] at this
  exact ⟨this.1, by omega⟩
theorem value_loop (l : List Row) (s : ByteArray) (hl : l.length ≤ 140737488351232) (d : Nat) : ∀ (i : Nat) (k : Nat), l.length - i = d → i ≤ l.length → d < k →
    concourseref27_Value.l0 k l s (val (fold (l.take i)) s) i = some (val (fold l) s) := by
  induction d with
  | zero =>
    intro i k hd hi hk
    obtain ⟨k, rfl⟩ : ∃ m, k = m + 1 := ⟨k - 1, by omega⟩
    simp only [concourseref27_Value.l0]
    rw [if_neg (by omega), List.take_of_length_le (by omega)]
  | succ d ih =>
    intro i k hd hi hk
    obtain ⟨k, rfl⟩ : ∃ m, k = m + 1 := ⟨k - 1, by omega⟩
    have hlt : i < l.length := by omega
    have h := ih (i + 1) k (by omega) (by omega) (by omega)
    rw [fold_take l i hlt, val_tput] at h
    simp only [concourseref27_Value.l0]
    rw [if_pos (by omega), if_pos (by omega), rd_eq, Int.toNat_natCast, w64 (x := (i : Int) + 1) (by omega) (by omega)]
    by_cases e : (l.getD i z).f0 = s
    · rw [if_pos (by rw [e]), ← e]
      rw [if_pos e, ← e] at h
      exact h
    · rw [if_neg (fun e' => e (toList_inj.1 e'))]
      rw [if_neg e] at h
      exact h
theorem value_ok (l : List Row) (s : ByteArray) (hl : l.length ≤ 140737488351232) : concourseref27_Value.f (l.length + 1) l s = some (val (fold l) s) := by
  have := value_loop l s hl l.length 0 (l.length + 1) (by omega) (by omega) (by omega)
  exact this
def Fin (l : List Row) (ns : List ByteArray) (j d k : Nat) (g : Option (List ByteArray)) : Prop := ∃ k', k' + d + 1 = k ∧ g = if j = ns.length then some ns else concourseref27_Names.l0 k' l (ns.take (j + 1))
section
variable (l : List Row) (ns : List ByteArray) (hn : ns.Pairwise lt) (hm : ∀ x, x ∈ ns ↔ x ∈ l.map (fun x => x.f0)) (hl : l.length ≤ 140737488351232) (hnl : ns.length ≤ 8796093022207)
include hn hm hl hnl
/-- Each row's place in the names. -/
theorem places : ∃ ix : Nat → Nat, ∀ i, i < l.length → ix i < ns.length ∧ ns.getD (ix i) ByteArray.empty = (l.getD i z).f0 := by
  refine Deep.choose_lt (p := fun i m => m < ns.length ∧ ns.getD m ByteArray.empty = (l.getD i z).f0) fun i hi => ?_
  have h1 : (l.getD i z).f0 ∈ ns := (hm _).2 (List.mem_map.2 ⟨l.getD i z, by simp [List.getD_eq_getElem?_getD, List.getElem?_eq_getElem hi], rfl⟩)
  obtain ⟨m, hm1, hm2⟩ := List.getElem_of_mem h1
  exact ⟨m, hm1, by simp [List.getD_eq_getElem?_getD, List.getElem?_eq_getElem hm1, hm2]⟩
theorem names_inner (j : Nat) (hj : j ≤ ns.length) (ix : Nat → Nat) (hix : ∀ i, i < l.length → ix i < ns.length ∧ ns.getD (ix i) ByteArray.empty = (l.getD i z).f0) (d : Nat) : ∀ (i : Nat) (b : Int) (k : Nat), l.length - i = d → i ≤ l.length → d < k →
    (b = -1 ∧ (∀ m, m < i → ix m < j) ∨ 0 ≤ b ∧ b < l.length ∧ j ≤ ix b.toNat ∧ ∀ m, m < i → j ≤ ix m → ix b.toNat ≤ ix m) →
    Fin l ns j d k (concourseref27_Names.l1 k l (ns.take j) b i) := by
  induction d with
  | zero =>
    intro i b k hd hi hk hinv
    obtain ⟨k, rfl⟩ : ∃ m, k = m + 1 := ⟨k - 1, by omega⟩
    refine ⟨k, by omega, ?_⟩
    have hil : i = l.length := by omega
    subst hil
    simp only [concourseref27_Names.l1]
    rw [if_neg (by omega)]
    rcases hinv with ⟨rfl, hall⟩ | ⟨hb0, hbl, hbj, hmin⟩
    · have hjn : j = ns.length := by
        rcases Nat.lt_or_ge j ns.length with hlt | hge
        · have h1 : ns.getD j ByteArray.empty ∈ ns := by simp [List.getD_eq_getElem?_getD, List.getElem?_eq_getElem hlt]
          obtain ⟨x, hx, hxe⟩ := List.mem_map.1 ((hm _).1 h1)
          obtain ⟨m, hm1, hm2⟩ := List.getElem_of_mem hx
          have h2 := hall m hm1
          obtain ⟨h3, h4⟩ := hix m hm1
          have h5 : (l.getD m z).f0 = ns.getD j ByteArray.empty := by rw [← hxe, ← hm2]; simp [List.getD_eq_getElem?_getD, List.getElem?_eq_getElem hm1]
          rw [h5] at h4
          have h6 := (rising_get hn h3 hlt).2 h2
          rw [h4] at h6
          exact absurd h6 (lt_irrefl _)
        · omega
      rw [if_pos (by decide), if_pos hjn, List.take_of_length_le (by omega)]
    · have hbn : b.toNat < l.length := by omega
      obtain ⟨h3, h4⟩ := hix b.toNat hbn
      have hlt : j < ns.length := by omega
      have hj1 : ns.getD j ByteArray.empty = (l.getD b.toNat z).f0 := by
        have h1 : ns.getD j ByteArray.empty ∈ ns := by simp [List.getD_eq_getElem?_getD, List.getElem?_eq_getElem hlt]
        obtain ⟨x, hx, hxe⟩ := List.mem_map.1 ((hm _).1 h1)
        obtain ⟨m, hm1, hm2⟩ := List.getElem_of_mem hx
        obtain ⟨h5, h6⟩ := hix m hm1
        have h7 : (l.getD m z).f0 = ns.getD j ByteArray.empty := by rw [← hxe, ← hm2]; simp [List.getD_eq_getElem?_getD, List.getElem?_eq_getElem hm1]
        rw [h7] at h6
        have h8 : ix m = j := by
          rcases Nat.lt_trichotomy (ix m) j with h | h | h
          · have := (rising_get hn h5 hlt).2 h; rw [h6] at this; exact absurd this (lt_irrefl _)
          · exact h
          · have := (rising_get hn hlt h5).2 h; rw [h6] at this; exact absurd this (lt_irrefl _)
        have h9 := hmin m hm1 (by omega)
        have h10 : ix b.toNat = j := by omega
        rw [← h4, h10]
      have hjl : (ns.take j).length = j := by rw [List.length_take]; omega
      rw [if_neg (by omega), if_pos hb0, if_pos hbl, if_pos (show (ns.take j).length < 8796093022208 by omega), if_neg (show ¬ j = ns.length by omega), rd_eq, ← hj1]
      have ht : ns.take (j + 1) = ns.take j ++ [ns.getD j ByteArray.empty] := by
        rw [List.take_succ_eq_append_getElem hlt]
        simp [List.getD_eq_getElem?_getD, List.getElem?_eq_getElem hlt]
      rw [ht]
  | succ d ih =>
    intro i b k hd hi hk hinv
    obtain ⟨k, rfl⟩ : ∃ m, k = m + 1 := ⟨k - 1, by omega⟩
    have hlt : i < l.length := by omega
    have hi1 : wrap64 ((i : Int) + 1) = ((i + 1 : Nat) : Int) := by rw [w64 (by omega) (by omega)]; omega
    obtain ⟨h3, h4⟩ := hix i hlt
    -- the row is a candidate just if its place is j or behind
    have hcand : ∀ (h0 : 0 < j), lt (ns.getD (j - 1) ByteArray.empty) (l.getD i z).f0 ↔ j ≤ ix i := fun h0 => by
      rw [← h4, rising_get hn (by omega) h3]; omega
    have hless : ∀ (hb0 : 0 ≤ b) (hbl : b < l.length), lt (l.getD i z).f0 (l.getD b.toNat z).f0 ↔ ix i < ix b.toNat := fun hb0 hbl => by
      obtain ⟨h5, h6⟩ := hix b.toNat (by omega)
      rw [← h4, ← h6, rising_get hn h3 h5]
    -- what each way goes on with
    have hskip : ix i < j → Fin l ns j d k (concourseref27_Names.l1 k l (ns.take j) b ((i + 1 : Nat) : Int)) := fun h => by
      refine ih (i + 1) b k (by omega) (by omega) (by omega) ?_
      rcases hinv with ⟨h1, h2⟩ | ⟨h1, h2, h5, h6⟩
      · exact .inl ⟨h1, fun m hm' => (Nat.lt_succ_iff_lt_or_eq.1 hm').elim (fun h' => h2 m h') (fun e => by subst e; exact h)⟩
      · exact .inr ⟨h1, h2, h5, fun m hm' hj' => (Nat.lt_succ_iff_lt_or_eq.1 hm').elim (fun h' => h6 m h' hj') (fun e => by subst e; omega)⟩
    have htake : j ≤ ix i → (b = -1 ∨ ix i < ix b.toNat) → Fin l ns j d k (concourseref27_Names.l1 k l (ns.take j) (i : Int) ((i + 1 : Nat) : Int)) := fun h hb => by
      refine ih (i + 1) i k (by omega) (by omega) (by omega) (.inr ⟨by omega, by omega, by simpa using h, fun m hm' hj' => ?_⟩)
      rw [Int.toNat_natCast]
      rcases Nat.lt_succ_iff_lt_or_eq.1 hm' with h' | rfl
      · rcases hinv with ⟨h1, h2⟩ | ⟨h1, h2, h5, h6⟩
        · have := h2 m h'; omega
        · have := h6 m h' hj'
          rcases hb with hb | hb <;> omega
      · exact Nat.le_refl _
    have hkeep : j ≤ ix i → (0 ≤ b ∧ ¬ ix i < ix b.toNat) → Fin l ns j d k (concourseref27_Names.l1 k l (ns.take j) b ((i + 1 : Nat) : Int)) := fun h hb => by
      refine ih (i + 1) b k (by omega) (by omega) (by omega) ?_
      rcases hinv with ⟨h1, h2⟩ | ⟨h1, h2, h5, h6⟩
      · omega
      · exact .inr ⟨h1, h2, h5, fun m hm' hj' => (Nat.lt_succ_iff_lt_or_eq.1 hm').elim (fun h' => h6 m h' hj') (fun e => by subst e; omega)⟩
    have hgoal : ∀ {g : Option (List ByteArray)} {k0 : Nat}, Fin l ns j d k0 g → Fin l ns j (d + 1) (k0 + 1) g := fun ⟨k', h1, h2⟩ => ⟨k', by omega, h2⟩
    -- the second test: is it less than the best so far?
    have hsecond : j ≤ ix i → Fin l ns j d k (if b < 0 then (concourseref27_Names.l1 k l (ns.take j) i (wrap64 ((i : Int) + 1))) else (if 0 ≤ b then (if b < (l.length : Int) then (if (Op.bytesLess (((rd_T28 l i).f0).toList) (((rd_T28 l b).f0).toList)) = true then (concourseref27_Names.l1 k l (ns.take j) i (wrap64 ((i : Int) + 1))) else (concourseref27_Names.l1 k l (ns.take j) b (wrap64 ((i : Int) + 1)))) else (none)) else (none))) := fun h => by
      rw [hi1]
      rcases hinv with ⟨h1, h2⟩ | ⟨h1, h2, h5, h6⟩
      · subst h1
        rw [if_pos (by decide)]
        exact htake h (.inl rfl)
      · rw [if_neg (by omega), if_pos h1, if_pos h2]
        by_cases hl1 : lt (l.getD i z).f0 (l.getD b.toNat z).f0
        · rw [if_pos (show Op.bytesLess (rd_T28 l i).f0.toList (rd_T28 l b).f0.toList = true from hl1)]
          exact htake h (.inr ((hless h1 h2).1 hl1))
        · rw [if_neg (show ¬ Op.bytesLess (rd_T28 l i).f0.toList (rd_T28 l b).f0.toList = true from hl1)]
          exact hkeep h ⟨h1, fun h' => hl1 ((hless h1 h2).2 h')⟩
    simp only [concourseref27_Names.l1]
    rw [if_pos (by omega)]
    have hjl : (ns.take j).length = j := by rw [List.length_take]; omega
    rw [hjl]
    by_cases h0 : j = 0
    · have hs := hsecond (by omega)
      rw [if_pos (by omega)]
      rw [if_pos (show (0 : Int) ≤ (i : Int) by omega)]
      exact hgoal hs
    · rw [if_neg (by omega), if_pos (show (0 : Int) ≤ (i : Int) by omega), w64 (x := (j : Int) - 1) (by omega) (by omega), if_pos (by omega), if_pos (by omega)]
      have hr : rdOf ByteArray.empty (ns.take j) ((j : Int) - 1) = ns.getD (j - 1) ByteArray.empty := by
        unfold rdOf
        rw [show ((j : Int) - 1).toNat = j - 1 by omega]
        simp only [List.getD_eq_getElem?_getD, List.getElem?_take]
        rw [if_pos (by omega)]
      rw [hr]
      by_cases hc : lt (ns.getD (j - 1) ByteArray.empty) (l.getD i z).f0
      · rw [if_pos (show Op.bytesLess (ns.getD (j - 1) ByteArray.empty).toList (rd_T28 l i).f0.toList = true from hc)]
        exact hgoal (hsecond ((hcand (by omega)).1 hc))
      · rw [if_neg (show ¬ Op.bytesLess (ns.getD (j - 1) ByteArray.empty).toList (rd_T28 l i).f0.toList = true from hc), hi1]
        exact hgoal (hskip (by have := mt (hcand (by omega)).2 hc; omega))
theorem names_outer (e : Nat) : ∀ (j k : Nat), ns.length - j = e → j ≤ ns.length → (e + 1) * (l.length + 2) < k → concourseref27_Names.l0 k l (ns.take j) = some ns := by
  obtain ⟨ix, hix⟩ := places l ns hn hm hl hnl
  induction e with
  | zero =>
    intro j k he hj hk
    obtain ⟨k, rfl⟩ : ∃ m, k = m + 1 := ⟨k - 1, by omega⟩
    simp only [concourseref27_Names.l0]
    obtain ⟨k', h1, h2⟩ := names_inner l ns hn hm hl hnl j hj ix hix l.length 0 (-1) k (by omega) (by omega) (by omega) (.inl ⟨rfl, fun m hm => by omega⟩)
    rw [if_pos (by omega)] at h2
    exact h2
  | succ e ih =>
    intro j k he hj hk
    obtain ⟨k, rfl⟩ : ∃ m, k = m + 1 := ⟨k - 1, by omega⟩
    simp only [concourseref27_Names.l0]
    have hk2 : (e + 1) * (l.length + 2) + (l.length + 2) < k + 1 := by rw [← Nat.succ_mul]; exact hk
    obtain ⟨k', h1, h2⟩ := names_inner l ns hn hm hl hnl j hj ix hix l.length 0 (-1) k (by omega) (by omega) (by omega) (.inl ⟨rfl, fun m hm => by omega⟩)
    rw [if_neg (by omega), ih (j + 1) k' (by omega) (by omega) (by omega)] at h2
    exact h2
theorem names_ok : concourseref27_Names.f ((ns.length + 1) * (l.length + 2) + 1) l = some ns := by
  have := names_outer l ns hn hm hl hnl ns.length 0 ((ns.length + 1) * (l.length + 2) + 1) (by omega) (by omega) (by omega)
  exact this
end
theorem fold_length (l : List Row) : (fold l).length ≤ l.length := by
  refine snoc_ind (p := fun l => (fold l).length ≤ l.length) (Nat.le_refl _) (fun l x ih => ?_) l
  rw [fold_snoc]
  unfold tput
  rw [length_tins]
  have : (tdel ks (fold l) x.f0).length ≤ (fold l).length := by unfold tdel; exact List.length_filter_le _ _
  simp only [List.length_append, List.length_cons, List.length_nil]
  omega
theorem names_fold (l : List Row) (hl : l.length ≤ 8796093022207) : ∃ k, concourseref27_Names.f k l = some ((fold l).map fun p => p.1) :=
  ⟨_, names_ok l _ (rising_lt (fold_rising l)) (fold_keys l) (by omega) (by have := fold_length l; simp; omega)⟩
theorem size_loop (ns : List ByteArray) (hn : ns.length ≤ 8796093022207) (d : Nat) : ∀ (n : Int) (i k : Nat), 0 ≤ n → n + ((ns.drop i).map fun s => 24 + (s.size : Int)).sum ≤ 9223372036854775807 → ns.length - i = d → i ≤ ns.length → d < k →
    concourseref27_Size.l0 k n ns i = some (n + ((ns.drop i).map fun s => 24 + (s.size : Int)).sum) := by
  induction d with
  | zero =>
    intro n i k h0 h1 hd hi hk
    obtain ⟨k, rfl⟩ : ∃ m, k = m + 1 := ⟨k - 1, by omega⟩
    simp only [concourseref27_Size.l0]
    rw [if_neg (by omega), List.drop_eq_nil_of_le (by omega)]
    simp
  | succ d ih =>
    intro n i k h0 h1 hd hi hk
    obtain ⟨k, rfl⟩ : ∃ m, k = m + 1 := ⟨k - 1, by omega⟩
    have hlt : i < ns.length := by omega
    have hdr : ns.drop i = ns[i] :: ns.drop (i + 1) := List.drop_eq_getElem_cons hlt
    have hr : rdOf ByteArray.empty ns i = ns[i] := by unfold rdOf; simp [List.getD_eq_getElem?_getD, List.getElem?_eq_getElem hlt]
    have hnn : 0 ≤ ((ns.drop (i + 1)).map fun s => 24 + (s.size : Int)).sum := by
      induction ns.drop (i + 1) with
      | nil => exact Int.le_refl _
      | cons p M ih => simp only [List.map_cons, List.sum_cons]; omega
    rw [hdr] at h1 ⊢
    simp only [List.map_cons, List.sum_cons] at h1 ⊢
    simp only [concourseref27_Size.l0]
    rw [if_pos (by omega), if_pos (by omega), hr, w64 (x := (i : Int) + 1) (by omega) (by omega), w64 (x := 24 + _) (by omega) (by omega), w64 (x := n + _) (by omega) (by omega)]
    have := ih (n + (24 + (ns[i].size : Int))) (i + 1) k (by omega) (by omega) (by omega) (by omega) (by omega)
    rw [show ((i : Int) + 1) = ((i + 1 : Nat) : Int) by omega, this]
    congr 1
    omega
theorem size_fold (l : List Row) (hl : l.length ≤ 8796093022207) (hb : size (fold l) ≤ 9223372036854775807) : ∃ k, concourseref27_Size.f k l = some (size (fold l)) := by
  have hw : (((fold l).map fun p => p.1).map fun s => 24 + (s.size : Int)).sum = size (fold l) := by unfold size wt; rw [List.map_map]; rfl
  have h1 : ((fold l).map fun p => p.1).length ≤ 8796093022207 := by have := fold_length l; simp; omega
  refine (Ev.bind (Ev.of (concourseref27_Names.mono l) (names_fold l hl).choose_spec) (f := fun k t => concourseref27_Size.l0 k 0 t 0) ⟨((fold l).map fun p => p.1).length + 1, fun k hk => ?_⟩).rounds
  have := size_loop _ h1 ((fold l).map fun p => p.1).length 0 0 k (by omega) (by rw [List.drop_zero, hw]; omega) (by omega) (by omega) (by omega)
  rw [List.drop_zero, hw] at this
  simpa using this
theorem texts_loop (ns : List ByteArray) (hn : ns.length ≤ 8796093022207) (d : Nat) : ∀ (i k : Nat), ns.length - i = d → i ≤ ns.length → d < k → concourseref04_Texts.l0 k ns ns i = some true := by
  induction d with
  | zero =>
    intro i k hd hi hk
    obtain ⟨k, rfl⟩ : ∃ m, k = m + 1 := ⟨k - 1, by omega⟩
    simp only [concourseref04_Texts.l0]
    rw [if_neg (by omega)]
  | succ d ih =>
    intro i k hd hi hk
    obtain ⟨k, rfl⟩ : ∃ m, k = m + 1 := ⟨k - 1, by omega⟩
    simp only [concourseref04_Texts.l0]
    rw [if_pos (by omega), if_pos (by omega), if_pos (by omega), if_pos trivial, w64 (x := (i : Int) + 1) (by omega) (by omega)]
    exact ih (i + 1) k (by omega) (by omega) (by omega)
/-- A list and itself are the same. -/
theorem texts_same (ns : List ByteArray) (hn : ns.length ≤ 8796093022207) : concourseref04_Texts.f (ns.length + 1) ns ns = some true := by
  unfold concourseref04_Texts.f
  rw [if_pos rfl]
  exact texts_loop ns hn ns.length 0 _ (by omega) (by omega) (by omega)

/-! ### whatever the order -/
theorem val_sum (l : List Row) (s : ByteArray) : val (fold l) s = wrap64 ((l.map fun x => if x.f0 = s then x.f1 else 0).sum) := by
  refine snoc_ind (p := fun l => val (fold l) s = wrap64 ((l.map fun x => if x.f0 = s then x.f1 else 0).sum)) (w64 (x := 0) (by decide) (by decide)).symm (fun l x ih => ?_) l
  rw [fold_snoc, val_tput, List.map_append, List.sum_append]
  simp only [List.map_cons, List.map_nil, List.sum_cons, List.sum_nil]
  by_cases e : x.f0 = s
  · rw [if_pos e, if_pos e, e, ih]
    unfold wrap64
    omega
  · rw [if_neg e, if_neg e, ih]
    congr 1
    omega
theorem val_perm {l m : List Row} (h : l.Perm m) (s : ByteArray) : val (fold l) s = val (fold m) s := by
  rw [val_sum, val_sum, (h.map _).sum_eq_of_int]
theorem keys_perm {l m : List Row} (h : l.Perm m) : (fold l).map (fun p => p.1) = (fold m).map (fun p => p.1) := by
  refine rising_ext (rising_lt (fold_rising l)) (rising_lt (fold_rising m)) fun x => ?_
  rw [fold_keys, fold_keys]
  exact (h.map _).mem_iff
theorem size_keys (M : List (ByteArray × Int)) : size M = ((M.map fun p => p.1).map fun s => 24 + (s.size : Int)).sum := by unfold size wt; rw [List.map_map]; rfl
theorem size_perm {l m : List Row} (h : l.Perm m) : size (fold l) = size (fold m) := by rw [size_keys, size_keys, keys_perm h]
end Go.Proofs.Ytnccofpkanhfhaa.Counter
