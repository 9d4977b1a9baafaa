/-
  Texts under keys, in plain Lean: what the document's functions do to a rising list of rows is what a map does.
-/
import Derived.Test.YtnccofpkanhfhaaPure
import Derived.Test.YtnccofpkanhfhaaKv
import Derived.Test.YtnccofpkanhfhaaR26
import Derived.Test.YtnccofpkanhfhaaR30
import Derived.Test.YtnccofpkanhfhaaR32
import Derived.Test.YtnccofpkanhfhaaR33
import Derived.Test.YtnccofpkanhfhaaR36
import Derived.Test.YtnccofpkanhfhaaR39
set_option linter.unusedVariables false
set_option linter.unusedSimpArgs false
set_option linter.unusedSectionVars false
namespace Go.Proofs.Ytnccofpkanhfhaa.Kv
open Go.RowKit Go.Proofs.Ytnccofpkanhfhaa.Tab Go.Proofs.Ytnccofpkanhfhaa.Pure Go.Proofs.Ytnccofpkanhfhaa.R Go.Proofs.YtnccofpkanhfhaaW.PrintWords Go.Proofs.YtnccofpkanhfhaaW.PrintMore
abbrev Row := S114
abbrev z := z114
abbrev Step := S50
abbrev Tabl := List (ByteArray × ByteArray)
def rows (M : Tabl) : List Row := M.map fun p => ⟨p.1, p.2⟩
def size (M : Tabl) : Int := wt (fun p => 16 + p.1.size + p.2.size) M
theorem rd_eq (l : List Row) (i : Int) : rd_T114 l i = l.getD i.toNat z := rfl
theorem rd_step (l : List Step) (i : Int) : rd_T50 l i = l.getD i.toNat z50 := rfl
theorem rows_length (M : Tabl) : (rows M).length = M.length := List.length_map _
theorem drop_at {α : Type} (l : List α) (x : α) {i : Nat} (h : i < l.length) : l.drop i = l.getD i x :: l.drop (i + 1) := by
  rw [List.drop_eq_getElem_cons h]
  simp [List.getD_eq_getElem?_getD, List.getElem?_eq_getElem h]
/-! ### one by one, on lists -/
def getL (s : ByteArray) : List Row → ByteArray × Bool
  | [] => (⟨#[]⟩, false)
  | x :: r => if x.f0 = s then (x.f1, true) else getL s r
def delL (s : ByteArray) : List Row → List Row
  | [] => []
  | x :: r => if x.f0 = s then delL s r else x :: delL s r
def putL (s v : ByteArray) : List Row → List Row
  | [] => [⟨s, v⟩]
  | x :: r => if lt x.f0 s then x :: putL s v r else ⟨s, v⟩ :: delL s (x :: r)
def sizeL : List Row → Int
  | [] => 0
  | x :: r => 16 + (x.f0.size : Int) + (x.f1.size : Int) + sizeL r
theorem sizeL_nonneg : ∀ l : List Row, 0 ≤ sizeL l
  | [] => Int.le_refl _
  | x :: r => by have := sizeL_nonneg r; simp only [sizeL]; omega
theorem getL_eq (s : ByteArray) : ∀ M : Tabl, getL s (rows M) = (val M s, (tlook ks M s).isSome)
  | [] => rfl
  | (a, b) :: M => by
    have ih := getL_eq s M
    simp only [rows, List.map_cons, getL] at ih ⊢
    by_cases e : a = s
    · subst e
      rw [if_pos rfl]
      simp [val, tlook, ks_one.self]
    · rw [if_neg e, ih]
      simp [val, tlook, List.find?_cons, ks_one.ne e]
theorem delL_eq (s : ByteArray) : ∀ M : Tabl, delL s (rows M) = rows (tdel ks M s)
  | [] => rfl
  | (a, b) :: M => by
    have ih := delL_eq s M
    simp only [rows, List.map_cons, delL, tdel, List.filter_cons] at ih ⊢
    by_cases e : a = s
    · subst e
      rw [if_pos rfl, ih]
      simp [ks_one.self]
    · rw [if_neg e, ih]
      simp [ks_one.ne e]
theorem tdel_big {M : Tabl} {s : ByteArray} (h : ∀ p ∈ M, p.1 ≠ s) : tdel ks M s = M := by
  unfold tdel
  rw [List.filter_eq_self]
  intro p hp
  rw [ks_one.ne (h p hp)]
  rfl
theorem putL_eq (s v : ByteArray) : ∀ M : Tabl, Rising ks M → putL s v (rows M) = rows (tput ks M s v)
  | [], _ => rfl
  | (a, b) :: M, h => by
    obtain ⟨h1, h2⟩ := List.pairwise_cons.1 h
    have ih := putL_eq s v M h2
    simp only [rows, List.map_cons, putL] at ih ⊢
    by_cases e : lt a s
    · rw [if_pos e, ih]
      have hne : a ≠ s := fun e' => by subst e'; exact lt_irrefl _ e
      have hd : tdel ks ((a, b) :: M) s = (a, b) :: tdel ks M s := by
        unfold tdel
        simp [List.filter_cons, ks_one.ne hne]
      unfold tput
      rw [hd]
      simp only [tins]
      rw [if_neg]
      · rfl
      · intro hb
        exact lt_asymm e ((lt_before _ _).2 hb)
    · rw [if_neg e]
      have hd := delL_eq s ((a, b) :: M)
      simp only [rows, List.map_cons] at hd
      rw [hd]
      have hbig : ∀ p ∈ tdel ks ((a, b) :: M) s, (ks s).before (ks p.1) = true := by
        intro p hp
        obtain ⟨hp, hne⟩ := (mem_tdel _ _ _).1 hp
        rcases lt_total hne with h3 | h3
        · exfalso
          rcases List.mem_cons.1 hp with rfl | hp
          · exact e h3
          · exact e (lt_trans ((lt_before _ _).2 (h1 p hp)) h3)
        · exact (lt_before _ _).1 h3
      unfold tput
      cases hd2 : tdel ks ((a, b) :: M) s with
      | nil => rfl
      | cons y r =>
        rw [hd2] at hbig
        simp only [tins]
        rw [if_pos (hbig y (by simp))]
        rfl
theorem sizeL_eq : ∀ M : Tabl, sizeL (rows M) = size M
  | [] => rfl
  | (a, b) :: M => by
    have ih := sizeL_eq M
    simp only [rows, size, wt, List.map_cons, List.sum_cons, sizeL] at ih ⊢
    rw [ih]
theorem keysL (M : Tabl) : (rows M).map (fun x => x.f0) = M.map fun p => p.1 := by simp [rows, Function.comp_def]
/-! ### the printed functions -/
theorem get_loop (l : List Row) (s : ByteArray) (hl : l.length ≤ 140737488351232) (d : Nat) : ∀ (i k : Nat), l.length - i = d → i ≤ l.length → d < k → concourseref26_Get.l0 k l s i = some (getL s (l.drop i)) := by
  induction d with
  | zero =>
    intro i k hd hi hk
    obtain ⟨k, rfl⟩ : ∃ m, k = m + 1 := ⟨k - 1, by omega⟩
    simp only [concourseref26_Get.l0]
    rw [if_neg (by omega), List.drop_eq_nil_of_le (by omega)]
    rfl
  | succ d ih =>
    intro i k hd hi hk
    obtain ⟨k, rfl⟩ : ∃ m, k = m + 1 := ⟨k - 1, by omega⟩
    simp only [concourseref26_Get.l0]
    rw [if_pos (by omega), if_pos (by omega), rd_eq, Int.toNat_natCast, w64 (x := (i : Int) + 1) (by omega) (by omega), drop_at l z (by omega)]
    simp only [getL, toList_inj]
    split
    · rfl
    · exact ih (i + 1) k (by omega) (by omega) (by omega)
theorem get_ok (M : Tabl) (s : ByteArray) (hl : M.length ≤ 140737488351232) : ∃ k, concourseref26_Get.f k (rows M) s = some (val M s, (tlook ks M s).isSome) :=
  ⟨(rows M).length + 1, by
    have := get_loop (rows M) s (by rw [rows_length]; exact hl) (rows M).length 0 _ (by omega) (by omega) (Nat.lt_succ_self _)
    rw [List.drop_zero, getL_eq] at this
    exact this⟩
theorem del_loop (l : List Row) (s : ByteArray) (hl : l.length ≤ 1000000) (d : Nat) : ∀ (out : List Row) (i k : Nat), l.length - i = d → i ≤ l.length → out.length ≤ i → d < k → concourseref26_Del.l0 k l s out i = some (out ++ delL s (l.drop i)) := by
  induction d with
  | zero =>
    intro out i k hd hi ho hk
    obtain ⟨k, rfl⟩ : ∃ m, k = m + 1 := ⟨k - 1, by omega⟩
    simp only [concourseref26_Del.l0]
    rw [if_neg (by omega), List.drop_eq_nil_of_le (by omega)]
    simp [delL]
  | succ d ih =>
    intro out i k hd hi ho hk
    obtain ⟨k, rfl⟩ : ∃ m, k = m + 1 := ⟨k - 1, by omega⟩
    simp only [concourseref26_Del.l0]
    rw [if_pos (by omega), if_pos (by omega), rd_eq, Int.toNat_natCast, w64 (x := (i : Int) + 1) (by omega) (by omega), drop_at l z (by omega)]
    simp only [delL, toList_inj]
    split
    · exact ih out (i + 1) k (by omega) (by omega) (by omega) (by omega)
    · rw [if_pos (by omega)]
      have := ih (out ++ [⟨(l.getD i z).f0, (l.getD i z).f1⟩]) (i + 1) k (by omega) (by omega) (by simp; omega) (by omega)
      rw [List.append_assoc] at this
      exact this
theorem del_ok (M : Tabl) (s : ByteArray) (hl : M.length ≤ 1000000) : ∃ k, concourseref26_Del.f k (rows M) s = some (rows (tdel ks M s)) :=
  ⟨(rows M).length + 1, by
    have := del_loop (rows M) s (by rw [rows_length]; exact hl) (rows M).length [] 0 _ (by omega) (by omega) (by simp) (Nat.lt_succ_self _)
    rw [List.drop_zero, delL_eq] at this
    exact this⟩
theorem put_done (l : List Row) (s v : ByteArray) (hl : l.length ≤ 1000000) (d : Nat) : ∀ (out : List Row) (i k : Nat), l.length - i = d → i ≤ l.length → out.length ≤ i + 1 → 2 * d < k → concourseref26_Put.l0 k l s v out true i = some (out ++ delL s (l.drop i)) := by
  induction d with
  | zero =>
    intro out i k hd hi ho hk
    obtain ⟨k, rfl⟩ : ∃ m, k = m + 1 := ⟨k - 1, by omega⟩
    simp only [concourseref26_Put.l0]
    rw [if_neg (by omega), List.drop_eq_nil_of_le (by omega)]
    simp [delL]
  | succ d ih =>
    intro out i k hd hi ho hk
    obtain ⟨k, rfl⟩ : ∃ m, k = m + 2 := ⟨k - 2, by omega⟩
    simp only [concourseref26_Put.l0, concourseref26_Put.j1]
    rw [if_pos (by omega), if_pos trivial, if_neg (by simp), if_pos (by omega), if_pos (by omega), rd_eq, Int.toNat_natCast, w64 (x := (i : Int) + 1) (by omega) (by omega), drop_at l z (by omega)]
    simp only [delL, toList_inj]
    split
    · exact ih out (i + 1) k (by omega) (by omega) (by omega) (by omega)
    · rw [if_pos (by omega)]
      have := ih (out ++ [⟨(l.getD i z).f0, (l.getD i z).f1⟩]) (i + 1) k (by omega) (by omega) (by simp; omega) (by omega)
      rw [List.append_assoc] at this
      exact this
theorem put_loop (l : List Row) (s v : ByteArray) (hl : l.length ≤ 1000000) (d : Nat) : ∀ (out : List Row) (i k : Nat), l.length - i = d → i ≤ l.length → out.length ≤ i → 2 * d < k → concourseref26_Put.l0 k l s v out false i = some (out ++ putL s v (l.drop i)) := by
  induction d with
  | zero =>
    intro out i k hd hi ho hk
    obtain ⟨k, rfl⟩ : ∃ m, k = m + 1 := ⟨k - 1, by omega⟩
    simp only [concourseref26_Put.l0]
    rw [if_neg (by omega), if_neg (by simp), if_pos (by omega), List.drop_eq_nil_of_le (by omega)]
    simp [putL]
  | succ d ih =>
    intro out i k hd hi ho hk
    obtain ⟨k, rfl⟩ : ∃ m, k = m + 2 := ⟨k - 2, by omega⟩
    have hds := put_done l s v hl d
    simp only [concourseref26_Put.l0, concourseref26_Put.j1]
    rw [if_pos (by omega), if_neg (by simp), if_pos (by omega), rd_eq, Int.toNat_natCast, w64 (x := (i : Int) + 1) (by omega) (by omega), drop_at l z (by omega)]
    by_cases e : lt (l.getD i z).f0 s
    · have e' : (!(Op.bytesLess (l.getD i z).f0.toList s.toList)) = false := by rw [show Op.bytesLess (l.getD i z).f0.toList s.toList = true from e]; rfl
      have hne : ¬ (l.getD i z).f0 = s := fun h => by rw [h] at e; exact lt_irrefl _ e
      rw [e', if_neg (by simp), if_pos (by omega), if_pos (by omega)]
      simp only [putL, toList_inj]
      rw [if_pos e, if_neg hne, if_pos (by omega)]
      have := ih (out ++ [⟨(l.getD i z).f0, (l.getD i z).f1⟩]) (i + 1) k (by omega) (by omega) (by simp; omega) (by omega)
      rw [List.append_assoc] at this
      exact this
    · have e' : (!(Op.bytesLess (l.getD i z).f0.toList s.toList)) = true := by rw [show Op.bytesLess (l.getD i z).f0.toList s.toList = false from by simpa [lt] using e]; rfl
      rw [e', if_pos rfl, if_pos (by omega)]
      simp only [Option.bind_some, putL, delL, toList_inj]
      rw [if_pos (by omega), if_pos (by omega), if_neg e]
      have hds := put_done l s v hl d
      split
      · have := hds (out ++ [⟨s, v⟩]) (i + 1) k (by omega) (by omega) (by simp; omega) (by omega)
        rw [List.append_assoc] at this
        exact this
      · rw [if_pos (by simp; omega)]
        have := hds (out ++ [⟨s, v⟩] ++ [⟨(l.getD i z).f0, (l.getD i z).f1⟩]) (i + 1) k (by omega) (by omega) (by simp; omega) (by omega)
        rw [List.append_assoc, List.append_assoc] at this
        simpa using this
theorem put_ok {M : Tabl} (h : Rising ks M) (s v : ByteArray) (hl : M.length ≤ 1000000) : ∃ k, concourseref26_Put.f k (rows M) s v = some (rows (tput ks M s v)) :=
  ⟨2 * (rows M).length + 1, by
    have := put_loop (rows M) s v (by rw [rows_length]; exact hl) (rows M).length [] 0 _ (by omega) (by omega) (by simp) (Nat.lt_succ_self _)
    rw [List.drop_zero, putL_eq s v M h] at this
    exact this⟩
theorem size_loop (l : List Row) (hl : l.length ≤ 1000000) (d : Nat) : ∀ (n : Int) (i k : Nat), l.length - i = d → i ≤ l.length → 0 ≤ n → n + sizeL (l.drop i) ≤ 9223372036854775807 → d < k → concourseref26_Size.l0 k l n i = some (n + sizeL (l.drop i)) := by
  induction d with
  | zero =>
    intro n i k hd hi h0 hn hk
    obtain ⟨k, rfl⟩ : ∃ m, k = m + 1 := ⟨k - 1, by omega⟩
    simp only [concourseref26_Size.l0]
    rw [if_neg (by omega), List.drop_eq_nil_of_le (by omega)]
    simp [sizeL]
  | succ d ih =>
    intro n i k hd hi h0 hn hk
    obtain ⟨k, rfl⟩ : ∃ m, k = m + 1 := ⟨k - 1, by omega⟩
    rw [drop_at l z (by omega)] at hn ⊢
    simp only [sizeL] at hn ⊢
    have := sizeL_nonneg (l.drop (i + 1))
    simp only [concourseref26_Size.l0]
    rw [if_pos (by omega), if_pos (by omega), rd_eq, Int.toNat_natCast, w64 (x := (i : Int) + 1) (by omega) (by omega), w64 (x := 16 + ((l.getD i z).f0.size : Int)) (by omega) (by omega),
      w64 (x := 16 + ((l.getD i z).f0.size : Int) + _) (by omega) (by omega), w64 (x := n + _) (by omega) (by omega)]
    have := ih (n + (16 + ((l.getD i z).f0.size : Int) + ((l.getD i z).f1.size : Int))) (i + 1) k (by omega) (by omega) (by omega) (by omega) (by omega)
    rw [show ((i : Int) + 1) = ((i + 1 : Nat) : Int) by omega, this]
    congr 1
    omega
theorem size_ok (M : Tabl) (hl : M.length ≤ 1000000) (hn : size M ≤ 9223372036854775807) : ∃ k, concourseref26_Size.f k (rows M) = some (size M) :=
  ⟨(rows M).length + 1, by
    have := size_loop (rows M) (by rw [rows_length]; exact hl) (rows M).length 0 0 _ (by omega) (by omega) (Int.le_refl _) (by rw [List.drop_zero, sizeL_eq]; omega) (Nat.lt_succ_self _)
    rw [List.drop_zero, sizeL_eq, Int.zero_add] at this
    exact this⟩
theorem keys_loop (l : List Row) (hl : l.length ≤ 1000000) (d : Nat) : ∀ (out : List ByteArray) (i k : Nat), l.length - i = d → i ≤ l.length → out.length ≤ i → d < k → concourseref26_Keys.l0 k l out i = some (out ++ (l.drop i).map fun x => x.f0) := by
  induction d with
  | zero =>
    intro out i k hd hi ho hk
    obtain ⟨k, rfl⟩ : ∃ m, k = m + 1 := ⟨k - 1, by omega⟩
    simp only [concourseref26_Keys.l0]
    rw [if_neg (by omega), List.drop_eq_nil_of_le (by omega)]
    simp
  | succ d ih =>
    intro out i k hd hi ho hk
    obtain ⟨k, rfl⟩ : ∃ m, k = m + 1 := ⟨k - 1, by omega⟩
    simp only [concourseref26_Keys.l0]
    rw [if_pos (by omega), if_pos (by omega), rd_eq, Int.toNat_natCast, w64 (x := (i : Int) + 1) (by omega) (by omega), drop_at l z (by omega), if_pos (by omega)]
    have := ih (out ++ [(l.getD i z).f0]) (i + 1) k (by omega) (by omega) (by simp; omega) (by omega)
    rw [List.append_assoc] at this
    exact this
theorem keys_ok (M : Tabl) (hl : M.length ≤ 1000000) : ∃ k, concourseref26_Keys.f k (rows M) = some (M.map fun p => p.1) :=
  ⟨(rows M).length + 1, by
    have := keys_loop (rows M) (by rw [rows_length]; exact hl) (rows M).length [] 0 _ (by omega) (by omega) (by simp) (Nat.lt_succ_self _)
    rw [List.drop_zero, keysL] at this
    exact this⟩
theorem much_loop (l : List Step) (hs : ∀ x ∈ l, x.f1.size ≤ 140737488351232 ∧ x.f2.size ≤ 140737488351232) (hl : l.length ≤ 140737488351232) (d : Nat) : ∀ (n : Int) (i : Nat) (k : Nat), 0 ≤ n → n ≤ 1048576 → i ≤ l.length → l.length - i = d → d < k →
    ∃ r, concourselaw26_Much.l0 k l n i = some r ∧ (r = false → l.length ≤ 200 ∧ n ≤ 20000 ∧ ∀ x ∈ l.drop i, x.f1.size ≤ 20000 ∧ x.f2.size ≤ 20000) := by
  induction d with
  | zero =>
    intro n i k h0 h1 hi hd hk
    obtain ⟨k, rfl⟩ : ∃ m, k = m + 1 := ⟨k - 1, by omega⟩
    simp only [concourselaw26_Much.l0]
    rw [if_neg (by omega), List.drop_eq_nil_of_le (by omega)]
    by_cases h80 : (l.length : Int) > 200
    · rw [if_pos h80]
      exact ⟨true, rfl, fun h => by cases h⟩
    · rw [if_neg h80]
      exact ⟨_, rfl, fun h => ⟨by omega, by simpa using h, by simp⟩⟩
  | succ d ih =>
    intro n i k h0 h1 hi hd hk
    obtain ⟨k, rfl⟩ : ∃ m, k = m + 1 := ⟨k - 1, by omega⟩
    have hlt : i < l.length := by omega
    have hx : l.getD i z50 = l[i] := by simp [List.getD_eq_getElem?_getD, List.getElem?_eq_getElem hlt]
    have hsz := hs _ (List.getElem_mem hlt)
    rw [drop_at l z50 hlt, hx]
    simp only [concourselaw26_Much.l0]
    rw [if_pos (by omega), if_pos (by omega), rd_step, Int.toNat_natCast, hx, w64 (x := (i : Int) + 1) (by omega) (by omega), w64 (x := n + (l[i].f1.size : Int)) (by omega) (by omega), w64 (x := n + (l[i].f1.size : Int) + _) (by omega) (by omega)]
    obtain ⟨r, hr, hf⟩ := ih (mn (n + (l[i].f1.size : Int) + (l[i].f2.size : Int)) 1048576) (i + 1) k (by unfold mn; split <;> omega) (by unfold mn; split <;> omega) (by omega) (by omega) (by omega)
    refine ⟨r, hr, fun h => ?_⟩
    obtain ⟨h2, h3, h4⟩ := hf h
    have h5 : n + (l[i].f1.size : Int) + (l[i].f2.size : Int) ≤ 20000 := by unfold mn at h3; split at h3 <;> omega
    refine ⟨h2, by omega, fun x hx => ?_⟩
    rcases List.mem_cons.1 hx with rfl | hx
    · omega
    · exact h4 x hx
theorem much_ok (l : List Step) (hs : ∀ x ∈ l, x.f1.size ≤ 140737488351232 ∧ x.f2.size ≤ 140737488351232) (hl : l.length ≤ 140737488351232) :
    ∃ r, concourselaw26_Much.f (l.length + 1) l = some r ∧ (r = false → l.length ≤ 200 ∧ ∀ x ∈ l, x.f1.size ≤ 20000 ∧ x.f2.size ≤ 20000) := by
  obtain ⟨r, h1, h2⟩ := much_loop l hs hl l.length 0 0 (l.length + 1) (by omega) (by omega) (by omega) (by omega) (by omega)
  refine ⟨r, h1, fun h => ?_⟩
  have := h2 h
  simp only [List.drop_zero] at this
  exact ⟨this.1, this.2.2⟩
/-! ### sizes -/
theorem val_tput (M : Tabl) (s t v : ByteArray) : val (tput ks M s v) t = if s = t then v else val M t := by
  unfold val
  split
  · rename_i h; subst h; rw [tlook_put_same ks_one]; rfl
  · rename_i h; rw [tlook_put_other ks_one _ h]
theorem size_nonneg (M : Tabl) : 0 ≤ size M := by rw [← sizeL_eq]; exact sizeL_nonneg _
theorem size_tput {M : Tabl} (h : Rising ks M) (s v : ByteArray) : size (tput ks M s v) = size M + grows M s v := by
  unfold size grows has val
  rw [wt_tput]
  cases e : tlook ks M s with
  | none => rw [tdel_none e]; simp; omega
  | some a =>
    have := wt_tdel (fun p : ByteArray × ByteArray => 16 + (p.1.size : Int) + (p.2.size : Int)) h e
    simp only [Option.isSome_some, if_true, Option.getD_some] at this ⊢
    omega
theorem size_tdel {M : Tabl} (h : Rising ks M) {s a : ByteArray} (e : tlook ks M s = some a) : size (tdel ks M s) = size M - (16 + (s.size : Int) + (a.size : Int)) := by
  have := wt_tdel (fun p : ByteArray × ByteArray => 16 + (p.1.size : Int) + (p.2.size : Int)) h e
  unfold size
  simp only at this
  omega
/-- Entries n at most, each not long. -/
def Small (n : Nat) (M : Tabl) : Prop := M.length ≤ n ∧ ∀ p ∈ M, p.1.size ≤ 20000 ∧ p.2.size ≤ 20000
theorem small_nil (n : Nat) : Small n [] := ⟨Nat.zero_le _, by simp⟩
theorem Small.tdel {n : Nat} {M : Tabl} (h : Small n M) (s : ByteArray) : Small n (tdel ks M s) :=
  ⟨Nat.le_trans (List.length_filter_le _ _) h.1, fun p hp => h.2 p ((mem_tdel _ _ _).1 hp).1⟩
theorem Small.tput {n : Nat} {M : Tabl} (h : Small n M) {s v : ByteArray} (hs : s.size ≤ 20000) (hv : v.size ≤ 20000) : Small (n + 1) (tput ks M s v) := by
  refine ⟨?_, fun p hp => ?_⟩
  · unfold Tab.tput
    rw [length_tins]
    have := (h.tdel s).1
    omega
  · unfold Tab.tput at hp
    rcases (mem_tins _ _ _).1 hp with rfl | hp
    · exact ⟨hs, hv⟩
    · exact (h.tdel s).2 p hp
theorem Small.size {n : Nat} {M : Tabl} (h : Small n M) : size M ≤ 40016 * n := by
  have : ∀ M : Tabl, (∀ p ∈ M, p.1.size ≤ 20000 ∧ p.2.size ≤ 20000) → Kv.size M ≤ 40016 * M.length := by
    intro M
    induction M with
    | nil => intro _; exact Int.le_refl _
    | cons p M ih =>
      intro h
      have h1 := ih (fun p hp => h p (by simp [hp]))
      have h2 := h p (by simp)
      simp only [Kv.size, wt, List.map_cons, List.sum_cons, List.length_cons] at h1 ⊢
      omega
  have h1 := this M h.2
  have h2 := h.1
  omega
theorem Small.val {n : Nat} {M : Tabl} (h : Small n M) (s : ByteArray) : (val M s).size ≤ 20000 := by
  unfold Kv.val tlook
  cases e : M.find? fun p => (ks p.1).sameKey (ks s) with
  | none => exact Nat.zero_le _
  | some p => exact (h.2 p (List.mem_of_find?_eq_some e)).2
theorem Small.mono {n m : Nat} {M : Tabl} (h : Small n M) (hm : n ≤ m) : Small m M := ⟨Nat.le_trans h.1 hm, h.2⟩
theorem look_val {M : Tabl} {s : ByteArray} (h : (tlook ks M s).isSome = true) : tlook ks M s = some (val M s) := by
  unfold val
  cases e : tlook ks M s with
  | none => rw [e] at h; cases h
  | some a => rfl
end Go.Proofs.Ytnccofpkanhfhaa.Kv
