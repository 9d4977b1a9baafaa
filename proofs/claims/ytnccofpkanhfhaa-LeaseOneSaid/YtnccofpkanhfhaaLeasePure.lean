/-
  Leases, in plain Lean: what the document's functions do to a rising list of rows is what a map does.
-/
import Derived.Test.YtnccofpkanhfhaaPure
import Derived.Test.YtnccofpkanhfhaaLeaseNames
import Derived.Test.YtnccofpkanhfhaaR52
import Derived.Test.YtnccofpkanhfhaaR55
import Derived.Test.YtnccofpkanhfhaaR57
import Derived.Test.YtnccofpkanhfhaaR59
import Derived.Test.YtnccofpkanhfhaaR62
import Derived.Test.YtnccofpkanhfhaaR65
import Derived.Test.YtnccofpkanhfhaaR67
set_option linter.unusedVariables false
set_option linter.unusedSimpArgs false
set_option linter.unusedSectionVars false
namespace Go.Proofs.Ytnccofpkanhfhaa.Lease
open Go.RowKit Go.Proofs.Ytnccofpkanhfhaa.Tab Go.Proofs.Ytnccofpkanhfhaa.Pure Go.Proofs.Ytnccofpkanhfhaa.R Go.Proofs.YtnccofpkanhfhaaW.PrintWords Go.Proofs.YtnccofpkanhfhaaW.PrintMore
abbrev Row := S98
abbrev z := z98
abbrev Step := S87
def row (p : ByteArray × (ByteArray × Int)) : Row := ⟨p.1, p.2.1, p.2.2⟩
def rows (M : Tabl) : List Row := M.map row
theorem rd_eq (l : List Row) (i : Int) : rd_T98 l i = l.getD i.toNat z := rfl
theorem rd_step (l : List Step) (i : Int) : rd_T87 l i = l.getD i.toNat z87 := rfl
theorem rows_length (M : Tabl) : (rows M).length = M.length := List.length_map _
theorem rows_at (M : Tabl) {i : Nat} (h : i < M.length) : (rows M).getD i z = row M[i] := by
  simp [rows, List.getD_eq_getElem?_getD, List.getElem?_eq_getElem h]
theorem drop_at {α : Type} (l : List α) (x : α) {i : Nat} (h : i < l.length) : l.drop i = l.getD i x :: l.drop (i + 1) := by
  rw [List.drop_eq_getElem_cons h]
  simp [List.getD_eq_getElem?_getD, List.getElem?_eq_getElem h]
/-! ### one by one, on lists -/
def delL (s : ByteArray) : List Row → List Row
  | [] => []
  | x :: r => if x.f0 = s then delL s r else x :: delL s r
def putL (y : Row) : List Row → List Row
  | [] => [y]
  | x :: r => if lt x.f0 y.f0 then x :: putL y r else y :: delL y.f0 (x :: r)
def sizeL : List Row → Int
  | [] => 0
  | x :: r => 24 + (x.f0.size : Int) + (x.f1.size : Int) + sizeL r
theorem sizeL_nonneg : ∀ l : List Row, 0 ≤ sizeL l
  | [] => Int.le_refl _
  | x :: r => by have := sizeL_nonneg r; simp only [sizeL]; omega
theorem delL_eq (s : ByteArray) : ∀ M : Tabl, delL s (rows M) = rows (tdel ks M s)
  | [] => rfl
  | (a, b) :: M => by
    have ih := delL_eq s M
    simp only [rows, row, List.map_cons, delL, tdel, List.filter_cons] at ih ⊢
    by_cases e : a = s
    · subst e
      rw [if_pos rfl, ih]
      simp [ks_one.self]
    · rw [if_neg e, ih]
      simp [ks_one.ne e, row]
theorem putL_eq (s : ByteArray) (v : ByteArray × Int) : ∀ M : Tabl, Rising ks M → putL (row (s, v)) (rows M) = rows (tput ks M s v)
  | [], _ => rfl
  | (a, b) :: M, h => by
    obtain ⟨h1, h2⟩ := List.pairwise_cons.1 h
    have ih := putL_eq s v M h2
    simp only [rows, List.map_cons, putL] at ih ⊢
    change (if lt a s then _ else _) = _
    by_cases e : lt a s
    · rw [if_pos e, ih]
      have hne : a ≠ s := fun e' => by subst e'; exact lt_irrefl _ e
      have hd : tdel ks ((a, b) :: M) s = (a, b) :: tdel ks M s := by
        unfold tdel
        simp [List.filter_cons, ks_one.ne hne]
      unfold tput
      rw [hd]
      simp only [tins]
      rw [if_neg]
      · rfl
      · intro hb
        exact lt_asymm e ((lt_before _ _).2 hb)
    · rw [if_neg e]
      have hd := delL_eq s ((a, b) :: M)
      simp only [rows, List.map_cons] at hd
      change row (s, v) :: delL s _ = _
      rw [hd]
      have hbig : ∀ p ∈ tdel ks ((a, b) :: M) s, (ks s).before (ks p.1) = true := by
        intro p hp
        obtain ⟨hp, hne⟩ := (mem_tdel _ _ _).1 hp
        rcases lt_total hne with h3 | h3
        · exfalso
          rcases List.mem_cons.1 hp with rfl | hp
          · exact e h3
          · exact e (lt_trans ((lt_before _ _).2 (h1 p hp)) h3)
        · exact (lt_before _ _).1 h3
      unfold tput
      cases hd2 : tdel ks ((a, b) :: M) s with
      | nil => rfl
      | cons y r =>
        rw [hd2] at hbig
        simp only [tins]
        rw [if_pos (hbig y (by simp))]
        rfl
theorem sizeL_eq : ∀ M : Tabl, sizeL (rows M) = size M
  | [] => rfl
  | (a, b) :: M => by
    have ih := sizeL_eq M
    simp only [rows, row, size, wt, List.map_cons, List.sum_cons, sizeL] at ih ⊢
    rw [ih]
theorem keysL (M : Tabl) : (rows M).map (fun x => x.f0) = M.map fun p => p.1 := by simp [rows, row, Function.comp_def]
/-- Without the one at i. -/
theorem cut_at {M : Tabl} (h : Rising ks M) {i : Nat} (hi : i < M.length) : M.take i ++ M.drop (i + 1) = tdel ks M M[i].1 := by
  have hs : M = M.take i ++ M[i] :: M.drop (i + 1) := by rw [← List.drop_eq_getElem_cons hi, List.take_append_drop]
  have hij := List.pairwise_iff_getElem.1 h
  have h1 : ∀ p ∈ M.take i, (ks p.1).sameKey (ks M[i].1) = false := by
    intro p hp
    obtain ⟨j, hj, rfl⟩ := List.mem_iff_getElem.1 hp
    rw [List.length_take] at hj
    rw [List.getElem_take]
    refine ks_one.ne fun e => ?_
    have := (lt_before _ _).2 (hij j i (by omega) hi (by omega))
    rw [e] at this
    exact lt_irrefl _ this
  have h2 : ∀ p ∈ M.drop (i + 1), (ks p.1).sameKey (ks M[i].1) = false := by
    intro p hp
    obtain ⟨j, hj, rfl⟩ := List.mem_iff_getElem.1 hp
    rw [List.length_drop] at hj
    rw [List.getElem_drop]
    refine ks_one.ne fun e => ?_
    have := (lt_before _ _).2 (hij i (i + 1 + j) hi (by omega) (by omega))
    rw [e] at this
    exact lt_irrefl _ this
  have hs' : ∀ key, tdel ks M key = tdel ks (M.take i ++ M[i] :: M.drop (i + 1)) key := fun key => congrArg (fun l => tdel ks l key) hs
  rw [hs']
  unfold tdel
  rw [List.filter_append, List.filter_cons, ks_one.self, if_neg (by simp), List.filter_eq_self.2, List.filter_eq_self.2]
  · intro p hp; rw [h2 p hp]; rfl
  · intro p hp; rw [h1 p hp]; rfl
/-! ### the printed functions -/
theorem find_loop (M : Tabl) (s : ByteArray) (hl : M.length ≤ 140737488351232) (d : Nat) : ∀ (i k : Nat), M.length - i = d → i ≤ M.length → d < k → (∀ j (h : j < M.length), j < i → M[j].1 ≠ s) →
    (concourseref29_Find.l0 k (rows M) s i = some (-1) ∧ tlook ks M s = none) ∨ ∃ (j : Nat) (h : j < M.length), concourseref29_Find.l0 k (rows M) s i = some (j : Int) ∧ M[j].1 = s := by
  have hrl := rows_length M
  induction d with
  | zero =>
    intro i k hd hi hk hno
    obtain ⟨k, rfl⟩ : ∃ m, k = m + 1 := ⟨k - 1, by omega⟩
    simp only [concourseref29_Find.l0]
    rw [if_neg (by omega)]
    refine .inl ⟨rfl, ?_⟩
    unfold tlook
    rw [List.find?_eq_none.2]
    · rfl
    · intro p hp
      obtain ⟨j, hj, rfl⟩ := List.mem_iff_getElem.1 hp
      rw [ks_one.ne (hno j hj (by omega))]
      simp
  | succ d ih =>
    intro i k hd hi hk hno
    obtain ⟨k, rfl⟩ : ∃ m, k = m + 1 := ⟨k - 1, by omega⟩
    have hlt : i < M.length := by omega
    simp only [concourseref29_Find.l0]
    rw [if_pos (by omega), if_pos (by omega), rd_eq, Int.toNat_natCast, w64 (x := (i : Int) + 1) (by omega) (by omega), rows_at M hlt]
    simp only [row, toList_inj]
    by_cases e : M[i].1 = s
    · rw [if_pos e]
      exact .inr ⟨i, hlt, rfl, e⟩
    · rw [if_neg e]
      exact ih (i + 1) k (by omega) (by omega) (by omega) (fun j h hj => by
        by_cases e2 : j = i
        · subst e2; exact e
        · exact hno j h (by omega))
/-- -1, and it is not there; or its place. -/
theorem find_ok {M : Tabl} (h : Rising ks M) (s : ByteArray) (hl : M.length ≤ 140737488351232) {k : Nat} (hk : M.length < k) :
    (concourseref29_Find.f k (rows M) s = some (-1) ∧ tlook ks M s = none) ∨ ∃ (j : Nat) (h : j < M.length), concourseref29_Find.f k (rows M) s = some (j : Int) ∧ M[j].1 = s ∧ tlook ks M s = some M[j].2 := by
  rcases find_loop M s hl M.length 0 k (by omega) (by omega) hk (fun j h hj => by omega) with h1 | ⟨j, hj, h1, h2⟩
  · exact .inl h1
  · exact .inr ⟨j, hj, h1, h2, by rw [← h2]; exact tlook_mem h (List.getElem_mem hj)⟩
theorem put_done (l : List Row) (y : Row) (hl : l.length ≤ 1000000) (d : Nat) : ∀ (out : List Row) (i k : Nat), l.length - i = d → i ≤ l.length → out.length ≤ i + 1 → 2 * d < k → concourseref29_Put.l0 k l out true i y.f0 y.f1 y.f2 = some (out ++ delL y.f0 (l.drop i)) := by
  induction d with
  | zero =>
    intro out i k hd hi ho hk
    obtain ⟨k, rfl⟩ : ∃ m, k = m + 1 := ⟨k - 1, by omega⟩
    simp only [concourseref29_Put.l0]
    rw [if_neg (by omega), List.drop_eq_nil_of_le (by omega)]
    simp [delL]
  | succ d ih =>
    intro out i k hd hi ho hk
    obtain ⟨k, rfl⟩ : ∃ m, k = m + 2 := ⟨k - 2, by omega⟩
    simp only [concourseref29_Put.l0, concourseref29_Put.j1]
    rw [if_pos (by omega), if_pos trivial, if_neg (by simp), if_pos (by omega), if_pos (by omega), rd_eq, Int.toNat_natCast, w64 (x := (i : Int) + 1) (by omega) (by omega), drop_at l z (by omega)]
    simp only [delL, toList_inj]
    split
    · exact ih out (i + 1) k (by omega) (by omega) (by omega) (by omega)
    · rw [if_pos (by omega)]
      have := ih (out ++ [⟨(l.getD i z).f0, (l.getD i z).f1, (l.getD i z).f2⟩]) (i + 1) k (by omega) (by omega) (by simp; omega) (by omega)
      rw [List.append_assoc] at this
      exact this
theorem put_loop (l : List Row) (y : Row) (hl : l.length ≤ 1000000) (d : Nat) : ∀ (out : List Row) (i k : Nat), l.length - i = d → i ≤ l.length → out.length ≤ i → 2 * d < k → concourseref29_Put.l0 k l out false i y.f0 y.f1 y.f2 = some (out ++ putL y (l.drop i)) := by
  induction d with
  | zero =>
    intro out i k hd hi ho hk
    obtain ⟨k, rfl⟩ : ∃ m, k = m + 1 := ⟨k - 1, by omega⟩
    simp only [concourseref29_Put.l0]
    rw [if_neg (by omega), if_neg (by simp), if_pos (by omega), List.drop_eq_nil_of_le (by omega)]
    simp [putL]
  | succ d ih =>
    intro out i k hd hi ho hk
    obtain ⟨k, rfl⟩ : ∃ m, k = m + 2 := ⟨k - 2, by omega⟩
    have hds := put_done l y hl d
    simp only [concourseref29_Put.l0, concourseref29_Put.j1]
    rw [if_pos (by omega), if_neg (by simp), if_pos (by omega), rd_eq, Int.toNat_natCast, w64 (x := (i : Int) + 1) (by omega) (by omega), drop_at l z (by omega)]
    by_cases e : lt (l.getD i z).f0 y.f0
    · have e' : (!(Op.bytesLess (l.getD i z).f0.toList y.f0.toList)) = false := by rw [show Op.bytesLess (l.getD i z).f0.toList y.f0.toList = true from e]; rfl
      have hne : ¬ (l.getD i z).f0 = y.f0 := fun h => by rw [h] at e; exact lt_irrefl _ e
      rw [e', if_neg (by simp), if_pos (by omega), if_pos (by omega)]
      simp only [putL, toList_inj]
      rw [if_pos e, if_neg hne, if_pos (by omega)]
      have := ih (out ++ [⟨(l.getD i z).f0, (l.getD i z).f1, (l.getD i z).f2⟩]) (i + 1) k (by omega) (by omega) (by simp; omega) (by omega)
      rw [List.append_assoc] at this
      exact this
    · have e' : (!(Op.bytesLess (l.getD i z).f0.toList y.f0.toList)) = true := by rw [show Op.bytesLess (l.getD i z).f0.toList y.f0.toList = false from by simpa [lt] using e]; rfl
      rw [e', if_pos rfl, if_pos (by omega)]
      simp only [Option.bind_some, putL, delL, toList_inj]
      rw [if_pos (by omega), if_pos (by omega), if_neg e]
      split
      · have := hds (out ++ [⟨y.f0, y.f1, y.f2⟩]) (i + 1) k (by omega) (by omega) (by simp; omega) (by omega)
        rw [List.append_assoc] at this
        exact this
      · rw [if_pos (by simp; omega)]
        have := hds (out ++ [⟨y.f0, y.f1, y.f2⟩] ++ [⟨(l.getD i z).f0, (l.getD i z).f1, (l.getD i z).f2⟩]) (i + 1) k (by omega) (by omega) (by simp; omega) (by omega)
        rw [List.append_assoc, List.append_assoc] at this
        simpa using this
theorem put_ok {M : Tabl} (h : Rising ks M) (s v : ByteArray) (t : Int) (hl : M.length ≤ 1000000) {k : Nat} (hk : 2 * M.length < k) : concourseref29_Put.f k (rows M) s v t = some (rows (tput ks M s (v, t))) := by
  have := put_loop (rows M) (row (s, (v, t))) (by rw [rows_length]; exact hl) (rows M).length [] 0 k (by omega) (by omega) (by simp) (by rw [rows_length]; exact hk)
  rw [List.drop_zero, putL_eq s (v, t) M h] at this
  exact this
/-- Has somebody else it? -/
def blocked (M : Tabl) (s v : ByteArray) : Bool := match tlook ks M s with | some x => !decide (x.1 = v) | none => false
theorem take_j0 {M : Tabl} (h : Rising ks M) (s v : ByteArray) (ticks now : Int) (hl : M.length ≤ 1000000) {k : Nat} (hk : 2 * M.length + 10 < k) : concourseref29_Take.j0 k (rows M) s v ticks now false = some (rows (tput ks M s (v, till ticks now)), true) := by
  obtain ⟨k, rfl⟩ : ∃ m, k = m + 3 := ⟨k - 3, by omega⟩
  simp only [concourseref29_Take.j0, concourseref29_Take.j1, concourseref29_Take.j2]
  rw [if_neg (by simp)]
  have hp := fun t => put_ok h s v t hl (k := k) (by omega)
  have hw : ∀ a b : Int, 0 ≤ a → a ≤ 1099511627776 → 0 ≤ b → b ≤ 1048576 → wrap64 (a + b) = a + b := fun a b h1 h2 h3 h4 => w64 (by omega) (by omega)
  have key : ∀ n' : Int, 0 ≤ n' → n' ≤ 1099511627776 → n' = max 0 (min now 1099511627776) → (if ticks < 1 then (if (1 : Int) > 1048576 then ((concourseref29_Put.f k (rows M) s v (wrap64 (n' + 1048576))).bind fun t207 => (some (t207, true))) else ((concourseref29_Put.f k (rows M) s v (wrap64 (n' + 1))).bind fun t210 => (some (t210, true)))) else (if ticks > 1048576 then ((concourseref29_Put.f k (rows M) s v (wrap64 (n' + 1048576))).bind fun t213 => (some (t213, true))) else ((concourseref29_Put.f k (rows M) s v (wrap64 (n' + ticks))).bind fun t216 => (some (t216, true))))) = some (rows (tput ks M s (v, till ticks now)), true) := by
    intro n' h0 h1 hn
    unfold till
    rw [← hn]
    by_cases c1 : ticks < 1
    · rw [if_pos c1, if_neg (by decide), hp, hw n' 1 h0 h1 (by omega) (by omega), show max 1 (min ticks 1048576) = 1 by omega]
      rfl
    · rw [if_neg c1]
      by_cases c2 : ticks > 1048576
      · rw [if_pos c2, hp, hw n' _ h0 h1 (by omega) (by omega), show max 1 (min ticks 1048576) = 1048576 by omega]
        rfl
      · rw [if_neg c2, hp, hw n' _ h0 h1 (by omega) (by omega), show max 1 (min ticks 1048576) = ticks by omega]
        rfl
  by_cases d1 : now < 0
  · rw [if_pos d1, if_neg (by decide)]
    exact key 0 (by omega) (by omega) (by omega)
  · rw [if_neg d1]
    by_cases d2 : now > 1099511627776
    · rw [if_pos d2]
      exact key _ (by omega) (by omega) (by omega)
    · rw [if_neg d2]
      exact key now (by omega) (by omega) (by omega)
theorem take_ok {M : Tabl} (h : Rising ks M) (s v : ByteArray) (ticks now : Int) (hl : M.length ≤ 1000000) :
    ∃ k, concourseref29_Take.f k (rows M) s v ticks now = some (if blocked M s v then (rows M, false) else (rows (tput ks M s (v, till ticks now)), true)) := by
  refine ⟨2 * M.length + 12, ?_⟩
  have hj := take_j0 h s v ticks now hl (k := 2 * M.length + 12) (by omega)
  have hrl := rows_length M
  unfold concourseref29_Take.f
  rcases find_ok h s (by omega) (k := 2 * M.length + 12) (by omega) with ⟨h1, h2⟩ | ⟨j, hj2, h1, h2, h3⟩
  · have hb : blocked M s v = false := by unfold blocked; rw [h2]
    rw [h1, hb]
    simp only [Option.bind_some]
    rw [if_neg (by omega), hj]
    rfl
  · rw [h1]
    simp only [Option.bind_some]
    rw [if_pos (by omega), if_pos (by omega), if_pos (by omega), rd_eq, Int.toNat_natCast, rows_at M hj2]
    by_cases e : M[j].2.1 = v
    · have hb : blocked M s v = false := by unfold blocked; rw [h3]; simp [e]
      rw [show ((row M[j]).f1.toList != v.toList) = false by rw [bne_eq_false_iff_eq, toList_inj]; exact e, hj, hb]
      rfl
    · have hb : blocked M s v = true := by unfold blocked; rw [h3]; simp [e]
      rw [show ((row M[j]).f1.toList != v.toList) = true by rw [bne_iff_ne]; exact fun h => e (toList_inj.1 h), hb]
      rfl
/-- Is it this one's? -/
def mine (M : Tabl) (s v : ByteArray) : Bool := match tlook ks M s with | some x => decide (x.1 = v) | none => false
theorem free_ok {M : Tabl} (h : Rising ks M) (s v : ByteArray) (hl : M.length ≤ 1000000) :
    ∃ k, concourseref29_Free.f k (rows M) s v = some (if mine M s v then (rows (tdel ks M s), true) else (rows M, false)) := by
  refine ⟨2 * M.length + 12, ?_⟩
  have hrl := rows_length M
  unfold concourseref29_Free.f
  rcases find_ok h s (by omega) (k := 2 * M.length + 12) (by omega) with ⟨h1, h2⟩ | ⟨j, hj2, h1, h2, h3⟩
  · have hb : mine M s v = false := by unfold mine; rw [h2]
    rw [h1, hb]
    simp only [Option.bind_some]
    rw [if_pos (by omega)]
    rfl
  · rw [h1]
    simp only [Option.bind_some]
    rw [if_neg (by omega), if_pos (by omega), if_pos (by omega), rd_eq, Int.toNat_natCast, rows_at M hj2]
    by_cases e : M[j].2.1 = v
    · have hc := cut_at h hj2
      rw [h2] at hc
      have h4 : rows (tdel ks M s) = (rows M).take j ++ (rows M).drop (j + 1) := by rw [← hc]; simp [rows, List.map_take, List.map_drop]
      have hb : mine M s v = true := by unfold mine; rw [h3]; simp [e]
      rw [if_pos (by rw [toList_inj]; exact e), if_pos (by omega), if_pos (by simp; omega), w64 (x := (j : Int) + 1) (by omega) (by omega), if_pos (by omega), if_pos (by omega), if_pos (by simp; omega), hb, show ((j : Int) + 1).toNat = j + 1 by omega, h4]
      rfl
    · have hb : mine M s v = false := by unfold mine; rw [h3]; simp [e]
      have e2 : ¬ (row M[j]).f1.toList = v.toList := fun h => e (toList_inj.1 h)
      rw [if_neg e2, hb]
      rfl
theorem expire_loop (M : Tabl) (now : Int) (hl : M.length ≤ 1000000) (d : Nat) : ∀ (out : List Row) (i k : Nat), M.length - i = d → i ≤ M.length → out.length ≤ i → d < k → concourseref29_Expire.l0 k (rows M) now out i = some (out ++ rows ((M.drop i).filter fun p => decide (now < p.2.2))) := by
  have hrl := rows_length M
  induction d with
  | zero =>
    intro out i k hd hi ho hk
    obtain ⟨k, rfl⟩ : ∃ m, k = m + 1 := ⟨k - 1, by omega⟩
    simp only [concourseref29_Expire.l0]
    rw [if_neg (by omega), List.drop_eq_nil_of_le (by omega)]
    simp [rows]
  | succ d ih =>
    intro out i k hd hi ho hk
    obtain ⟨k, rfl⟩ : ∃ m, k = m + 1 := ⟨k - 1, by omega⟩
    have hlt : i < M.length := by omega
    simp only [concourseref29_Expire.l0]
    rw [if_pos (by omega), if_pos (by omega), rd_eq, Int.toNat_natCast, w64 (x := (i : Int) + 1) (by omega) (by omega), rows_at M hlt, List.drop_eq_getElem_cons hlt, List.filter_cons]
    by_cases e : now < M[i].2.2
    · rw [if_pos (show (row M[i]).f2 > now from e), if_pos (by omega), if_pos (by simpa using e)]
      have := ih (out ++ [⟨(row M[i]).f0, (row M[i]).f1, (row M[i]).f2⟩]) (i + 1) k (by omega) (by omega) (by simp; omega) (by omega)
      rw [List.append_assoc] at this
      exact this
    · rw [if_neg (show ¬ (row M[i]).f2 > now from e), if_neg (by simpa using e)]
      exact ih out (i + 1) k (by omega) (by omega) (by omega) (by omega)
theorem expire_ok (M : Tabl) (now : Int) (hl : M.length ≤ 1000000) : ∃ k, concourseref29_Expire.f k (rows M) now = some (rows (M.filter fun p => decide (now < p.2.2))) :=
  ⟨M.length + 1, by
    have := expire_loop M now hl M.length [] 0 _ (by omega) (by omega) (by simp) (Nat.lt_succ_self _)
    rw [List.drop_zero] at this
    exact this⟩
theorem size_loop (l : List Row) (hl : l.length ≤ 1000000) (d : Nat) : ∀ (n : Int) (i k : Nat), l.length - i = d → i ≤ l.length → 0 ≤ n → n + sizeL (l.drop i) ≤ 9223372036854775807 → d < k → concourseref29_Size.l0 k l n i = some (n + sizeL (l.drop i)) := by
  induction d with
  | zero =>
    intro n i k hd hi h0 hn hk
    obtain ⟨k, rfl⟩ : ∃ m, k = m + 1 := ⟨k - 1, by omega⟩
    simp only [concourseref29_Size.l0]
    rw [if_neg (by omega), List.drop_eq_nil_of_le (by omega)]
    simp [sizeL]
  | succ d ih =>
    intro n i k hd hi h0 hn hk
    obtain ⟨k, rfl⟩ : ∃ m, k = m + 1 := ⟨k - 1, by omega⟩
    rw [drop_at l z (by omega)] at hn ⊢
    simp only [sizeL] at hn ⊢
    have := sizeL_nonneg (l.drop (i + 1))
    simp only [concourseref29_Size.l0]
    rw [if_pos (by omega), if_pos (by omega), rd_eq, Int.toNat_natCast, w64 (x := (i : Int) + 1) (by omega) (by omega), w64 (x := 24 + ((l.getD i z).f0.size : Int)) (by omega) (by omega),
      w64 (x := 24 + ((l.getD i z).f0.size : Int) + _) (by omega) (by omega), w64 (x := n + _) (by omega) (by omega)]
    have := ih (n + (24 + ((l.getD i z).f0.size : Int) + ((l.getD i z).f1.size : Int))) (i + 1) k (by omega) (by omega) (by omega) (by omega) (by omega)
    rw [show ((i : Int) + 1) = ((i + 1 : Nat) : Int) by omega, this]
    congr 1
    omega
theorem size_ok (M : Tabl) (hl : M.length ≤ 1000000) (hn : size M ≤ 9223372036854775807) : ∃ k, concourseref29_Size.f k (rows M) = some (size M) :=
  ⟨(rows M).length + 1, by
    have := size_loop (rows M) (by rw [rows_length]; exact hl) (rows M).length 0 0 _ (by omega) (by omega) (Int.le_refl _) (by rw [List.drop_zero, sizeL_eq]; omega) (Nat.lt_succ_self _)
    rw [List.drop_zero, sizeL_eq, Int.zero_add] at this
    exact this⟩
theorem names_loop (l : List Row) (hl : l.length ≤ 1000000) (d : Nat) : ∀ (out : List ByteArray) (i k : Nat), l.length - i = d → i ≤ l.length → out.length ≤ i → d < k → concourseref29_Names.l0 k l out i = some (out ++ (l.drop i).map fun x => x.f0) := by
  induction d with
  | zero =>
    intro out i k hd hi ho hk
    obtain ⟨k, rfl⟩ : ∃ m, k = m + 1 := ⟨k - 1, by omega⟩
    simp only [concourseref29_Names.l0]
    rw [if_neg (by omega), List.drop_eq_nil_of_le (by omega)]
    simp
  | succ d ih =>
    intro out i k hd hi ho hk
    obtain ⟨k, rfl⟩ : ∃ m, k = m + 1 := ⟨k - 1, by omega⟩
    simp only [concourseref29_Names.l0]
    rw [if_pos (by omega), if_pos (by omega), rd_eq, Int.toNat_natCast, w64 (x := (i : Int) + 1) (by omega) (by omega), drop_at l z (by omega), if_pos (by omega)]
    have := ih (out ++ [(l.getD i z).f0]) (i + 1) k (by omega) (by omega) (by simp; omega) (by omega)
    rw [List.append_assoc] at this
    exact this
theorem names_ok (M : Tabl) (hl : M.length ≤ 1000000) : ∃ k, concourseref29_Names.f k (rows M) = some (M.map fun p => p.1) :=
  ⟨(rows M).length + 1, by
    have := names_loop (rows M) (by rw [rows_length]; exact hl) (rows M).length [] 0 _ (by omega) (by omega) (by simp) (Nat.lt_succ_self _)
    rw [List.drop_zero, keysL] at this
    exact this⟩
theorem much_loop (l : List Step) (hs : ∀ x ∈ l, x.f1.size ≤ 140737488351232 ∧ x.f2.size ≤ 140737488351232) (hl : l.length ≤ 140737488351232) (d : Nat) : ∀ (n : Int) (i : Nat) (k : Nat), 0 ≤ n → n ≤ 1048576 → i ≤ l.length → l.length - i = d → d < k →
    ∃ r, concourselaw29_much.l0 k l n i = some r ∧ (r = false → l.length ≤ 150 ∧ n ≤ 10000 ∧ ∀ x ∈ l.drop i, x.f1.size ≤ 10000 ∧ x.f2.size ≤ 10000) := by
  induction d with
  | zero =>
    intro n i k h0 h1 hi hd hk
    obtain ⟨k, rfl⟩ : ∃ m, k = m + 1 := ⟨k - 1, by omega⟩
    simp only [concourselaw29_much.l0]
    rw [if_neg (by omega), List.drop_eq_nil_of_le (by omega)]
    by_cases h80 : (l.length : Int) > 150
    · rw [if_pos h80]
      exact ⟨true, rfl, fun h => by cases h⟩
    · rw [if_neg h80]
      exact ⟨_, rfl, fun h => ⟨by omega, by simpa using h, by simp⟩⟩
  | succ d ih =>
    intro n i k h0 h1 hi hd hk
    obtain ⟨k, rfl⟩ : ∃ m, k = m + 1 := ⟨k - 1, by omega⟩
    have hlt : i < l.length := by omega
    have hx : l.getD i z87 = l[i] := by simp [List.getD_eq_getElem?_getD, List.getElem?_eq_getElem hlt]
    have hsz := hs _ (List.getElem_mem hlt)
    rw [drop_at l z87 hlt, hx]
    simp only [concourselaw29_much.l0]
    rw [if_pos (by omega), if_pos (by omega), rd_step, Int.toNat_natCast, hx, w64 (x := (i : Int) + 1) (by omega) (by omega), w64 (x := n + (l[i].f1.size : Int)) (by omega) (by omega), w64 (x := n + (l[i].f1.size : Int) + _) (by omega) (by omega)]
    obtain ⟨r, hr, hf⟩ := ih (mn (n + (l[i].f1.size : Int) + (l[i].f2.size : Int)) 1048576) (i + 1) k (by unfold mn; split <;> omega) (by unfold mn; split <;> omega) (by omega) (by omega) (by omega)
    refine ⟨r, hr, fun h => ?_⟩
    obtain ⟨h2, h3, h4⟩ := hf h
    have h5 : n + (l[i].f1.size : Int) + (l[i].f2.size : Int) ≤ 10000 := by unfold mn at h3; split at h3 <;> omega
    refine ⟨h2, by omega, fun x hx => ?_⟩
    rcases List.mem_cons.1 hx with rfl | hx
    · omega
    · exact h4 x hx
theorem much_ok (l : List Step) (hs : ∀ x ∈ l, x.f1.size ≤ 140737488351232 ∧ x.f2.size ≤ 140737488351232) (hl : l.length ≤ 140737488351232) :
    ∃ r, concourselaw29_much.f (l.length + 1) l = some r ∧ (r = false → l.length ≤ 150 ∧ ∀ x ∈ l, x.f1.size ≤ 10000 ∧ x.f2.size ≤ 10000) := by
  obtain ⟨r, h1, h2⟩ := much_loop l hs hl l.length 0 0 (l.length + 1) (by omega) (by omega) (by omega) (by omega) (by omega)
  refine ⟨r, h1, fun h => ?_⟩
  have := h2 h
  simp only [List.drop_zero] at this
  exact ⟨this.1, this.2.2⟩
/-! ### bounds -/
/-- Entries n at most, each of B bytes at most a text, each with a tick. -/
def Good (B n : Nat) (M : Tabl) : Prop := M.length ≤ n ∧ ∀ p ∈ M, p.1.size ≤ B ∧ p.2.1.size ≤ B ∧ 1 ≤ p.2.2
theorem Good.nil (B n : Nat) : Good B n [] := ⟨Nat.zero_le _, by simp⟩
theorem Good.filter {B n : Nat} {M : Tabl} (h : Good B n M) (f : ByteArray × (ByteArray × Int) → Bool) : Good B n (M.filter f) :=
  ⟨Nat.le_trans (List.length_filter_le _ _) h.1, fun p hp => h.2 p (List.mem_filter.1 hp).1⟩
theorem Good.tdel {B n : Nat} {M : Tabl} (h : Good B n M) (s : ByteArray) : Good B n (tdel ks M s) := h.filter _
theorem Good.tput {B n : Nat} {M : Tabl} (h : Good B n M) {s v : ByteArray} {t : Int} (hs : s.size ≤ B) (hv : v.size ≤ B) (ht : 1 ≤ t) : Good B (n + 1) (tput ks M s (v, t)) := by
  refine ⟨?_, fun p hp => ?_⟩
  · unfold Tab.tput
    rw [length_tins]
    have := (h.tdel s).1
    omega
  · unfold Tab.tput at hp
    rcases (mem_tins _ _ _).1 hp with rfl | hp
    · exact ⟨hs, hv, ht⟩
    · exact (h.tdel s).2 p hp
theorem Good.mono {B n m : Nat} {M : Tabl} (h : Good B n M) (hm : n ≤ m) : Good B m M := ⟨Nat.le_trans h.1 hm, h.2⟩
theorem Good.size {B n : Nat} {M : Tabl} (h : Good B n M) : size M ≤ (24 + 2 * B : Nat) * n := by
  have h1 : ∀ M : Tabl, (∀ p ∈ M, p.1.size ≤ B ∧ p.2.1.size ≤ B ∧ 1 ≤ p.2.2) → Lease.size M ≤ (24 + 2 * B : Nat) * M.length := by
    intro M
    induction M with
    | nil => intro _; exact Int.le_refl _
    | cons p M ih =>
      intro h
      have h1 := ih (fun p hp => h p (by simp [hp]))
      have h2 := h p (by simp)
      simp only [Lease.size, wt, List.map_cons, List.sum_cons, List.length_cons] at h1 ⊢
      have h3 : ((24 + 2 * B : Nat) : Int) * ((M.length + 1 : Nat) : Int) = (24 + 2 * B : Nat) * (M.length : Int) + (24 + 2 * B : Nat) := by
        rw [Int.natCast_add M.length 1, Int.mul_add]; simp
      rw [h3]
      omega
  have h2 := h1 M h.2
  have h3 : ((24 + 2 * B : Nat) : Int) * (M.length : Int) ≤ (24 + 2 * B : Nat) * (n : Int) := Int.mul_le_mul_of_nonneg_left (by have := h.1; omega) (by omega)
  omega
theorem till_pos (ticks now : Int) : 1 ≤ till ticks now := by unfold till; omega
theorem Good.look {B n : Nat} {M : Tabl} (h : Good B n M) {s : ByteArray} {x : ByteArray × Int} (e : tlook ks M s = some x) : s.size ≤ B ∧ x.1.size ≤ B ∧ 1 ≤ x.2 := by
  unfold tlook at e
  cases e2 : M.find? fun p => (ks p.1).sameKey (ks s) with
  | none => rw [e2] at e; cases e
  | some p =>
    rw [e2] at e
    simp only [Option.map_some, Option.some.injEq] at e
    have h1 := h.2 p (List.mem_of_find?_eq_some e2)
    have h2 := List.find?_some e2
    replace h2 := (ks_one _ _).1 h2
    rw [← e, ← h2]
    exact h1
end Go.Proofs.Ytnccofpkanhfhaa.Lease
