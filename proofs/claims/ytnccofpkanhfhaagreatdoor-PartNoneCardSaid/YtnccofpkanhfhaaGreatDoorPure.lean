/-
  Plain lemmas: wraps, the order of strings, lists of keys that rise.
-/
import Derived.Test.YtnccofpkanhfhaaGreatDoorKeys
import Derived.Test.YtnccofpkanhfhaaGreatDoorOrd
set_option linter.unusedVariables false
set_option linter.unusedSimpArgs false
namespace Go.Proofs.YtnccofpkanhfhaaGreatDoor.Pure
open Go.RowKit Go.Proofs.YtnccofpkanhfhaaGreatDoor.Tab
theorem w64 {x : Int} (h0 : -9223372036854775808 ≤ x) (h1 : x ≤ 9223372036854775807) : wrap64 x = x := by
  unfold wrap64
  omega
/-- 'a < b' on strings. -/
def lt (a b : ByteArray) : Prop := Op.bytesLess a.toList b.toList = true
instance (a b : ByteArray) : Decidable (lt a b) := inferInstanceAs (Decidable (_ = true))
theorem lt_before (a b : ByteArray) : lt a b ↔ (ks a).before (ks b) = true := by
  unfold lt
  rw [ByteArray.toList_eq, ByteArray.toList_eq, ← before_less]
  exact Iff.rfl
theorem lt_irrefl (a : ByteArray) : ¬ lt a a := by
  rw [lt_before]
  show ¬ bytesBefore _ _ = true
  rw [WideAt.bytes_irrefl]
  simp
theorem lt_trans {a b c : ByteArray} (h : lt a b) (h' : lt b c) : lt a c := by
  rw [lt_before] at *
  exact WideShapes.bytes_trans _ _ _ h h'
theorem lt_asymm {a b : ByteArray} (h : lt a b) : ¬ lt b a := fun h' => lt_irrefl a (lt_trans h h')
theorem lt_total {a b : ByteArray} (h : a ≠ b) : lt a b ∨ lt b a := by
  rw [lt_before, lt_before]
  exact WideAt.bytes_total _ _ (fun e => h (bytes_ext e))
theorem toList_inj {a b : ByteArray} : a.toList = b.toList ↔ a = b := by
  rw [ByteArray.toList_eq, ByteArray.toList_eq]
  exact ⟨bytes_ext, fun h => by rw [h]⟩
theorem rising_lt {α : Type} {M : List (ByteArray × α)} (h : Rising ks M) : (M.map fun p => p.1).Pairwise lt := by
  rw [List.pairwise_map]
  exact h.imp fun h => (lt_before _ _).2 h
/-- Two lists that rise and have the same members are one. -/
theorem rising_ext : ∀ {l m : List ByteArray}, l.Pairwise lt → m.Pairwise lt → (∀ x, x ∈ l ↔ x ∈ m) → l = m
  | [], [], _, _, _ => rfl
  | [], y :: m, _, _, h => by have := (h y).2 (by simp); simp at this
  | x :: l, [], _, _, h => by have := (h x).1 (by simp); simp at this
  | x :: l, y :: m, h1, h2, h => by
    obtain ⟨h1a, h1b⟩ := List.pairwise_cons.1 h1
    obtain ⟨h2a, h2b⟩ := List.pairwise_cons.1 h2
    have e : x = y := by
      rcases List.mem_cons.1 ((h x).1 (by simp)) with e | hx
      · exact e
      · rcases List.mem_cons.1 ((h y).2 (by simp)) with e | hy
        · exact e.symm
        · exact absurd (h2a x hx) (lt_asymm (h1a y hy))
    subst e
    congr 1
    refine rising_ext h1b h2b fun z => ?_
    constructor
    · intro hz
      rcases List.mem_cons.1 ((h z).1 (by simp [hz])) with e | hz'
      · subst e; exact absurd (h1a z hz) (lt_irrefl z)
      · exact hz'
    · intro hz
      rcases List.mem_cons.1 ((h z).2 (by simp [hz])) with e | hz'
      · subst e; exact absurd (h2a z hz) (lt_irrefl z)
      · exact hz'
theorem rising_get {l : List ByteArray} (h : l.Pairwise lt) {i j : Nat} (hi : i < l.length) (hj : j < l.length) : lt (l.getD i ByteArray.empty) (l.getD j ByteArray.empty) ↔ i < j := by
  have hij : ∀ {i j : Nat} (hi : i < l.length) (hj : j < l.length), i < j → lt (l.getD i ByteArray.empty) (l.getD j ByteArray.empty) := fun hi hj hlt => by
    have := List.pairwise_iff_getElem.1 h _ _ hi hj hlt
    simpa [List.getD_eq_getElem?_getD, List.getElem?_eq_getElem hi, List.getElem?_eq_getElem hj] using this
  constructor
  · intro hlt
    rcases Nat.lt_trichotomy i j with h1 | h1 | h1
    · exact h1
    · subst h1; exact absurd hlt (lt_irrefl _)
    · exact absurd hlt (lt_asymm (hij hj hi h1))
  · exact hij hi hj
section
variable {α : Type}
/-! ### the list of a map -/
theorem mem_tdel (M : List (ByteArray × α)) (s : ByteArray) (p : ByteArray × α) : p ∈ tdel ks M s ↔ p ∈ M ∧ p.1 ≠ s := by
  unfold tdel
  rw [List.mem_filter]
  refine and_congr_right fun _ => ?_
  have := ks_one p.1 s
  cases e : (ks p.1).sameKey (ks s)
  · rw [e] at this; simpa using this
  · rw [e] at this; simpa using this
theorem rising_tdel {M : List (ByteArray × α)} (h : Rising ks M) (s : ByteArray) : Rising ks (tdel ks M s) := List.Pairwise.filter _ h
theorem rising_tins {x : ByteArray × α} : ∀ {M : List (ByteArray × α)}, Rising ks M → (∀ p ∈ M, p.1 ≠ x.1) → Rising ks (tins ks x M)
  | [], _, _ => by simp [tins, Rising]
  | y :: r, h, hne => by
    obtain ⟨h1, h2⟩ := List.pairwise_cons.1 h
    unfold tins
    split
    · rename_i hb
      refine List.pairwise_cons.2 ⟨fun p hp => ?_, h⟩
      rcases List.mem_cons.1 hp with rfl | hp
      · exact hb
      · exact (lt_before _ _).1 (lt_trans ((lt_before _ _).2 hb) ((lt_before _ _).2 (h1 p hp)))
    · rename_i hb
      refine List.pairwise_cons.2 ⟨fun p hp => ?_, rising_tins h2 (fun p hp => hne p (by simp [hp]))⟩
      rcases (mem_tins x p r).1 hp with rfl | hp
      · rcases lt_total (hne y (by simp)) with h3 | h3
        · exact (lt_before _ _).1 h3
        · exact absurd ((lt_before _ _).1 h3) hb
      · exact h1 p hp
theorem rising_tput {M : List (ByteArray × α)} (h : Rising ks M) (s : ByteArray) (a : α) : Rising ks (tput ks M s a) :=
  rising_tins (rising_tdel h s) (fun p hp => ((mem_tdel M s p).1 hp).2)
theorem mem_keys_tput (M : List (ByteArray × α)) (s : ByteArray) (a : α) (x : ByteArray) : x ∈ (tput ks M s a).map (fun p => p.1) ↔ x = s ∨ x ∈ M.map (fun p => p.1) := by
  unfold tput
  simp only [List.mem_map, mem_tins, mem_tdel]
  constructor
  · rintro ⟨p, (rfl | ⟨hp, _⟩), rfl⟩
    · exact .inl rfl
    · exact .inr ⟨p, hp, rfl⟩
  · rintro (rfl | ⟨p, hp, rfl⟩)
    · exact ⟨_, .inl rfl, rfl⟩
    · by_cases e : p.1 = s
      · exact ⟨(s, a), .inl rfl, e.symm⟩
      · exact ⟨p, .inr ⟨hp, e⟩, rfl⟩
theorem look_some_iff (M : List (ByteArray × α)) (s : ByteArray) : (tlook ks M s).isSome = true ↔ s ∈ M.map (fun p => p.1) := by
  unfold tlook
  rw [Option.isSome_map, List.find?_isSome]
  simp only [List.mem_map]
  constructor
  · rintro ⟨p, hp, h⟩
    exact ⟨p, hp, (ks_one _ _).1 h⟩
  · rintro ⟨p, hp, h⟩
    exact ⟨p, hp, (ks_one _ _).2 h⟩
/-- What the entries weigh, f an entry's weight. -/
def wt (f : ByteArray × α → Int) (M : List (ByteArray × α)) : Int := (M.map f).sum
theorem tdel_none {M : List (ByteArray × α)} {s : ByteArray} (h : tlook ks M s = none) : tdel ks M s = M := by
  unfold tdel
  rw [List.filter_eq_self]
  intro p hp
  unfold tlook at h
  have := List.find?_eq_none.1 (Option.map_eq_none_iff.1 h) p hp
  simpa using this
theorem wt_tput (f : ByteArray × α → Int) (M : List (ByteArray × α)) (s : ByteArray) (a : α) : wt f (tput ks M s a) = f (s, a) + wt f (tdel ks M s) := map_tins_sum f _ _
theorem wt_tdel (f : ByteArray × α → Int) : ∀ {M : List (ByteArray × α)}, Rising ks M → ∀ {s : ByteArray} {a : α}, tlook ks M s = some a → wt f M = f (s, a) + wt f (tdel ks M s)
  | [], _, s, a, h => by simp [tlook] at h
  | y :: r, hr, s, a, h => by
    obtain ⟨h1, h2⟩ := List.pairwise_cons.1 hr
    by_cases e : y.1 = s
    · have hy : (ks y.1).sameKey (ks s) = true := (ks_one _ _).2 e
      have ha : y = (s, a) := by
        simp only [tlook, List.find?_cons, hy, Option.map_some, Option.some.injEq] at h
        rw [← h, ← e]
      have hd : tdel ks (y :: r) s = r := by
        unfold tdel
        simp only [List.filter_cons, hy]
        rw [if_neg (by simp), List.filter_eq_self]
        intro p hp
        have hne : p.1 ≠ s := fun e' => by
          have := (lt_before _ _).2 (h1 p hp)
          rw [e, e'] at this
          exact lt_irrefl _ this
        rw [ks_one.ne hne]; rfl
      rw [hd, ← ha]
      rfl
    · have hy : (ks y.1).sameKey (ks s) = false := ks_one.ne e
      have ht : tlook ks r s = some a := by simpa [tlook, List.find?_cons, hy] using h
      have hd : tdel ks (y :: r) s = y :: tdel ks r s := by
        unfold tdel
        simp [List.filter_cons, hy]
      rw [hd]
      have ih := wt_tdel f h2 ht
      simp only [wt, List.map_cons, List.sum_cons] at ih ⊢
      omega
end
end Go.Proofs.YtnccofpkanhfhaaGreatDoor.Pure
