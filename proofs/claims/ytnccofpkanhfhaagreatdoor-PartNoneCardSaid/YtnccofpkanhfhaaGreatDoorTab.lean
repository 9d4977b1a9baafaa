/-
  A map by what it holds: a list of keys and values, rising. Laws at the operations (look-up, store, delete), for a nil map too; a struct of a map and a size behind a pointer; what turns when it is written.
-/
import Derived.Maps.OwnSet
import Derived.WalkKit
set_option linter.unusedVariables false
set_option linter.unusedSimpArgs false
namespace Go.Proofs.YtnccofpkanhfhaaGreatDoor.Tab
open Go.RowKit Go.Maps Go.ChangeMaps

/-- A fact laid aside: the walk's simp does not look into it; '.out' gives it back. -/
theorem hid {p : Prop} (h : p) : Hid p := h

/-- An element of whatever type, held as it is. -/
def heldR (v : Value) : Option (DataW Value × List MemPlace) := some (.held v, [])

section
variable {κ α : Type} (ke : κ → Lit) (ve : α → Value)

def dat (M : List (κ × α)) : DataW Value := .map (M.map fun p => (ke p.1, .held (ve p.2)))
def tlook (M : List (κ × α)) (k : κ) : Option α := (M.find? fun p => (ke p.1).sameKey (ke k)).map (·.2)
def tins (x : κ × α) : List (κ × α) → List (κ × α)
  | [] => [x]
  | y :: r => if (ke x.1).before (ke y.1) then x :: y :: r else y :: tins x r
def tdel (M : List (κ × α)) (k : κ) : List (κ × α) := M.filter fun p => !(ke p.1).sameKey (ke k)
def tput (M : List (κ × α)) (k : κ) (a : α) : List (κ × α) := tins ke (k, a) (tdel ke M k)
def Rising (M : List (κ × α)) : Prop := M.Pairwise fun p q => (ke p.1).before (ke q.1) = true

theorem dat_ins (x : κ × α) : ∀ M : List (κ × α), DataW.insert (ke x.1, .held (ve x.2)) (M.map fun p => (ke p.1, DataW.held (ve p.2))) = (tins ke x M).map fun p => (ke p.1, DataW.held (ve p.2))
  | [] => rfl
  | y :: r => by
    simp only [List.map_cons, DataW.insert, tins]
    split
    · simp
    · simp [dat_ins x r]
theorem dat_del (M : List (κ × α)) (k : κ) : (dat ke ve M).del (ke k) = dat ke ve (tdel ke M k) := by
  show DataW.map _ = DataW.map _
  rw [List.filter_map]
  rfl
theorem dat_put (M : List (κ × α)) (k : κ) (a : α) : (dat ke ve M).put (ke k) (.held (ve a)) = dat ke ve (tput ke M k a) := by
  show DataW.map _ = DataW.map _
  unfold tput
  rw [← dat_ins ke ve (k, a), List.filter_map]
  rfl
theorem dat_has (M : List (κ × α)) (k : κ) : Maps.has (dat ke ve M) (ke k) = (tlook ke M k).isSome := by
  show (M.map _).any _ = _
  unfold tlook
  rw [List.any_map, Option.isSome_map, List.isSome_find?]
  rfl
theorem dat_at (M : List (κ × α)) (k : κ) (z : Value) : (dat ke ve M).atKey (ke k) (.held z) = .held (((tlook ke M k).map ve).getD z) := by
  simp only [dat, DataW.atKey, tlook, List.find?_map, Function.comp_def]
  cases M.find? (fun p => (ke p.1).sameKey (ke k)) <;> rfl
theorem dat_size (M : List (κ × α)) : Maps.size (dat ke ve M) = M.length := by simp [Maps.size, dat]

/-- A map's value: nil, and empty; or block b, which holds M, at most n entries. -/
def MapAt (P : Program) (K : TypeId) (w : World) (mb : Option Nat) (n : Nat) (M : List (κ × α)) : Prop :=
  match mb with
  | none => M = []
  | some b => w.ownsMap P K heldR b n (dat ke ve M)
variable {ke ve}
variable {P : Program} {K : TypeId} {w w' : World} {mb : Option Nat} {n : Nat} {M : List (κ × α)}
theorem MapAt.mono {n' : Nat} (h : MapAt ke ve P K w mb n M) (hn : n ≤ n') : MapAt ke ve P K w mb n' M := by
  cases mb with
  | none => exact h
  | some b => exact World.ownsMap.mono h hn
theorem MapAt.lt {b : Nat} (h : MapAt ke ve P K w (some b) n M) : b < w.heap.size := World.ownsMap.lt h
theorem MapAt.move (h : MapAt ke ve P K w mb n M) (hm : ∀ b, mb = some b → w'.heap[b]? = w.heap[b]?) : MapAt ke ve P K w' mb n M := by
  cases mb with
  | none => exact h
  | some b =>
    obtain ⟨es, clock, hb, F, hs, hD⟩ := h
    exact ⟨es, clock, (hm b rfl).trans hb, F, hs, hD⟩
theorem MapAt.size (h : MapAt ke ve P K w mb n M) : M.length ≤ n := by
  cases mb with
  | none => cases h; exact Nat.zero_le _
  | some b => have := World.ownsMap.size_le h; rwa [dat_size] at this
theorem MapAt.isMap {b : Nat} (h : MapAt ke ve P K w (some b) n M) : ∃ es clock, w.heap[b]? = some (.map es clock) := by
  obtain ⟨es, clock, hb, _⟩ := h
  exact ⟨es, clock, hb⟩
theorem MapAt.rising (law : Keyed P K) (h : MapAt ke ve P K w mb n M) : Rising ke M := by
  cases mb with
  | none => cases h; exact List.Pairwise.nil
  | some b =>
    obtain ⟨es, clock, hb, F, hs, hD⟩ := h
    have hr := Maps.sorted_sorted law.one (es.toList.map (WideElems.rg P K heldR)) (Maps.fit_keys F) (Maps.fit_apart law F)
    simp only [dat, DataW.map.injEq] at hD
    rw [← hD] at hr
    exact List.pairwise_map.1 hr
end

/-! ### the operations -/
section
variable {κ α : Type} {ke : κ → Lit} {ve : α → Value} {P : Program} {K : TypeId} {w : World} {mb : Option Nat} {n : Nat} {M : List (κ × α)}

/-- 'm[k]', 'v, ok := m[k]', a nil map let in: an equation on the run. -/
theorem MapAt.run_look (c : Bool) (h : MapAt ke ve P K w mb n M) (law : Keyed P K) {t e : TypeId} (ht : P.underlying t = some (.map K e)) {z : Value} (hz : (zeroValue e).run P w = .ok z w) {key : Value} (k : κ) (hkey : keyOf P K key = some (ke k)) :
    (Instr.lookup t (.map mb) key c).run P w = .ok (if c then .tuple #[((tlook ke M k).map ve).getD z, .bool (tlook ke M k).isSome] else ((tlook ke M k).map ve).getD z) w := by
  cases mb with
  | none =>
    cases h
    simpa [tlook] using Maps.look_nil c law ht hz hkey
  | some b =>
    cases c with
    | true =>
      obtain ⟨v, ps, hrun, hv⟩ := World.ownsMap.look_ok h law ht hz (zd := .held z) (zp := []) rfl hkey
      rw [dat_at] at hv
      simp only [heldR, Option.some.injEq, Prod.mk.injEq, DataW.held.injEq] at hv
      rw [hrun, dat_has, ← hv.1]
      rfl
    | false =>
      obtain ⟨v, ps, hrun, hv⟩ := World.ownsMap.lookup h law ht hz (zd := .held z) (zp := []) rfl hkey
      rw [dat_at] at hv
      simp only [heldR, Option.some.injEq, Prod.mk.injEq, DataW.held.injEq] at hv
      rw [hrun, ← hv.1]
      rfl
variable {ops : Array Oper} {rest : List Oper} {o : Oper} {a : Act} {Q : Exit → Act → World → Prop}
theorem wpList_look (hg : o.guard = none) (m x : Operand) (t : TypeId) (c : Bool) (hop : o.op = Op.lookup t m x c) (e : TypeId) (law : Keyed P K) (ht : P.underlying t = some (.map K e)) (z : Value) (hz : (zeroValue e).run P w = .ok z w)
    (hm : a.eval m = .map mb) (h : MapAt ke ve P K w mb n M) (key : Value) (hx : a.eval x = key) (k : κ) (hkey : keyOf P K key = some (ke k))
    (hK : wpList P ops Q rest (a.put o.dst (if c then .tuple #[((tlook ke M k).map ve).getD z, .bool (tlook ke M k).isSome] else ((tlook ke M k).map ve).getD z)) w) : wpList P ops Q (o :: rest) a w := by
  refine wpList_plain hg fun K' hK' => ?_
  unfold Oper.wp
  simp only [execOp, hop, hm, hx, Sem.run_bind, h.run_look c law ht hz k hkey, Result.andThen_ok, Sem.run_pure]
  exact hK' _ _ hK
theorem wpList_store (hg : o.guard = none) (m x v : Operand) (t : TypeId) (hop : o.op = Op.mapUpdate t m x v) (e : TypeId) (law : Keyed P K) (ht : P.underlying t = some (.map K e)) (b : Nat)
    (hm : a.eval m = .map (some b)) (h : MapAt ke ve P K w (some b) n M) (hn : n < maxLen) (key : Value) (hx : a.eval x = key) (k : κ) (hkey : keyOf P K key = some (ke k)) (y : α) (hv : a.eval v = ve y)
    (hK : ∀ w', MapAt ke ve P K w' (some b) (n + 1) (tput ke M k y) → w.grownBy w' (some b) → wpList P ops Q rest (a.put o.dst undef) w') : wpList P ops Q (o :: rest) a w :=
  wpList_mapUpdate_own w hg m x v t hop K e law ht heldR b n (dat ke ve M) hm h hn key (ve y) (ke k) hx hv hkey (.held (ve y)) [] rfl
    fun w' r1 r2 => hK w' (by rw [dat_put] at r1; exact r1) r2
theorem wpList_drop (hg : o.guard = none) (m x : Operand) (t : TypeId) (hop : o.op = Op.call { callee := Callee.builtin Builtin.delete, args := #[m, x], argTypes := #[t, K] }) (e : TypeId) (law : Keyed P K) (ht : P.underlying t = some (.map K e)) (b : Nat)
    (hm : a.eval m = .map (some b)) (h : MapAt ke ve P K w (some b) n M) (key : Value) (hx : a.eval x = key) (k : κ) (hkey : keyOf P K key = some (ke k))
    (hK : ∀ w', MapAt ke ve P K w' (some b) n (tdel ke M k) → w.grownBy w' (some b) → wpList P ops Q rest (a.put o.dst (.tuple #[])) w') : wpList P ops Q (o :: rest) a w :=
  wpList_delete_own w hg m x t K hop e law ht heldR b n (dat ke ve M) hm h key (ke k) hx hkey
    fun w' r1 r2 => hK w' (by rw [dat_del] at r1; exact r1) r2.grown
end

/-! ### what turns: two cells of one block, and the blocks of a set -/
structure Turn (w w' : World) (bs off : Nat) (S : Nat → Prop) : Prop where
  os : w'.os = w.os
  tape : w'.tape = w.tape
  output : w'.output = w.output
  size : w.heap.size ≤ w'.heap.size
  block : ∀ k, k < w.heap.size → k ≠ bs → ¬ S k → w'.heap[k]? = w.heap[k]?
  cell : ∀ i, i ≠ off → i ≠ off + 1 → w'.cell? ⟨bs, i, none⟩ = w.cell? ⟨bs, i, none⟩
  frozen : ∀ i, w'.frozen? ⟨bs, i, none⟩ = w.frozen? ⟨bs, i, none⟩
  typ : ∀ T, (∃ cs fr, w.heap[bs]? = some (.cells cs T fr)) → ∃ cs fr, w'.heap[bs]? = some (.cells cs T fr)
section
variable {w w1 w2 : World} {bs off : Nat} {S S' : Nat → Prop}
theorem Turn.refl (w : World) (bs off : Nat) (S : Nat → Prop) : Turn w w bs off S := ⟨rfl, rfl, rfl, Nat.le_refl _, fun _ _ _ _ => rfl, fun _ _ _ => rfl, fun _ => rfl, fun _ h => h⟩
theorem Turn.trans (h : Turn w w1 bs off S) (h' : Turn w1 w2 bs off S') (hS : ∀ k, k < w.heap.size → S' k → S k) : Turn w w2 bs off S :=
  ⟨h'.os.trans h.os, h'.tape.trans h.tape, h'.output.trans h.output, Nat.le_trans h.size h'.size,
    fun k hk hne hs => (h'.block k (Nat.lt_of_lt_of_le hk h.size) hne (fun hs' => hs (hS k hk hs'))).trans (h.block k hk hne hs),
    fun i h0 h1 => (h'.cell i h0 h1).trans (h.cell i h0 h1), fun i => (h'.frozen i).trans (h.frozen i), fun T hT => h'.typ T (h.typ T hT)⟩
theorem Turn.mono (h : Turn w w1 bs off S) (hS : ∀ k, k < w.heap.size → S k → S' k) : Turn w w1 bs off S' :=
  ⟨h.os, h.tape, h.output, h.size, fun k hk hne hs => h.block k hk hne (fun hs' => hs (hS k hk hs')), h.cell, h.frozen, h.typ⟩
/-- What keeps block bs, and writes what is of S alone. -/
theorem Turn.grownBy (hb : bs < w.heap.size) {row : Option Nat} (hg : w.grownBy w1 row) (hne : some bs ≠ row) (hS : ∀ k, k < w.heap.size → some k = row → S k) : Turn w w1 bs off S :=
  have e := hg.block bs hb hne
  ⟨hg.os, hg.tape, hg.output, hg.size, fun k hk _ hs => hg.block k hk (fun h => hs (hS k hk h)), fun _ _ _ => World.cell?_of_block e, fun _ => World.frozen?_of_block e, fun T hT => by rw [e]; exact hT⟩
theorem Turn.below (hb : bs < w.heap.size) (h : Below w.heap.size w w1) : Turn w w1 bs off S :=
  Turn.grownBy hb (row := none) ⟨h.os, h.tape, h.output, h.size, fun k hk _ => h.block k hk⟩ (by simp) (fun _ _ h => by cases h)
theorem Turn.alloc (hb : bs < w.heap.size) (o : Obj) : Turn w (w.alloc o) bs off S := Turn.grownBy hb (World.grownBy_alloc w o none) (by simp) (fun _ _ h => by cases h)
/-- Below B nothing has turned, if what may turn lies from B on. -/
theorem Turn.under {B : Nat} (h : Turn w w1 bs off S) (hB : B ≤ w.heap.size) (hb : B ≤ bs) (hS : ∀ k, S k → B ≤ k) : Below B w w1 :=
  ⟨h.os, h.tape, h.output, h.size, fun k hk => h.block k (Nat.lt_of_lt_of_le hk hB) (by omega) (fun hs => by have := hS k hs; omega)⟩
theorem Turn.drew (h : Turn w w1 bs off S) : Turn w w1.drew bs off S := ⟨h.os, h.tape, h.output, h.size, h.block, h.cell, h.frozen, h.typ⟩
theorem Turn.setCell (w : World) (bs off : Nat) (S : Nat → Prop) {i : Nat} (hi : i = off ∨ i = off + 1) (v : Value) : Turn w (w.setCell ⟨bs, i, none⟩ v) bs off S := by
  refine ⟨rfl, rfl, rfl, by simp [World.setCell], fun k _ hne _ => Below.heap_setCell _ _ _ _ hne, fun j h0 h1 => ?_, fun j => World.frozen?_setCell _ _ _ _, fun T hT => ?_⟩
  · simp only [World.cell?, World.setCell, Array.getElem?_modify, if_true]
    cases w.heap[bs]? with
    | none => rfl
    | some ob =>
      cases ob <;> simp
      rw [Array.getElem?_setIfInBounds_ne]
      omega
  · obtain ⟨cs, fr, h⟩ := hT
    simp only [World.setCell, Array.getElem?_modify, if_true, h]
    exact ⟨_, fr, rfl⟩
end

/-! ### a struct of a map and a size, behind a pointer -/
section
variable {κ α : Type} (ke : κ → Lit) (ve : α → Value)
structure TabAt (P : Program) (K : TypeId) (w : World) (bs off : Nat) (mb : Option Nat) (n : Nat) (M : List (κ × α)) (sz : Int) : Prop where
  c0 : w.cell? ⟨bs, off, none⟩ = some (.map mb)
  c1 : w.cell? ⟨bs, off + 1, none⟩ = some (.int .i64 sz)
  f0 : w.frozen? ⟨bs, off, none⟩ = false
  f1 : w.frozen? ⟨bs, off + 1, none⟩ = false
  map : MapAt ke ve P K w mb n M
variable {ke ve} {P : Program} {K : TypeId} {w w' : World} {bs off : Nat} {mb : Option Nat} {n : Nat} {M : List (κ × α)} {sz : Int}
theorem TabAt.lt (h : TabAt ke ve P K w bs off mb n M sz) : bs < w.heap.size := World.block_lt_of_cell? w _ h.c0
theorem TabAt.ne (h : TabAt ke ve P K w bs off mb n M sz) : mb ≠ some bs := by
  rintro rfl
  obtain ⟨es, clock, hb⟩ := h.map.isMap
  have := h.c0
  simp [World.cell?, hb] at this
theorem TabAt.move (h : TabAt ke ve P K w bs off mb n M sz) (hb : w'.heap[bs]? = w.heap[bs]?) (hm : ∀ b, mb = some b → w'.heap[b]? = w.heap[b]?) : TabAt ke ve P K w' bs off mb n M sz :=
  ⟨(World.cell?_of_block hb).trans h.c0, (World.cell?_of_block hb).trans h.c1, (World.frozen?_of_block hb).trans h.f0, (World.frozen?_of_block hb).trans h.f1, h.map.move hm⟩
theorem TabAt.below (h : TabAt ke ve P K w bs off mb n M sz) (hb : Below w.heap.size w w') : TabAt ke ve P K w' bs off mb n M sz :=
  h.move (hb.block bs h.lt) (fun b e => by subst e; exact hb.block b h.map.lt)
/-- One that was made just now: no map, nothing in it. -/
theorem TabAt.new (w : World) (T : TypeId) (n : Nat) : TabAt ke ve P K (w.alloc (.cells #[.map none, .int .i64 0] T)) w.heap.size 0 none n ([] : List (κ × α)) 0 :=
  ⟨World.cell?_alloc_at _ _ _ _ rfl, World.cell?_alloc_at _ _ _ _ rfl, World.frozen?_alloc_at _ _ _ _ rfl, World.frozen?_alloc_at _ _ _ _ rfl, rfl⟩
theorem TabAt.drew (h : TabAt ke ve P K w bs off mb n M sz) : TabAt ke ve P K w.drew bs off mb n M sz := h.move rfl (fun _ _ => rfl)
/-- Another one has turned. -/
theorem TabAt.turn (h : TabAt ke ve P K w bs off mb n M sz) {bs' off' : Nat} {S : Nat → Prop} (ht : Turn w w' bs' off' S) (hne : bs = bs' → off + 1 < off' ∨ off' + 1 < off) (hS : ¬ S bs) (hm : ∀ b, mb = some b → b ≠ bs' ∧ ¬ S b) : TabAt ke ve P K w' bs off mb n M sz := by
  have hmap : MapAt ke ve P K w' mb n M := h.map.move (fun b e => by
    obtain ⟨h0, h1⟩ := hm b e
    subst e
    exact ht.block b h.map.lt h0 h1)
  by_cases e : bs = bs'
  · subst e
    have := hne rfl
    exact ⟨(ht.cell _ (by omega) (by omega)).trans h.c0, (ht.cell _ (by omega) (by omega)).trans h.c1, (ht.frozen _).trans h.f0, (ht.frozen _).trans h.f1, hmap⟩
  · have hb := ht.block bs h.lt e hS
    exact ⟨(World.cell?_of_block hb).trans h.c0, (World.cell?_of_block hb).trans h.c1, (World.frozen?_of_block hb).trans h.f0, (World.frozen?_of_block hb).trans h.f1, hmap⟩
end

/-- Of two that share no map, one turns: the other one stays; and they share none behind. -/
theorem TabAt.other {κ α β : Type} {ke : κ → Lit} {ve : α → Value} {ve' : β → Value} {P : Program} {K : TypeId} {w w' : World} {ba bb oa ob : Nat} {ma mb : Option Nat} {n n' : Nat} {M : List (κ × α)} {M' : List (κ × β)} {sz sz' : Int} {k : Nat}
    (hA : TabAt ke ve P K w ba oa ma n M sz) (hB : TabAt ke ve' P K w bb ob mb n' M' sz') (hab : bb = ba → ob + 1 < oa ∨ oa + 1 < ob) (hmm : ∀ k, ma = some k → mb ≠ some k) (hk : ma = some k ∨ ma = none ∧ k = w.heap.size) (ht : Turn w w' ba oa (fun j => j = k)) :
    TabAt ke ve' P K w' bb ob mb n' M' sz' ∧ mb ≠ some k := by
  have hmk : mb ≠ some k := by
    rcases hk with hk | ⟨_, hk⟩
    · exact hmm k hk
    · rintro rfl
      have := hB.map.lt
      omega
  refine ⟨hB.turn ht hab (fun e => ?_) (fun b e => ⟨fun e' => ?_, fun e' => hmk (by rw [e, e'])⟩), hmk⟩
  · subst e
    rcases hk with hk | ⟨_, hk⟩
    · subst hk
      obtain ⟨es, clock, hb⟩ := hA.map.isMap
      have := hB.c0
      simp [World.cell?, hb] at this
    · have := hB.lt
      omega
  · subst e e'
    obtain ⟨es, clock, hb⟩ := hB.map.isMap
    have := hA.c0
    simp [World.cell?, hb] at this

/-! ### a size and an entry written -/
section
variable {κ α : Type} {ke : κ → Lit} {ve : α → Value} {P : Program} {K : TypeId} {w w1 w2 : World} {bs off b n n' : Nat} {M M' : List (κ × α)} {sz sz' : Int}
theorem cell_setCell_same {a : Addr} {u v : Value} (h : w.cell? a = some u) : (w.setCell a v).cell? a = some v := by
  obtain ⟨bl, i, sp⟩ := a
  simp only [World.cell?, World.setCell, Array.getElem?_modify, if_true] at h ⊢
  cases hb : w.heap[bl]? with
  | none => rw [hb] at h; cases h
  | some ob =>
    rw [hb] at h
    cases ob <;> simp at h ⊢
    obtain ⟨h1, h2⟩ := h
    have hi := (Array.getElem?_eq_some_iff.1 h2).1
    simp [h1, hi]
theorem TabAt.sized (h : TabAt ke ve P K w bs off (some b) n M sz) (sz' : Int) : TabAt ke ve P K (w.setCell ⟨bs, off + 1, none⟩ (.int .i64 sz')) bs off (some b) n M sz' := by
  have T : Turn w (w.setCell ⟨bs, off + 1, none⟩ (.int .i64 sz')) bs off (fun _ => False) := Turn.setCell w bs off _ (.inr rfl) _
  refine ⟨?_, cell_setCell_same h.c1, by rw [World.frozen?_setCell]; exact h.f0, by rw [World.frozen?_setCell]; exact h.f1, h.map.move fun b' e => Below.heap_setCell _ _ _ _ fun e' => h.ne (by rw [e, e'])⟩
  exact (World.cell?_setCell_other _ _ _ _ (fun e => by injection e; omega)).trans h.c0
/-- A map is made where there was none. -/
theorem TabAt.made (h : TabAt ke ve P K w bs off none n M sz) (sz' : Int) : TabAt ke ve P K (((w.setCell ⟨bs, off + 1, none⟩ (.int .i64 sz')).setCell ⟨bs, off, none⟩ (.map (some w.heap.size))).alloc (.map #[] 0)) bs off (some w.heap.size) 0 M sz' := by
  have hm : M = [] := h.map
  subst hm
  have hlt := h.lt
  have hz : ((w.setCell ⟨bs, off + 1, none⟩ (.int .i64 sz')).setCell ⟨bs, off, none⟩ (.map (some w.heap.size))).heap.size = w.heap.size := by simp [World.setCell]
  have hb := Below.heap_alloc ((w.setCell ⟨bs, off + 1, none⟩ (.int .i64 sz')).setCell ⟨bs, off, none⟩ (.map (some w.heap.size))) (.map #[] 0) bs (by rw [hz]; exact hlt)
  have c1 := cell_setCell_same (v := .int .i64 sz') h.c1
  have c0 : (w.setCell ⟨bs, off + 1, none⟩ (.int .i64 sz')).cell? ⟨bs, off, none⟩ = some (.map none) := (World.cell?_setCell_other _ _ _ _ (fun e => by injection e; omega)).trans h.c0
  refine ⟨(World.cell?_of_block hb).trans (cell_setCell_same c0), (World.cell?_of_block hb).trans ((World.cell?_setCell_other _ _ _ _ (fun e => by injection e; omega)).trans c1), (World.frozen?_of_block hb).trans (by rw [World.frozen?_setCell, World.frozen?_setCell]; exact h.f0), (World.frozen?_of_block hb).trans (by rw [World.frozen?_setCell, World.frozen?_setCell]; exact h.f1), ?_⟩
  have h2 := World.ownsMap_made (H := Value) ((w.setCell ⟨bs, off + 1, none⟩ (.int .i64 sz')).setCell ⟨bs, off, none⟩ (.map (some w.heap.size))) P K heldR
  rw [hz] at h2
  exact h2
/-- The map's block b is written; what lies in it is told anew. -/
theorem TabAt.stored (h : TabAt ke ve P K w bs off (some b) n M sz) (hg : w.grownBy w1 (some b)) (hm : MapAt ke ve P K w1 (some b) n' M') : TabAt ke ve P K w1 bs off (some b) n' M' sz := by
  have e := hg.block bs h.lt (fun e => h.ne e.symm)
  exact ⟨(World.cell?_of_block e).trans h.c0, (World.cell?_of_block e).trans h.c1, (World.frozen?_of_block e).trans h.f0, (World.frozen?_of_block e).trans h.f1, hm⟩
theorem TabAt.begun (h : TabAt ke ve P K w bs off none n M sz) (hg : (((w.setCell ⟨bs, off + 1, none⟩ (.int .i64 sz')).setCell ⟨bs, off, none⟩ (.map (some w.heap.size))).alloc (.map #[] 0)).drew.grownBy w1 (some w.heap.size)) (hm : MapAt ke ve P K w1 (some w.heap.size) n' M') :
    TabAt ke ve P K w1 bs off (some w.heap.size) n' M' sz' ∧ Turn w w1 bs off (fun k => k = w.heap.size) := by
  have hlt := h.lt
  refine ⟨(h.made sz').drew.stored hg hm, ?_⟩
  have T : Turn w (((w.setCell ⟨bs, off + 1, none⟩ (.int .i64 sz')).setCell ⟨bs, off, none⟩ (.map (some w.heap.size))).alloc (.map #[] 0)).drew bs off (fun k => k = w.heap.size) :=
    (((Turn.setCell w bs off _ (.inr rfl) _).trans (Turn.setCell _ bs off _ (.inl rfl) _) (fun _ _ h => h)).trans (Turn.alloc (S := fun k => k = w.heap.size) (by simpa [World.setCell] using hlt) _) (fun _ _ h => h)).drew
  exact T.trans (Turn.grownBy (off := off) (S := fun k => k = w.heap.size) (by have := T.size; omega) hg (fun e => by injection e; omega) (fun k _ e => by simpa using e)) (fun _ _ h => h)
theorem TabAt.written (h : TabAt ke ve P K w bs off (some b) n M sz) (hg : (w.setCell ⟨bs, off + 1, none⟩ (.int .i64 sz')).drew.grownBy w1 (some b)) (hm : MapAt ke ve P K w1 (some b) n' M') :
    TabAt ke ve P K w1 bs off (some b) n' M' sz' ∧ Turn w w1 bs off (fun k => k = b) := by
  refine ⟨(h.sized sz').drew.stored hg hm, ?_⟩
  have T : Turn w (w.setCell ⟨bs, off + 1, none⟩ (.int .i64 sz')).drew bs off (fun k => k = b) := (Turn.setCell w bs off _ (.inr rfl) _).drew
  exact T.trans (Turn.grownBy (off := off) (S := fun k => k = b) (by have := h.lt; simpa [World.setCell, World.drew] using this) hg (fun e => h.ne e.symm) (fun k _ e => by simpa using e)) (fun _ _ h => h)
end

/-! ### what one gives behind another -/
section
variable {κ α : Type} {ke : κ → Lit}
/-- Keys that are one read as one. -/
def OneKey (ke : κ → Lit) : Prop := ∀ a b, (ke a).sameKey (ke b) = true ↔ a = b
theorem OneKey.ne (h : OneKey ke) {a b : κ} (hne : a ≠ b) : (ke a).sameKey (ke b) = false := by
  cases e : (ke a).sameKey (ke b)
  · rfl
  · exact absurd ((h a b).1 e) hne
theorem OneKey.self (h : OneKey ke) (a : κ) : (ke a).sameKey (ke a) = true := (h a a).2 rfl
theorem find_tins_hit {f : κ × α → Bool} {x : κ × α} (hx : f x = true) : ∀ l : List (κ × α), (∀ p ∈ l, f p = false) → (tins ke x l).find? f = some x
  | [], _ => by simp [tins, hx]
  | y :: r, h => by
    unfold tins
    split
    · simp [hx]
    · simp [h y (by simp), find_tins_hit hx r (fun p hp => h p (by simp [hp]))]
theorem find_tins_miss {f : κ × α → Bool} {x : κ × α} (hx : f x = false) : ∀ l : List (κ × α), (tins ke x l).find? f = l.find? f
  | [] => by simp [tins, hx]
  | y :: r => by
    unfold tins
    split
    · simp [hx]
    · cases hy : f y <;> simp [hy, find_tins_miss hx r]
theorem find_tdel (h : OneKey ke) {M : List (κ × α)} {k k' : κ} (hne : k ≠ k') : (tdel ke M k).find? (fun p => (ke p.1).sameKey (ke k')) = M.find? (fun p => (ke p.1).sameKey (ke k')) := by
  unfold tdel
  refine Maps.find_filter_keep (fun p hp => ?_) M
  have e := (h _ _).1 hp
  rw [e, h.ne (Ne.symm hne)]
  rfl
theorem tlook_put_same (h : OneKey ke) (M : List (κ × α)) (k : κ) (a : α) : tlook ke (tput ke M k a) k = some a := by
  unfold tlook tput
  rw [find_tins_hit (f := fun p => (ke p.1).sameKey (ke k)) (h.self k)]
  · rfl
  · intro p hp
    unfold tdel at hp
    simpa using (List.mem_filter.1 hp).2
theorem tlook_put_other (h : OneKey ke) (M : List (κ × α)) {k k' : κ} (hne : k ≠ k') (a : α) : tlook ke (tput ke M k a) k' = tlook ke M k' := by
  unfold tlook tput
  rw [find_tins_miss (f := fun p => (ke p.1).sameKey (ke k')) (h.ne hne), find_tdel h hne]
theorem tlook_del_same (h : OneKey ke) (M : List (κ × α)) (k : κ) : tlook ke (tdel ke M k) k = none := by
  unfold tlook
  rw [List.find?_eq_none.2 (fun p hp => by unfold tdel at hp; simpa using (List.mem_filter.1 hp).2)]
  rfl
theorem tlook_del_other (h : OneKey ke) (M : List (κ × α)) {k k' : κ} (hne : k ≠ k') : tlook ke (tdel ke M k) k' = tlook ke M k' := by
  unfold tlook
  rw [find_tdel h hne]
theorem mem_tins (x p : κ × α) : ∀ l : List (κ × α), p ∈ tins ke x l ↔ p = x ∨ p ∈ l
  | [] => by simp [tins]
  | y :: r => by
    unfold tins
    split
    · simp
    · simp only [List.mem_cons, mem_tins x p r]
      constructor
      · rintro (h | h | h)
        · exact .inr (.inl h)
        · exact .inl h
        · exact .inr (.inr h)
      · rintro (h | h | h)
        · exact .inr (.inl h)
        · exact .inl h
        · exact .inr (.inr h)
theorem length_tins (x : κ × α) : ∀ l : List (κ × α), (tins ke x l).length = l.length + 1
  | [] => rfl
  | y :: r => by
    unfold tins
    split
    · rfl
    · simp [length_tins x r]
theorem map_tins_sum (f : κ × α → Int) (x : κ × α) : ∀ l : List (κ × α), ((tins ke x l).map f).sum = f x + (l.map f).sum
  | [] => by simp [tins]
  | y :: r => by
    unfold tins
    split
    · simp
    · simp only [List.map_cons, List.sum_cons, map_tins_sum f x r]
      omega
end
/-- Keys that are strings. -/
abbrev ks (s : ByteArray) : Lit := .string s.data.toList
theorem bytes_ext {s t : ByteArray} (h : s.data.toList = t.data.toList) : s = t := by
  cases s; cases t
  simp only [ByteArray.mk.injEq]
  exact Array.toList_inj.1 h
theorem ks_one : OneKey ks := fun a b => ⟨fun h => bytes_ext (by simpa [ks, Lit.sameKey] using h), fun h => by subst h; simp [ks, Lit.sameKey]⟩
end Go.Proofs.YtnccofpkanhfhaaGreatDoor.Tab
