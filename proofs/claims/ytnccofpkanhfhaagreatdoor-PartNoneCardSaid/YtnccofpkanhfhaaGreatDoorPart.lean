/-
  part.Part: a store, a book, a hall and leases in one block: what is kept as one of them turns; Size.
-/
import Derived.Test.YtnccofpkanhfhaaGreatDoorKv
import Derived.Test.YtnccofpkanhfhaaGreatDoorCounter
import Derived.Test.YtnccofpkanhfhaaGreatDoorFifoPush
import Derived.Test.YtnccofpkanhfhaaGreatDoorFifoPop
import Derived.Test.YtnccofpkanhfhaaGreatDoorLeaseNames
import Derived.Test.YtnccofpkanhfhaaGreatDoorCls
import Derived.Test.YtnccofpkanhfhaaGreatDoorPut
import Derived.Deep.QuietTactic
import Derived.BigQuiet
set_option linter.unusedVariables false
set_option linter.unusedSimpArgs false
namespace Go.Proofs.YtnccofpkanhfhaaGreatDoor.Fifo
open Go.RowKit Go.Maps Go.WideMaps Go.Proofs.YtnccofpkanhfhaaGreatDoor.Tab
theorem Hall.turn {w w' : World} {bs off n : Nat} {mb : Option Nat} {M : Tabl} {sz : Int} (h : Hall w bs off mb n M sz) {bs' off' : Nat} {S : Nat → Prop} (ht : Turn w w' bs' off' S) (hne : bs = bs' → off + 1 < off' ∨ off' + 1 < off) (hS : ¬ S bs)
    (hm : ∀ k, (mb = some k ∨ ∃ p ∈ M, k ∈ p.2.foot) → k ≠ bs' ∧ ¬ S k) : Hall w' bs off mb n M sz :=
  ⟨h.tab.turn ht hne hS (fun b e => hm b (.inl e)), fun p hp => (h.qs p hp).move (fun k hk => by
    obtain ⟨h0, h1⟩ := hm k (.inr ⟨p, hp, hk⟩)
    exact ht.block k ((h.qs p hp).lt k hk) h0 h1), h.ne, h.apart, h.far⟩
end Go.Proofs.YtnccofpkanhfhaaGreatDoor.Fifo
namespace Go.Proofs.YtnccofpkanhfhaaGreatDoor.Part
open Go.RowKit Go.Maps Go.WideMaps Go.Proofs.YtnccofpkanhfhaaGreatDoor.Tab Go.Proofs.YtnccofpkanhfhaaGreatDoorW.PrintWords
/-- What a partition is made of. -/
structure PS where
  ms : Option Nat
  nk : Nat
  K : List (ByteArray × ByteArray)
  zk : Int
  mc : Option Nat
  nc : Nat
  C : List (ByteArray × Int)
  zc : Int
  mh : Option Nat
  nh : Nat
  H : Fifo.Tabl
  zh : Int
  ml : Option Nat
  nl : Nat
  L : Lease.Tabl
  zl : Int
/-- The blocks of each of the four. -/
def owns (p : PS) : Nat → Nat → Prop
  | 0, k => p.ms = some k
  | 1, k => p.mc = some k
  | 2, k => p.mh = some k ∨ ∃ x ∈ p.H, k ∈ x.2.foot
  | 3, k => p.ml = some k
  | _, _ => False
structure PartAt (base : Nat) (W : World) (bs : Nat) (p : PS) : Prop where
  store : Kv.Store W bs 0 p.ms p.nk p.K p.zk
  book : Counter.Book W bs 2 p.mc p.nc p.C p.zc
  hall : Fifo.Hall W bs 4 p.mh p.nh p.H p.zh
  leases : Lease.Leases W bs 6 p.ml p.nl p.L p.zl
  typ : ∃ cs fr, W.heap[bs]? = some (.cells cs 65 fr)
  apart : ∀ i j k, owns p i k → owns p j k → i = j
  hbs : base ≤ bs
  ho : ∀ i k, owns p i k → base ≤ k
variable {base bs : Nat} {W W' : World} {p p' : PS}
theorem PartAt.lt (h : PartAt base W bs p) : bs < W.heap.size := h.store.lt
theorem PartAt.own_lt (h : PartAt base W bs p) {i k : Nat} (hk : owns p i k) : k < W.heap.size := by
  match i, hk with
  | 0, hk => have := h.store.map; rw [show p.ms = some k from hk] at this; exact this.lt
  | 1, hk => have := h.book.map; rw [show p.mc = some k from hk] at this; exact this.lt
  | 2, .inl hk => have := h.hall.tab.map; rw [hk] at this; exact this.lt
  | 2, .inr ⟨x, hx, hk⟩ => exact (h.hall.qs x hx).lt k hk
  | 3, hk => have := h.leases.map; rw [show p.ml = some k from hk] at this; exact this.lt
theorem PartAt.own_ne (h : PartAt base W bs p) {i k : Nat} (hk : owns p i k) : k ≠ bs := by
  match i, hk with
  | 0, hk => rintro rfl; exact h.store.ne hk
  | 1, hk => rintro rfl; exact h.book.ne hk
  | 2, .inl hk => rintro rfl; exact h.hall.tab.ne hk
  | 2, .inr ⟨x, hx, hk⟩ => exact (h.hall.far x hx k hk).1
  | 3, hk => rintro rfl; exact h.leases.ne hk
theorem PartAt.move (h : PartAt base W bs p) (hb : Below W.heap.size W W') : PartAt base W' bs p :=
  ⟨h.store.below hb, h.book.below hb, h.hall.below hb, h.leases.below hb, by obtain ⟨cs, fr, e⟩ := h.typ; exact ⟨cs, fr, (hb.block bs h.lt).trans e⟩, h.apart, h.hbs, h.ho⟩
theorem PartAt.on (h : PartAt base W bs p) (hm : ∀ k, (k = bs ∨ ∃ i, owns p i k) → W'.heap[k]? = W.heap[k]?) : PartAt base W' bs p :=
  ⟨h.store.move (hm bs (.inl rfl)) (fun b e => hm b (.inr ⟨0, e⟩)), h.book.move (hm bs (.inl rfl)) (fun b e => hm b (.inr ⟨1, e⟩)), h.hall.move (fun k hk => by
    rcases hk with rfl | hk | hk
    · exact hm _ (.inl rfl)
    · exact hm k (.inr ⟨2, .inl hk⟩)
    · exact hm k (.inr ⟨2, .inr hk⟩)), h.leases.move (hm bs (.inl rfl)) (fun b e => hm b (.inr ⟨3, e⟩)), by obtain ⟨cs, fr, e⟩ := h.typ; exact ⟨cs, fr, (hm bs (.inl rfl)).trans e⟩, h.apart, h.hbs, h.ho⟩
/-- A write into a block that is not the partition's. -/
theorem PartAt.far (h : PartAt base W bs p) {g : Nat} (hg : W.grownBy W' (some g)) (hne : g ≠ bs) (hno : ∀ i, ¬ owns p i g) : PartAt base W' bs p :=
  h.on (fun k hk => hg.block k (by rcases hk with rfl | ⟨i, hk⟩
                                   · exact h.lt
                                   · exact h.own_lt hk) (fun e => by
    injection e with e
    subst e
    rcases hk with e | ⟨i, hk⟩
    · exact hne e
    · exact hno i hk))
theorem PartAt.drewN (h : PartAt base W bs p) (n : Nat) : PartAt base (W.drewN n) bs p := h.move (pw_below_drewN (Below.refl _ _) n)
/-- What writes in one of the four, at i, does not meet another one's blocks. -/
theorem PartAt.free (h : PartAt base W bs p) {i : Nat} {S : Nat → Prop} (hS : ∀ k, S k → owns p i k ∨ W.heap.size ≤ k) : ¬ S bs ∧ ∀ j k, j ≠ i → owns p j k → k ≠ bs ∧ ¬ S k := by
  refine ⟨fun hs => ?_, fun j k hj hk => ⟨h.own_ne hk, fun hs => ?_⟩⟩
  · rcases hS _ hs with e | e
    · exact h.own_ne e rfl
    · have := h.lt; omega
  · rcases hS _ hs with e | e
    · exact hj (h.apart _ _ _ hk e)
    · have := h.own_lt hk; omega
theorem PartAt.apart_upd (h : PartAt base W bs p) {i : Nat} (ho : ∀ j, j ≠ i → ∀ k, owns p' j k → owns p j k) (hi : ∀ k, owns p' i k → owns p i k ∨ W.heap.size ≤ k) : ∀ a b k, owns p' a k → owns p' b k → a = b := by
  intro a b k ha hb
  have old : ∀ c, c ≠ i → owns p' c k → k < W.heap.size := fun c hc hk => h.own_lt (ho c hc k hk)
  by_cases ea : a = i
  · by_cases eb : b = i
    · rw [ea, eb]
    · have hlt := old b eb hb
      subst ea
      rcases hi k ha with e | e
      · exact h.apart _ _ _ e (ho b eb k hb)
      · omega
  · by_cases eb : b = i
    · have hlt := old a ea ha
      subst eb
      rcases hi k hb with e | e
      · exact h.apart _ _ _ (ho a ea k ha) e
      · omega
    · exact h.apart _ _ _ (ho a ea k ha) (ho b eb k hb)
theorem PartAt.ho_upd (h : PartAt base W bs p) {i : Nat} (ho : ∀ j, j ≠ i → ∀ k, owns p' j k → owns p j k) (hi : ∀ k, owns p' i k → owns p i k ∨ W.heap.size ≤ k) : ∀ j k, owns p' j k → base ≤ k := by
  intro j k hk
  by_cases e : j = i
  · subst e
    rcases hi k hk with e | e
    · exact h.ho _ _ e
    · have := h.hbs; have := h.lt; omega
  · exact h.ho _ _ (ho j e k hk)
theorem typ_turn {off : Nat} {S : Nat → Prop} (h : PartAt base W bs p) (ht : Turn W W' bs off S) : ∃ cs fr, W'.heap[bs]? = some (.cells cs 65 fr) := ht.typ _ h.typ
theorem PartAt.setBook (h : PartAt base W bs p) {m : Option Nat} {n : Nat} {M : List (ByteArray × Int)} {z : Int} {S : Nat → Prop} (hB : Counter.Book W' bs 2 m n M z) (ht : Turn W W' bs 2 S) (hS : ∀ k, S k → p.mc = some k ∨ W.heap.size ≤ k) (hm : ∀ k, m = some k → p.mc = some k ∨ W.heap.size ≤ k) :
    PartAt base W' bs { p with mc := m, nc := n, C := M, zc := z } := by
  obtain ⟨f0, f1⟩ := h.free (i := 1) hS
  have ho : ∀ j, j ≠ 1 → ∀ k, owns { p with mc := m, nc := n, C := M, zc := z } j k → owns p j k := fun j hj k hk => by
    match j, hk with
    | 0, hk => exact hk
    | 1, hk => exact absurd rfl hj
    | 2, hk => exact hk
    | 3, hk => exact hk
  exact ⟨h.store.turn ht (fun _ => .inl (by omega)) f0 (fun b e => f1 0 b (by omega) e), hB, h.hall.turn ht (fun _ => .inr (by omega)) f0 (fun k e => f1 2 k (by omega) e), h.leases.turn ht (fun _ => .inr (by omega)) f0 (fun b e => f1 3 b (by omega) e), typ_turn h ht, h.apart_upd (i := 1) ho hm, h.hbs, h.ho_upd (i := 1) ho hm⟩
theorem PartAt.setStore (h : PartAt base W bs p) {m : Option Nat} {n : Nat} {M : List (ByteArray × ByteArray)} {z : Int} {S : Nat → Prop} (hB : Kv.Store W' bs 0 m n M z) (ht : Turn W W' bs 0 S) (hS : ∀ k, S k → p.ms = some k ∨ W.heap.size ≤ k) (hm : ∀ k, m = some k → p.ms = some k ∨ W.heap.size ≤ k) :
    PartAt base W' bs { p with ms := m, nk := n, K := M, zk := z } := by
  obtain ⟨f0, f1⟩ := h.free (i := 0) hS
  have ho : ∀ j, j ≠ 0 → ∀ k, owns { p with ms := m, nk := n, K := M, zk := z } j k → owns p j k := fun j hj k hk => by
    match j, hk with
    | 0, hk => exact absurd rfl hj
    | 1, hk => exact hk
    | 2, hk => exact hk
    | 3, hk => exact hk
  exact ⟨hB, h.book.turn ht (fun _ => .inr (by omega)) f0 (fun b e => f1 1 b (by omega) e), h.hall.turn ht (fun _ => .inr (by omega)) f0 (fun k e => f1 2 k (by omega) e), h.leases.turn ht (fun _ => .inr (by omega)) f0 (fun b e => f1 3 b (by omega) e), typ_turn h ht, h.apart_upd (i := 0) ho hm, h.hbs, h.ho_upd (i := 0) ho hm⟩
theorem PartAt.setLeases (h : PartAt base W bs p) {m : Option Nat} {n : Nat} {M : Lease.Tabl} {z : Int} {S : Nat → Prop} (hB : Lease.Leases W' bs 6 m n M z) (ht : Turn W W' bs 6 S) (hS : ∀ k, S k → p.ml = some k ∨ W.heap.size ≤ k) (hm : ∀ k, m = some k → p.ml = some k ∨ W.heap.size ≤ k) :
    PartAt base W' bs { p with ml := m, nl := n, L := M, zl := z } := by
  obtain ⟨f0, f1⟩ := h.free (i := 3) hS
  have ho : ∀ j, j ≠ 3 → ∀ k, owns { p with ml := m, nl := n, L := M, zl := z } j k → owns p j k := fun j hj k hk => by
    match j, hk with
    | 0, hk => exact hk
    | 1, hk => exact hk
    | 2, hk => exact hk
    | 3, hk => exact absurd rfl hj
  exact ⟨h.store.turn ht (fun _ => .inl (by omega)) f0 (fun b e => f1 0 b (by omega) e), h.book.turn ht (fun _ => .inl (by omega)) f0 (fun b e => f1 1 b (by omega) e), h.hall.turn ht (fun _ => .inl (by omega)) f0 (fun k e => f1 2 k (by omega) e), hB, typ_turn h ht, h.apart_upd (i := 3) ho hm, h.hbs, h.ho_upd (i := 3) ho hm⟩
theorem PartAt.setHall (h : PartAt base W bs p) {m : Option Nat} {n : Nat} {M : Fifo.Tabl} {z : Int} {S : Nat → Prop} (hB : Fifo.Hall W' bs 4 m n M z) (ht : Turn W W' bs 4 S) (hS : ∀ k, S k → owns p 2 k ∨ W.heap.size ≤ k) (hm : ∀ k, (m = some k ∨ ∃ x ∈ M, k ∈ x.2.foot) → owns p 2 k ∨ W.heap.size ≤ k) :
    PartAt base W' bs { p with mh := m, nh := n, H := M, zh := z } := by
  obtain ⟨f0, f1⟩ := h.free (i := 2) hS
  have ho : ∀ j, j ≠ 2 → ∀ k, owns { p with mh := m, nh := n, H := M, zh := z } j k → owns p j k := fun j hj k hk => by
    match j, hk with
    | 0, hk => exact hk
    | 1, hk => exact hk
    | 2, hk => exact absurd rfl hj
    | 3, hk => exact hk
  exact ⟨h.store.turn ht (fun _ => .inl (by omega)) f0 (fun b e => f1 0 b (by omega) e), h.book.turn ht (fun _ => .inl (by omega)) f0 (fun b e => f1 1 b (by omega) e), hB, h.leases.turn ht (fun _ => .inr (by omega)) f0 (fun b e => f1 3 b (by omega) e), typ_turn h ht, h.apart_upd (i := 2) ho hm, h.hbs, h.ho_upd (i := 2) ho hm⟩
/-- A turn of one of the four leaves what is below the base. -/
theorem PartAt.under (h : PartAt base W bs p) {i off : Nat} {S : Nat → Prop} (ht : Turn W W' bs off S) (hS : ∀ k, S k → owns p i k ∨ W.heap.size ≤ k) : Below base W W' :=
  (Fifo.Touch.turn ht).under (by have := h.hbs; have := h.lt; omega) (fun k hk => by
    rcases hk with rfl | hk
    · exact h.hbs
    · rcases hS k hk with e | e
      · exact h.ho _ _ e
      · have := h.hbs; have := h.lt; omega)
/-- One that has nothing. -/
def none0 : PS := ⟨none, 0, [], 0, none, 0, [], 0, none, 0, [], 0, none, 0, [], 0⟩
theorem owns_none0 : ∀ i k, ¬ owns none0 i k
  | 0, _, h => by cases h
  | 1, _, h => by cases h
  | 2, _, .inl h => by cases h
  | 2, _, .inr ⟨_, hx, _⟩ => by cases hx
  | 3, _, h => by cases h
  | _ + 4, _, h => h
theorem new_at (base : Nat) (w : World) (hb : base ≤ w.heap.size) : PartAt base (w.alloc (.cells #[.map none, .int .i64 0, .map none, .int .i64 0, .map none, .int .i64 0, .map none, .int .i64 0] 65)) w.heap.size none0 := by
  have c : ∀ i, (w.alloc (.cells #[.map none, .int .i64 0, .map none, .int .i64 0, .map none, .int .i64 0, .map none, .int .i64 0] 65)).cell? ⟨w.heap.size, i, none⟩ = #[Value.map none, .int .i64 0, .map none, .int .i64 0, .map none, .int .i64 0, .map none, .int .i64 0][i]? := fun i => World.cell?_alloc_at _ _ _ _ rfl
  have f : ∀ i, (w.alloc (.cells #[.map none, .int .i64 0, .map none, .int .i64 0, .map none, .int .i64 0, .map none, .int .i64 0] 65)).frozen? ⟨w.heap.size, i, none⟩ = false := fun i => World.frozen?_alloc_at _ _ _ _ rfl
  refine ⟨⟨c 0, c 1, f 0, f 1, rfl⟩, ⟨c 2, c 3, f 2, f 3, rfl⟩, ⟨⟨c 4, c 5, f 4, f 5, rfl⟩, by simp [none0], by simp [none0], by simp [none0], by simp [none0]⟩, ⟨c 6, c 7, f 6, f 7, rfl⟩, ⟨_, _, heap_alloc_last _ _⟩, fun i j k hi hj => ?_, hb, fun i k hi => ?_⟩
  · exact absurd hi (owns_none0 i k)
  · exact absurd hi (owns_none0 i k)
theorem New_ (w : World) : Calls Tryz.prog 8 #[] w fun e w' => e = .returned (.pointer (some ⟨w.heap.size, 0, none⟩)) ∧ PartAt w.heap.size w' w.heap.size none0 ∧ Below w.heap.size w w' := by
  go_enter Tryz.func8, Tryz.ntmps8
  go_wp2_with fail
  go_ret
  exact ⟨rfl, new_at _ w (Nat.le_refl _), (Below.refl _ _).alloc (Nat.le_refl _) _⟩
/-! ### Size -/
/-- What the four weigh is a number of some size. -/
structure Zs (p : PS) : Prop where
  k : 0 ≤ p.zk ∧ p.zk ≤ 1152921504606846976
  c : 0 ≤ p.zc ∧ p.zc ≤ 1152921504606846976
  h : 0 ≤ p.zh ∧ p.zh ≤ 1152921504606846976
  l : 0 ≤ p.zl ∧ p.zl ≤ 1152921504606846976
def size (p : PS) : Int := p.zk + p.zc + p.zh + p.zl
set_option maxRecDepth 100000 in
set_option maxHeartbeats 1000000 in
theorem Size_ (h : PartAt base W bs p) (hz : Zs p) : Calls Tryz.prog 12 #[.pointer (some ⟨bs, 0, none⟩)] W fun e w' => e = .returned (.int .i64 (size p)) ∧ ∃ n, w' = W.drewN n := by
  have h0 := fun n => Kv.Size_ (h.drewN n).store
  have h1 := fun n => Counter.Size_ (h.drewN n).book
  have h2 := fun n => Fifo.Size_ (h.drewN n).hall
  have h3 := fun n => Lease.Size_ (h.drewN n).leases
  have HH := Lib.hid (And.intro h0 (And.intro h1 (And.intro h2 h3)))
  obtain ⟨⟨k0, k1⟩, ⟨c0, c1⟩, ⟨h0', h1'⟩, ⟨l0, l1⟩⟩ := hz
  unfold size
  clear h h0 h1 h2 h3
  generalize p.zk = zk at *
  generalize p.zc = zc at *
  generalize p.zh = zh at *
  generalize p.zl = zl at *
  go_enter Tryz.func12, Tryz.ntmps12
  go_wp2_with fail
  have e1 : IntKind.i64.wrap (zk + zc) = zk + zc := IntWalk.i64_in _ (by omega)
  have e2 : IntKind.i64.wrap (zk + zc + zh) = zk + zc + zh := IntWalk.i64_in _ (by omega)
  have e3 : IntKind.i64.wrap (zk + zc + zh + zl) = zk + zc + zh + zl := IntWalk.i64_in _ (by omega)
  go_quiet (first | exact Calls.quiet_of_same (HH.out.1 _) | exact Calls.quiet_of_same (HH.out.2.1 _) | exact Calls.quiet_of_same (HH.out.2.2.1 _) | exact Calls.quiet_of_same (HH.out.2.2.2 _))
  go_wp2_with fail
  go_ret
  exact ⟨rfl, _, rfl⟩
end Go.Proofs.YtnccofpkanhfhaaGreatDoor.Part
