/-
  admin.Book: who lives, by a map; its methods by their contracts.
-/
import Derived.Test.YtdnhmlpjohojdaaAdmForm
import Derived.Test.YtdnhmlpjohojdaaTabb
import Derived.StillTailTactics
import Derived.Deep.RegionHeld3
import Derived.Deep.DrawnRows
import Derived.WalkSpells
set_option linter.unusedVariables false
set_option linter.unusedSimpArgs false
namespace Go.Proofs.Ytdnhmlpjohojdaa.Adm
open Go.RowKit Go.Maps Go.WideMaps Go.Proofs.Ytdnhmlpjohojdaa.Tab
attribute [local go_sem ↓] Go.wp_at_zero Go.wp_at_succ
/-- A tenant. -/
structure Ten where
  v : Fin 9 → Int
  rests : Bool
abbrev cells10 (t : Ten) : Array Value := #[.int .i64 (t.v 0), .int .i64 (t.v 1), .int .i64 (t.v 2), .int .i64 (t.v 3), .int .i64 (t.v 4), .int .i64 (t.v 5), .int .i64 (t.v 6), .int .i64 (t.v 7), .int .i64 (t.v 8), .bool t.rests]
abbrev tenV (t : Ten) : Value := .agg (cells10 t)
abbrev ki (x : Int) : Lit := .int .i64 x
def zeroC : Fin 9 → Int := fun _ => 0
def zeroT : Ten := ⟨zeroC, false⟩
theorem lawB : Keyed Try.prog 3 := int_keyed Try.underlying3
theorem zeroB (w : World) : (zeroValue 78).run Try.prog w = .ok (tenV zeroT) w := by kernel_rfl
abbrev Mp := List (Int × Ten)
structure BookAt (w : World) (bs : Nat) (mb : Option Nat) (n : Nat) (M : Mp) : Prop where
  box : w.heap[bs]? = some (.cells #[.map mb] 54 (0, 0))
  map : MapAt ki tenV Try.prog 3 w mb n M
theorem BookAt.c0 {w : World} {bs n : Nat} {mb : Option Nat} {M : Mp} (h : BookAt w bs mb n M) : w.cell? ⟨bs, 0, none⟩ = some (.map mb) := cell_of_cells h.box 0
theorem BookAt.f0 {w : World} {bs n : Nat} {mb : Option Nat} {M : Mp} (h : BookAt w bs mb n M) : w.frozen? ⟨bs, 0, none⟩ = false := by simp [World.frozen?, h.box]
theorem BookAt.lt {w : World} {bs n : Nat} {mb : Option Nat} {M : Mp} (h : BookAt w bs mb n M) : bs < w.heap.size := (Array.getElem?_eq_some_iff.1 h.box).1
theorem BookAt.below {w w' : World} {bs n : Nat} {mb : Option Nat} {M : Mp} (h : BookAt w bs mb n M) (hb : Below w.heap.size w w') : BookAt w' bs mb n M :=
  ⟨(hb.block _ h.lt).trans h.box, h.map.move (fun b e => by subst e; exact hb.block b h.map.lt)⟩
theorem BookAt.drew {w : World} {bs n : Nat} {mb : Option Nat} {M : Mp} (h : BookAt w bs mb n M) : BookAt w.drew bs mb n M := ⟨h.box, h.map.move (fun _ _ => rfl)⟩
def ten (M : Mp) (x : Int) : Ten := (tlook ki M x).getD zeroT
def lives (M : Mp) (x : Int) : Bool := (tlook ki M x).isSome
theorem ten_get (M : Mp) (x : Int) : ((tlook ki M x).map tenV).getD (tenV zeroT) = tenV (ten M x) := by
  unfold ten
  cases tlook ki M x <;> rfl
theorem New_ (w : World) : Calls Try.prog 14 #[] w fun e w' => e = .returned (.pointer (some ⟨w.heap.size, 0, none⟩)) ∧ w' = w.alloc (.cells #[.map none] 54) := by
  go_enter Try.func14, Try.ntmps14
  go_wp2
  go_ret
  exact ⟨rfl, rfl⟩
theorem info24 : (Try.prog.info? 24).map (·.size) = some 9 := by kernel_rfl
theorem below_row {B g : Nat} {w0 w : World} (hb : Below B w0 w) (hBg : B ≤ g) (cs : Array Value) : Below B w0 (w.setRow g cs) :=
  ⟨hb.os, hb.tape, hb.output, by simpa using hb.size, fun k hk => (setRow_other _ _ _ _ (by omega)).trans (hb.block k hk)⟩
theorem new_at (w : World) (n : Nat) : BookAt (w.alloc (.cells #[.map none] 54)) w.heap.size none n [] := ⟨heap_alloc_last _ _, rfl⟩
set_option maxRecDepth 100000 in
theorem find_nil (x : Int) (w : World) : Calls Try.prog 42 #[.pointer none, .int .i64 x] w fun e w' => e = .returned (.tuple #[tenV zeroT, .bool false]) ∧ Below w.heap.size w w' := by
  go_enter Try.func42, Try.ntmps42
  go_wp2
  exact bodyPost_ret (v := .tuple #[tenV zeroT, .bool false]) (by simp [results, Try.results42, go_sem, zeroT, zeroC]) rfl ⟨rfl, (Below.refl _ _).alloc (Nat.le_refl _) _⟩
set_option maxRecDepth 100000 in
set_option maxHeartbeats 1000000 in
theorem find_ {w : World} {bs n : Nat} {mb : Option Nat} {M : Mp} (h : BookAt w bs mb n M) (x : Int) (hx : (Lit.int .i64 x).wf = true) :
    Calls Try.prog 42 #[.pointer (some ⟨bs, 0, none⟩), .int .i64 x] w fun e w' => e = .returned (.tuple #[tenV (ten M x), .bool (lives M x)]) ∧ Below w.heap.size w w' := by
  have h1 := h.below ((Below.refl _ _).alloc (Nat.le_refl _) (.cells #[.int .i64 0, .int .i64 0, .int .i64 0, .int .i64 0, .int .i64 0, .int .i64 0, .int .i64 0, .int .i64 0, .int .i64 0, .bool false] 78))
  have c0 := h.c0
  have hl := h1.map.run_look true lawB Try.underlying52 (zeroB _) x (keyOf_int_mk Try.underlying3 hx)
  simp only [if_true, ten_get] at hl
  rw [show (tlook ki M x).isSome = lives M x from rfl] at hl
  generalize ten M x = t at *
  generalize lives M x = l at *
  obtain ⟨v, r⟩ := t
  have hlt := h.lt
  clear h h1 hx
  go_enter Try.func42, Try.ntmps42
  go_wp2_with fail
  exact bodyPost_ret (v := .tuple #[.agg #[.int .i64 (v 0), .int .i64 (v 1), .int .i64 (v 2), .int .i64 (v 3), .int .i64 (v 4), .int .i64 (v 5), .int .i64 (v 6), .int .i64 (v 7), .int .i64 (v 8), .bool r], .bool l]) (by simp [results, Try.results42, go_sem]) rfl ⟨rfl, ((Below.refl _ _).alloc (Nat.le_refl _) _).alloc (by simp) _⟩
set_option maxRecDepth 100000 in
theorem Lives_nil (x : Int) (w : World) : Calls Try.prog 21 #[.pointer none, .int .i64 x] w fun e w' => e = .returned (.bool false) ∧ Below w.heap.size w w' := by
  have HN := Lib.hid (find_nil x)
  go_enter Try.func21, Try.ntmps21
  go_wp2_with (first
    | (go_at_call 42; refine (HN.out _).mono ?_; simp only [tenV, cells10, zeroT, zeroC]; rintro e w1 ⟨rfl, hb⟩; have HB := Lib.hid hb; clear hb))
  go_ret
  exact ⟨rfl, HB.out.alloc (HB.out.size) _⟩
set_option maxRecDepth 100000 in
set_option maxHeartbeats 1000000 in
theorem Lives_ {w : World} {bs n : Nat} {mb : Option Nat} {M : Mp} (h : BookAt w bs mb n M) (x : Int) (hx : (Lit.int .i64 x).wf = true) :
    Calls Try.prog 21 #[.pointer (some ⟨bs, 0, none⟩), .int .i64 x] w fun e w' => e = .returned (.bool (lives M x)) ∧ Below w.heap.size w w' := by
  have HN := Lib.hid (find_ h x hx)
  generalize ten M x = t at *
  generalize lives M x = l at *
  obtain ⟨v, r⟩ := t
  clear h hx
  go_enter Try.func21, Try.ntmps21
  go_wp2_with (first
    | (go_at_call 42; refine HN.out.mono ?_; rintro e w1 ⟨rfl, hb⟩; have HB := Lib.hid hb; clear hb))
  go_ret
  exact ⟨rfl, HB.out.alloc (HB.out.size) _⟩
set_option maxRecDepth 100000 in
theorem Rests_nil (x : Int) (w : World) : Calls Try.prog 22 #[.pointer none, .int .i64 x] w fun e w' => e = .returned (.bool false) ∧ Below w.heap.size w w' := by
  have HN := Lib.hid (find_nil x)
  go_enter Try.func22, Try.ntmps22
  go_wp2_with (first
    | (go_at_call 42; refine (HN.out _).mono ?_; simp only [tenV, cells10, zeroT, zeroC]; rintro e w1 ⟨rfl, hb⟩; have HB := Lib.hid hb; clear hb))
  go_ret
  exact ⟨rfl, HB.out.alloc (HB.out.size) _⟩
set_option maxRecDepth 100000 in
set_option maxHeartbeats 1000000 in
theorem Rests_ {w : World} {bs n : Nat} {mb : Option Nat} {M : Mp} (h : BookAt w bs mb n M) (x : Int) (hx : (Lit.int .i64 x).wf = true) :
    Calls Try.prog 22 #[.pointer (some ⟨bs, 0, none⟩), .int .i64 x] w fun e w' => e = .returned (.bool (ten M x).rests) ∧ Below w.heap.size w w' := by
  have HN := Lib.hid (find_ h x hx)
  generalize ten M x = t at *
  generalize lives M x = l at *
  obtain ⟨v, r⟩ := t
  clear h hx
  go_enter Try.func22, Try.ntmps22
  go_wp2_with (first
    | (go_at_call 42; refine HN.out.mono ?_; rintro e w1 ⟨rfl, hb⟩; have HB := Lib.hid hb; clear hb))
  go_ret
  exact ⟨rfl, HB.out.alloc (HB.out.size) _⟩
set_option maxRecDepth 100000 in
theorem Conf_nil (x : Int) (w : World) : Calls Try.prog 23 #[.pointer none, .int .i64 x] w fun e w' => e = .returned (.agg (cells9 zeroC)) ∧ Below w.heap.size w w' := by
  have HN := Lib.hid (find_nil x)
  go_enter Try.func23, Try.ntmps23
  go_wp2_with (first
    | (go_at_call 42; refine (HN.out _).mono ?_; simp only [tenV, cells10, zeroT, zeroC]; rintro e w1 ⟨rfl, hb⟩; have HB := Lib.hid hb; clear hb)
    | (refine Line.Stop.at none (.store 24 (.tmp 4) (.tmp 14)) ?_))
  constructor
  have hg : (w1.alloc (.cells #[.int .i64 0, .int .i64 0, .int .i64 0, .int .i64 0, .int .i64 0, .int .i64 0, .int .i64 0, .int .i64 0, .int .i64 0, .bool false] 78)).heap[w.heap.size]? = some (.cells #[.int .i64 0, .int .i64 0, .int .i64 0, .int .i64 0, .int .i64 0, .int .i64 0, .int .i64 0, .int .i64 0, .int .i64 0] 24 (0, 0)) := (Below.heap_alloc _ _ _ (Nat.lt_of_lt_of_le (by simp) HB.out.size)).trans ((HB.out.block _ (by simp)).trans (heap_alloc_last _ _))
  have HG := Lib.hid hg
  refine wpList_store_row rfl 24 (.tmp 4) (.tmp 14) rfl w.heap.size #[.int .i64 0, .int .i64 0, .int .i64 0, .int .i64 0, .int .i64 0, .int .i64 0, .int .i64 0, .int .i64 0, .int .i64 0] rfl rfl 24 #[.int .i64 0, .int .i64 0, .int .i64 0, .int .i64 0, .int .i64 0, .int .i64 0, .int .i64 0, .int .i64 0, .int .i64 0] hg info24 rfl (by kernel_rfl) ?_
  clear hg
  go_wp2_with fail
  refine bodyPost_ret (results_cell_row rfl _ _ w.heap.size 24 #[.int .i64 0, .int .i64 0, .int .i64 0, .int .i64 0, .int .i64 0, .int .i64 0, .int .i64 0, .int .i64 0, .int .i64 0] (0, 0) _ rfl (setRow_heap _ _ _ _ _ _ HG.out) Try.underlying24 rfl (by kernel_rfl)) rfl ?_
  exact ⟨rfl, below_row (((Below.refl _ _).alloc (Nat.le_refl _) _).trans (HB.out.mono (by simp)) |>.alloc (Nat.le_trans (by simp) HB.out.size) _) (Nat.le_refl _) _⟩
set_option maxRecDepth 100000 in
set_option maxHeartbeats 1000000 in
theorem Conf_ {w : World} {bs n : Nat} {mb : Option Nat} {M : Mp} (h : BookAt w bs mb n M) (x : Int) (hx : (Lit.int .i64 x).wf = true) :
    Calls Try.prog 23 #[.pointer (some ⟨bs, 0, none⟩), .int .i64 x] w fun e w' => e = .returned (.agg (cells9 (ten M x).v)) ∧ Below w.heap.size w w' := by
  have HN := Lib.hid (find_ (h.below ((Below.refl _ _).alloc (Nat.le_refl _) (.cells #[.int .i64 0, .int .i64 0, .int .i64 0, .int .i64 0, .int .i64 0, .int .i64 0, .int .i64 0, .int .i64 0, .int .i64 0] 24))) x hx)
  generalize ten M x = t at *
  generalize lives M x = l at *
  obtain ⟨v, r⟩ := t
  clear h hx
  go_enter Try.func23, Try.ntmps23
  go_wp2_with (first
    | (go_at_call 42; refine HN.out.mono ?_; rintro e w1 ⟨rfl, hb⟩; have HB := Lib.hid hb; clear hb)
    | (refine Line.Stop.at none (.store 24 (.tmp 4) (.tmp 14)) ?_))
  constructor
  have hg : (w1.alloc (.cells #[.int .i64 (v 0), .int .i64 (v 1), .int .i64 (v 2), .int .i64 (v 3), .int .i64 (v 4), .int .i64 (v 5), .int .i64 (v 6), .int .i64 (v 7), .int .i64 (v 8), .bool r] 78)).heap[w.heap.size]? = some (.cells #[.int .i64 0, .int .i64 0, .int .i64 0, .int .i64 0, .int .i64 0, .int .i64 0, .int .i64 0, .int .i64 0, .int .i64 0] 24 (0, 0)) := (Below.heap_alloc _ _ _ (Nat.lt_of_lt_of_le (by simp) HB.out.size)).trans ((HB.out.block _ (by simp)).trans (heap_alloc_last _ _))
  have HG := Lib.hid hg
  refine wpList_store_row rfl 24 (.tmp 4) (.tmp 14) rfl w.heap.size #[.int .i64 (v 0), .int .i64 (v 1), .int .i64 (v 2), .int .i64 (v 3), .int .i64 (v 4), .int .i64 (v 5), .int .i64 (v 6), .int .i64 (v 7), .int .i64 (v 8)] rfl rfl 24 #[.int .i64 0, .int .i64 0, .int .i64 0, .int .i64 0, .int .i64 0, .int .i64 0, .int .i64 0, .int .i64 0, .int .i64 0] hg info24 rfl (by kernel_rfl) ?_
  clear hg
  go_wp2_with fail
  refine bodyPost_ret (results_cell_row rfl _ _ w.heap.size 24 #[.int .i64 (v 0), .int .i64 (v 1), .int .i64 (v 2), .int .i64 (v 3), .int .i64 (v 4), .int .i64 (v 5), .int .i64 (v 6), .int .i64 (v 7), .int .i64 (v 8)] (0, 0) _ rfl (setRow_heap _ _ _ _ _ _ HG.out) Try.underlying24 rfl (by kernel_rfl)) rfl ?_
  exact ⟨rfl, below_row (((Below.refl _ _).alloc (Nat.le_refl _) _).trans (HB.out.mono (by simp)) |>.alloc (Nat.le_trans (by simp) HB.out.size) _) (Nat.le_refl _) _⟩
end Go.Proofs.Ytdnhmlpjohojdaa.Adm
