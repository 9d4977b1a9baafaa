/-
  admin.Put: by its contracts.
-/
import Derived.Test.YtdnhmlpjohojdaaAdmForm
import Derived.Test.YtdnhmlpjohojdaaVarint
import Derived.Deep.RegionHeld3
import Derived.WalkSpells
import Derived.Deep.DeepFit
set_option linter.unusedVariables false
set_option linter.unusedSimpArgs false
namespace Go.Proofs.Ytdnhmlpjohojdaa.Adm
open Go.RowKit Go.Proofs.Ytdnhmlpjohojdaa.Tab Go.Proofs.Ytdnhmlpjohojdaa.R Go.Proofs.YtdnhmlpjohojdaaW.PrintWords
/-- A number of 64 bits without a sign. -/
def U64 (x : Int) : Prop := 0 ≤ x ∧ x < 18446744073709551616
def numS (x : Int) : ByteArray := strOfNums (vl x.toNat)
theorem numS_size (x : Int) (h : U64 x) : (numS x).size ≤ 10 := by
  have := vl_len10 (m := x.toNat) (by have := h.1; have := h.2; omega)
  unfold numS
  simpa [strOfNums, ByteArray.size] using this
theorem PutI (x : Int) (h : U64 x) (w : World) : Calls Try.prog 26 #[.int .u64 x] w fun e w' => e = .returned (.string (numS x)) ∧ Below w.heap.size w w' := by
  obtain ⟨n, rfl⟩ := Int.eq_ofNat_of_zero_le h.1
  have := Put_ w n (by have := h.2; omega)
  unfold numS
  rw [Int.toNat_natCast]
  exact this
theorem U64_small {x : Int} (h0 : 0 ≤ x) (h1 : x ≤ 2097152) : U64 x := ⟨h0, by omega⟩
theorem cellsOf_alloc (w : World) (C : Array Value) (t : TypeId) (i : Nat) : (w.alloc (.cells C t)).cell? ⟨w.heap.size, i, none⟩ = C[i]? := World.cell?_alloc_at _ _ _ _ rfl
theorem cell_step {w w1 w2 : World} {B i : Nat} {u : Value} (hb : Below w1.heap.size w1 w2) (h : w1.cell? ⟨B, i, none⟩ = some u) : w2.cell? ⟨B, i, none⟩ = some u := pw_cell_below hb h
set_option maxRecDepth 100000 in
set_option maxHeartbeats 1000000 in
theorem Put_bad (o : Order) (h : formB o = false) (w : World) : Calls Try.prog 8 #[ordV o] w fun e w' => e = .returned (.tuple #[.string ⟨#[]⟩, .int .i64 1]) ∧ Below w.heap.size w w' := by
  have hB : Below w.heap.size w (w.alloc (.cells (cells12 o) 30)) := (Below.refl _ _).alloc (Nat.le_refl _) _
  have HB := Lib.hid hB
  have HF := Lib.hid (form_ o)
  rw [h] at HF
  clear hB h
  obtain ⟨id, op, owner, v⟩ := o
  go_enter Try.func8, Try.ntmps8
  go_wp2_with (first
    | (go_at_call 25; refine (HF.out _).mono ?_; unfold errB; rintro e w1 ⟨rfl, hb⟩))
  go_ret2
  exact ⟨rfl, HB.out.trans (hb.mono (by simp))⟩
set_option maxRecDepth 100000 in
set_option maxHeartbeats 1000000 in
theorem Put_no (o : Order) (hid : U64 o.id) (hr : inRange o) (h : ¬ (o.op = 1 ∨ o.op = 6)) (w : World) : Calls Try.prog 8 #[ordV o] w fun e w' => e = .returned (.tuple #[.string (numS o.id ++ numS o.op ++ numS o.owner), .int .i64 0]) ∧ Below w.heap.size w w' := by
  have hB : Below w.heap.size w (w.alloc (.cells (cells12 o) 30)) := (Below.refl _ _).alloc (Nat.le_refl _) _
  have HB := Lib.hid hB
  have HF := Lib.hid (form_ o)
  rw [show formB o = true from decide_eq_true ⟨hr, fun h' => absurd h' h⟩] at HF
  have HC := Lib.hid (configures_no o.op h)
  obtain ⟨h1, h2, h3, h4⟩ := hr
  have HU0 := Lib.hid hid
  have HU1 := Lib.hid (U64_small (x := o.op) (by omega) (by omega))
  have HU2 := Lib.hid (U64_small (x := o.owner) (by omega) (by omega))
  have z0 := numS_size o.id HU0.out
  have z1 := numS_size o.op HU1.out
  have z2 := numS_size o.owner HU2.out
  clear hB h hid
  obtain ⟨id, op, owner, v⟩ := o
  simp only at h1 h2 h3 h4 HU0 HU1 HU2 z0 z1 z2 HC ⊢
  have hw1 : IntKind.u64.wrap op = op := by simp [IntKind.wrap, IntKind.signed, IntKind.bits]; omega
  have hw2 : IntKind.u64.wrap owner = owner := by simp [IntKind.wrap, IntKind.signed, IntKind.bits]; omega
  go_enter Try.func8, Try.ntmps8
  go_wp2_with (first
    | (go_at_call 25; refine (HF.out _).mono ?_; unfold errB; rintro e w1 ⟨rfl, hb⟩; have q0 := cell_step (w := w) hb (cellsOf_alloc w _ _ 0); have q1 := cell_step (w := w) hb (cellsOf_alloc w _ _ 1); have q2 := cell_step (w := w) hb (cellsOf_alloc w _ _ 2); have HB1 := Lib.hid (HB.out.trans (hb.mono (by simp))); clear hb))
  have j1 : (9223372036854775807 < (numS id ++ numS op).size) = False := by rw [ByteArray.size_append]; simp; omega
  have j1' : (9223372036854775807 < (numS id).size + (numS op).size) = False := by simp; omega
  have j2 : (9223372036854775807 < (numS id ++ numS op ++ numS owner).size) = False := by rw [ByteArray.size_append, ByteArray.size_append]; simp; omega
  have j2' : (9223372036854775807 < (numS id).size + (numS op).size + (numS owner).size) = False := by simp; omega
  go_region_held3 (fun w' => w'.cell? ⟨w.heap.size, 0, none⟩ = some (.int .u64 id) ∧ w'.cell? ⟨w.heap.size, 1, none⟩ = some (.int .i64 op) ∧ w'.cell? ⟨w.heap.size, 2, none⟩ = some (.int .i64 owner)) (first | exact ⟨q0, q1, q2⟩ | go_keep)
    (first
      | (go_at_call 26; (with_reducible refine (PutI id HU0.out _).mono ?_); rintro e w2 ⟨rfl, hb2⟩; replace q0 := pw_cell_below hb2 q0; replace q1 := pw_cell_below hb2 q1; replace q2 := pw_cell_below hb2 q2)
      | (go_at_call 26; (with_reducible refine (PutI op HU1.out _).mono ?_); rintro e w3 ⟨rfl, hb3⟩; replace q0 := pw_cell_below hb3 q0; replace q1 := pw_cell_below hb3 q1; replace q2 := pw_cell_below hb3 q2)
      | (go_at_call 26; (with_reducible refine (PutI owner HU2.out _).mono ?_); rintro e w4 ⟨rfl, hb4⟩; replace q0 := pw_cell_below hb4 q0; replace q1 := pw_cell_below hb4 q1; replace q2 := pw_cell_below hb4 q2))
  have k2 : w.heap.size ≤ w2.heap.size := Nat.le_trans HB1.out.size hb2.size
  have k3 : w.heap.size ≤ w3.heap.size := Nat.le_trans k2 hb3.size
  have HB4 := Lib.hid (((HB1.out.drew.trans (hb2.mono HB1.out.size)).trans (hb3.mono k2)).trans (hb4.mono k3))
  replace q1 : w4.cell? ⟨w.heap.size, 1, none⟩ = some (.int .i64 op) := q1
  clear hb2 hb3 hb4 k2 k3 j1 j1' j2 j2' hw1 hw2 q0 q2 z0 z1 z2
  go_wp2_with (first
    | (go_at_call 27; refine (HC.out _).mono ?_; rintro e w' ⟨rfl, rfl⟩))
  go_ret2
  exact ⟨rfl, HB4.out⟩
end Go.Proofs.Ytdnhmlpjohojdaa.Adm
