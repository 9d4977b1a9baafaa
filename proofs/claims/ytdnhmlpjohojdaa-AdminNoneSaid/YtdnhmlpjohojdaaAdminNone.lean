/-
  What a book that is not there does: AdminNone, walked.
-/
import Derived.Test.YtdnhmlpjohojdaaAwake41
import Derived.Test.YtdnhmlpjohojdaaOrdOpen
set_option linter.unusedVariables false
set_option linter.unusedSimpArgs false
namespace Go.Proofs.Ytdnhmlpjohojdaa.Adm.Bk
open Go.RowKit Go.Maps Go.WideMaps Go.Proofs.Ytdnhmlpjohojdaa.Tab Go.Proofs.Ytdnhmlpjohojdaa.Adm Go.Proofs.Ytdnhmlpjohojdaa.R
theorem ours_ (o : Order) (w : World) : Calls Try.prog 9 #[ordV o] w fun e w' => e = .returned (ordV o) ∧ Below w.heap.size w w' :=
  concourselaw41_ours.calls _ _ _ _ _ _ _ _ _ _ _ _ _ _ _ _ _ _ _ _ _ _ _ _ w rfl
set_option maxRecDepth 100000 in
set_option maxHeartbeats 2000000 in
theorem AdminNone_walk (o : Order) (w : World) : Calls Try.prog 7 #[ordV o] w fun e w' => e = .returned (.bool true) ∧ Below w.heap.size w w' := by
  have HO := Lib.hid (ours_ o)
  have HC := Lib.hid (Check_nil o)
  have HD := Lib.hid (Do_nil o)
  have HL := Lib.hid (Lives_nil o.owner)
  have HR := Lib.hid (Rests_nil o.owner)
  have HF := Lib.hid (Conf_nil o.owner)
  simp only [cells9, zeroC] at HF
  obtain ⟨id, op, owner, v⟩ := o
  have hB : Below w.heap.size w (w.alloc (.cells (cells12 ⟨id, op, owner, v⟩) 26)) := (Below.refl _ _).alloc (Nat.le_refl _) _
  have q0 := fun i => cellsOf_alloc w (cells12 ⟨id, op, owner, v⟩) 26 i
  simp only at HL HR HF
  have HB := Lib.hid hB
  clear hB
  go_enter Try.func7, Try.ntmps7
  go_wp2_with fail
  refine (HO.out _).mono ?_
  rintro e w1 ⟨rfl, hb⟩
  have q1 := fun i => (hb.cell (p := ⟨w.heap.size, i, none⟩) (by simp)).trans (q0 i)
  have HB1 := Lib.hid (HB.out.trans (hb.mono (by simp)))
  have hz1 : w.heap.size < w1.heap.size := Nat.lt_of_lt_of_le (by simp) hb.size
  clear hb q0
  go_wp2_with fail
  refine (HC.out _).mono ?_
  rintro e w2 ⟨rfl, hb⟩
  have q2 := fun i => (hb.cell (p := ⟨w.heap.size, i, none⟩) hz1).trans (q1 i)
  have HB2 := Lib.hid (HB1.out.trans (hb.mono (by omega)))
  have hz2 : w.heap.size < w2.heap.size := Nat.lt_of_lt_of_le hz1 hb.size
  clear hb q1
  go_wp2_with fail
  refine (HO.out _).mono ?_
  rintro e w3 ⟨rfl, hb⟩
  have q3 := fun i => (hb.cell (p := ⟨w.heap.size, i, none⟩) hz2).trans (q2 i)
  have HB3 := Lib.hid (HB2.out.trans (hb.mono (by omega)))
  have hz3 : w.heap.size < w3.heap.size := Nat.lt_of_lt_of_le hz2 hb.size
  clear hb q2
  go_wp2_with fail
  refine (HD.out _).mono ?_
  rintro e w4 ⟨rfl, hb⟩
  have q4 := fun i => (hb.cell (p := ⟨w.heap.size, i, none⟩) hz3).trans (q3 i)
  have HB4 := Lib.hid (HB3.out.trans (hb.mono (by omega)))
  have hz4 : w.heap.size < w4.heap.size := Nat.lt_of_lt_of_le hz3 hb.size
  clear hb q3
  go_wp2_with fail
  refine (HL.out _).mono ?_
  rintro e w5 ⟨rfl, hb⟩
  have q5 := fun i => (hb.cell (p := ⟨w.heap.size, i, none⟩) hz4).trans (q4 i)
  have HB5 := Lib.hid (HB4.out.trans (hb.mono (by omega)))
  have hz5 : w.heap.size < w5.heap.size := Nat.lt_of_lt_of_le hz4 hb.size
  clear hb q4
  go_wp2_with fail
  refine (HR.out _).mono ?_
  rintro e w6 ⟨rfl, hb⟩
  have q6 := fun i => (hb.cell (p := ⟨w.heap.size, i, none⟩) hz5).trans (q5 i)
  have HB6 := Lib.hid (HB5.out.trans (hb.mono (by omega)))
  have hz6 : w.heap.size < w6.heap.size := Nat.lt_of_lt_of_le hz5 hb.size
  clear hb q5
  go_wp2_with fail
  refine (HF.out _).mono ?_
  rintro e w7 ⟨rfl, hb⟩
  have HB7 := Lib.hid (HB6.out.trans (hb.mono (by omega)))
  clear hb q6
  go_wp2_with (first
    | (go_at_call 24; refine (All_nil _).mono ?_; rintro e w' ⟨rfl, rfl⟩)
    | (go_at_call 13; refine (awake_ _).mono ?_; rintro e w8 ⟨rfl, hb⟩; have HB8 := Lib.hid (HB7.out.trans (hb.mono HB7.out.size)); clear hb))
  go_ret
  exact ⟨rfl, HB8.out⟩
theorem AdminNone_walk' (w : World) (o : Order) (_ : Open.WfO o) : Calls Try.prog 7 #[ordV o] w fun e w' => e = .returned (.bool true) ∧ Below w.heap.size w w' := AdminNone_walk o w
end Go.Proofs.Ytdnhmlpjohojdaa.Adm.Bk
