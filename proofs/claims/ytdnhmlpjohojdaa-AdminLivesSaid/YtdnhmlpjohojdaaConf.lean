/-
  conf.places: a configuration's nine numbers with their bounds, as an iterator.
-/
import Derived.Test.YtdnhmlpjohojdaaLine
import Derived.Test.YtdnhmlpjohojdaaTab
import Derived.RangeFuncNested
import Derived.RangeFuncBound
import Derived.RangeFuncCalls
import Derived.RangeFuncLeaves
import Derived.Shelf.Abstract
import Derived.Shelf.RegionOpen
import Derived.WalkKit
import Derived.OwnWalkIn
import Derived.TacticsInMore
import Derived.LoopNIn
import Derived.LoopIn
import Derived.Outline
import Derived.Test.YtdnhmlpjohojdaaProg
set_option linter.unusedVariables false
set_option linter.unusedSimpArgs false
namespace Go.Proofs.Ytdnhmlpjohojdaa.Adm
open Go.RowKit Go.Shelf Go.Proofs.Ytdnhmlpjohojdaa.Tab
attribute [local go_sem] Oper.semAt_some
/-- The bounds of the number at i. -/
def least (i : Nat) : Int := if i = 0 then 1040 else 0
def most (i : Nat) : Int := if i = 4 ∨ i = 5 then 64 else if i = 6 then 16 else 1048576
def placeV (c i : Nat) : Value := .agg #[.pointer (some ⟨c, i, none⟩), .int .i64 (least i), .int .i64 (most i)]
def placeCells (c : Nat) : Array Value := #[.pointer (some ⟨c, 0, none⟩), .int .i64 1040, .int .i64 1048576, .pointer (some ⟨c, 1, none⟩), .int .i64 0, .int .i64 1048576, .pointer (some ⟨c, 2, none⟩), .int .i64 0, .int .i64 1048576,
  .pointer (some ⟨c, 3, none⟩), .int .i64 0, .int .i64 1048576, .pointer (some ⟨c, 4, none⟩), .int .i64 0, .int .i64 64, .pointer (some ⟨c, 5, none⟩), .int .i64 0, .int .i64 64, .pointer (some ⟨c, 6, none⟩), .int .i64 0, .int .i64 16,
  .pointer (some ⟨c, 7, none⟩), .int .i64 0, .int .i64 1048576, .pointer (some ⟨c, 8, none⟩), .int .i64 0, .int .i64 1048576]
def zeroCells : Array Value := #[.pointer none, .int .i64 0, .int .i64 0, .pointer none, .int .i64 0, .int .i64 0, .pointer none, .int .i64 0, .int .i64 0, .pointer none, .int .i64 0, .int .i64 0, .pointer none, .int .i64 0, .int .i64 0,
  .pointer none, .int .i64 0, .int .i64 0, .pointer none, .int .i64 0, .int .i64 0, .pointer none, .int .i64 0, .int .i64 0, .pointer none, .int .i64 0, .int .i64 0]
def four (c k i : Nat) (x y : Int) : List (Nat × Value) :=
  [(k, .pointer (some ⟨c, 0, none⟩)), (k + 1, .pointer (some ⟨c, 0, none⟩)), (k + 2, .pointer (some ⟨c, i, none⟩)), (k + 3, .agg #[.pointer (some ⟨c, i, none⟩), .int .i64 x, .int .i64 y])]
def line (c : Nat) : List (Nat × Value) :=
  four c 0 0 1040 1048576 ++ four c 4 1 0 1048576 ++ four c 8 2 0 1048576 ++ four c 12 3 0 1048576 ++ four c 16 4 0 64 ++ four c 20 5 0 64 ++ four c 24 6 0 16 ++ four c 28 7 0 1048576 ++ four c 32 8 0 1048576 ++ [(36, .agg (placeCells c))]
/-- The frame behind the nine places. -/
def frame (c : Nat) : Array Value := #[.pointer (some ⟨c, 0, none⟩), undef, .nilFunc, undef, .pointer (some ⟨c, 0, none⟩), .pointer (some ⟨c, 0, none⟩), .pointer (some ⟨c, 0, none⟩), .agg #[.pointer (some ⟨c, 0, none⟩), .int .i64 1040, .int .i64 1048576], .pointer (some ⟨c, 0, none⟩), .pointer (some ⟨c, 0, none⟩), .pointer (some ⟨c, 1, none⟩), .agg #[.pointer (some ⟨c, 1, none⟩), .int .i64 0, .int .i64 1048576], .pointer (some ⟨c, 0, none⟩), .pointer (some ⟨c, 0, none⟩), .pointer (some ⟨c, 2, none⟩), .agg #[.pointer (some ⟨c, 2, none⟩), .int .i64 0, .int .i64 1048576], .pointer (some ⟨c, 0, none⟩), .pointer (some ⟨c, 0, none⟩), .pointer (some ⟨c, 3, none⟩), .agg #[.pointer (some ⟨c, 3, none⟩), .int .i64 0, .int .i64 1048576], .pointer (some ⟨c, 0, none⟩), .pointer (some ⟨c, 0, none⟩), .pointer (some ⟨c, 4, none⟩), .agg #[.pointer (some ⟨c, 4, none⟩), .int .i64 0, .int .i64 64], .pointer (some ⟨c, 0, none⟩), .pointer (some ⟨c, 0, none⟩), .pointer (some ⟨c, 5, none⟩), .agg #[.pointer (some ⟨c, 5, none⟩), .int .i64 0, .int .i64 64], .pointer (some ⟨c, 0, none⟩), .pointer (some ⟨c, 0, none⟩), .pointer (some ⟨c, 6, none⟩), .agg #[.pointer (some ⟨c, 6, none⟩), .int .i64 0, .int .i64 16], .pointer (some ⟨c, 0, none⟩), .pointer (some ⟨c, 0, none⟩), .pointer (some ⟨c, 7, none⟩), .agg #[.pointer (some ⟨c, 7, none⟩), .int .i64 0, .int .i64 1048576], .pointer (some ⟨c, 0, none⟩), .pointer (some ⟨c, 0, none⟩), .pointer (some ⟨c, 8, none⟩), .agg #[.pointer (some ⟨c, 8, none⟩), .int .i64 0, .int .i64 1048576], .agg (placeCells c), undef]
def frame3 (w : World) (c : Nat) : Array Value := #[.pointer (some ⟨c, 0, none⟩), undef, .nilFunc, .pointer (some ⟨w.heap.size, 0, none⟩), .pointer (some ⟨c, 0, none⟩), .pointer (some ⟨c, 0, none⟩), .pointer (some ⟨c, 0, none⟩), .agg #[.pointer (some ⟨c, 0, none⟩), .int .i64 1040, .int .i64 1048576], .pointer (some ⟨c, 0, none⟩), .pointer (some ⟨c, 0, none⟩), .pointer (some ⟨c, 1, none⟩), .agg #[.pointer (some ⟨c, 1, none⟩), .int .i64 0, .int .i64 1048576], .pointer (some ⟨c, 0, none⟩), .pointer (some ⟨c, 0, none⟩), .pointer (some ⟨c, 2, none⟩), .agg #[.pointer (some ⟨c, 2, none⟩), .int .i64 0, .int .i64 1048576], .pointer (some ⟨c, 0, none⟩), .pointer (some ⟨c, 0, none⟩), .pointer (some ⟨c, 3, none⟩), .agg #[.pointer (some ⟨c, 3, none⟩), .int .i64 0, .int .i64 1048576], .pointer (some ⟨c, 0, none⟩), .pointer (some ⟨c, 0, none⟩), .pointer (some ⟨c, 4, none⟩), .agg #[.pointer (some ⟨c, 4, none⟩), .int .i64 0, .int .i64 64], .pointer (some ⟨c, 0, none⟩), .pointer (some ⟨c, 0, none⟩), .pointer (some ⟨c, 5, none⟩), .agg #[.pointer (some ⟨c, 5, none⟩), .int .i64 0, .int .i64 64], .pointer (some ⟨c, 0, none⟩), .pointer (some ⟨c, 0, none⟩), .pointer (some ⟨c, 6, none⟩), .agg #[.pointer (some ⟨c, 6, none⟩), .int .i64 0, .int .i64 16], .pointer (some ⟨c, 0, none⟩), .pointer (some ⟨c, 0, none⟩), .pointer (some ⟨c, 7, none⟩), .agg #[.pointer (some ⟨c, 7, none⟩), .int .i64 0, .int .i64 1048576], .pointer (some ⟨c, 0, none⟩), .pointer (some ⟨c, 0, none⟩), .pointer (some ⟨c, 8, none⟩), .agg #[.pointer (some ⟨c, 8, none⟩), .int .i64 0, .int .i64 1048576], .agg (placeCells c), undef]
theorem zero9 (w : World) : (zeroValue 120).run Try.prog w = .ok (.agg zeroCells) w := by kernel_rfl
set_option maxRecDepth 100000 in
set_option maxHeartbeats 4000000 in
theorem places (w : World) (c : Nat) :
    Calls Try.prog 65 #[.pointer (some ⟨c, 0, none⟩)] w fun e w' => e = .returned (.func (.func 70) #[] #[.pointer (some ⟨w.heap.size, 0, none⟩)]) ∧ w' = (w.alloc (.cells (placeCells c) 120)).drew := by
  go_enter Try.func65, Try.ntmps65
  go_wp2_with fail
  refine Line.wp_line (line c) (by kernel_rfl) (by kernel_rfl) (fun _ _ d _ _ h => by cases d <;> exact h) (by kernel_rfl) ?_ 2 (by kernel_rfl) ?_
  · unfold line four
    simp only [List.cons_append, List.nil_append]
    repeat' (first | exact trivial | refine ⟨⟨_, rfl, by kernel_rfl, fun _ => by kernel_rfl⟩, ?_⟩)
  · rw [show Line.runL _ (line c) _ = (⟨frame c, []⟩ : Act) by kernel_rfl]
    refine Line.one (i := 37) (by kernel_rfl) rfl (by kernel_rfl) (v := .pointer (some ⟨w.heap.size, 0, none⟩)) (w' := (w.alloc (.cells zeroCells 120)).drew) (by kernel_rfl) ?_
    refine Line.one_skip (i := 38) (by kernel_rfl) rfl (by kernel_rfl) (w' := (w.alloc (.cells (placeCells c) 120)).drew) ?_ ?_
    · have hs := run_storeAt_new (P := Try.prog) w.drew 120 zeroCells (placeCells c) (by kernel_rfl) rfl (by kernel_rfl)
      show (do Instr.storeAt 120 (.pointer (some ⟨w.drew.heap.size, 0, none⟩)) (.agg (placeCells c)); pure .skip : Sem Next).run Try.prog (w.drew.alloc (.cells zeroCells 120)) = _
      rw [Sem.run_bind, hs]
      rfl
    · refine wpAny_done (by kernel_rfl) ?_ 0
      show Exit.then _ _ .normal (⟨frame3 w c, []⟩ : Act) _
      simp only [Exit.then, frame3]
      rename_i hK
      refine hK _ _ ?_
      go_wp2
      go_ret
      exact ⟨rfl, rfl⟩
end Go.Proofs.Ytdnhmlpjohojdaa.Adm
