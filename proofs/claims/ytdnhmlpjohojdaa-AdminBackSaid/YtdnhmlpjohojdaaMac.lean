/-
  Several texts of mine in one, in their order.
-/
import Derived.Test.YtdnhmlpjohojdaaProg
import Derived.Below
import Derived.Deep.Draws
import Derived.Deep.AppendLies
import Derived.Maps.AppendAt
import Derived.OwnWalk
import Derived.Laws.BytesArg
import Derived.Laws.MakeOwn
import Derived.Laws.OwnMore
import Derived.Deep.OwnRows
import Derived.Tactics
import Derived.Lib.ConvBytes
import Derived.Laws.Slices
import Derived.WalkKit
import Derived.KernelRfl
import Derived.RowKit3
import Derived.Deep.LoopGhost
import Derived.Deep.QuietTactic
import Derived.BigQuiet
import Derived.WideLaws
import Derived.Deep.DeepCutAuto
import Derived.Deep.CutBlock
import Derived.Deep.RegionHeld3
import Derived.Laws.Rows
import Derived.Lib.AppendStr
import Derived.ArgAppend
import Derived.Laws.IdiomCopy
import Derived.OrdersHeld
import Derived.Laws.BitsLemmas
import Derived.RowKit
import Derived.Test.YtdnhmlpjohojdaaWWords
import Derived.Test.YtdnhmlpjohojdaaWLast
import Derived.Test.YtdnhmlpjohojdaaWTab
import Derived.Test.YtdnhmlpjohojdaaWFour
import Derived.Test.YtdnhmlpjohojdaaWQPut
import Derived.Test.YtdnhmlpjohojdaaWApart
import Derived.Test.YtdnhmlpjohojdaaWArr
import Derived.Test.YtdnhmlpjohojdaaWZeros
import Derived.Test.YtdnhmlpjohojdaaWFoot
import Derived.Test.YtdnhmlpjohojdaaWKept
import Derived.Test.YtdnhmlpjohojdaaWShare
import Derived.Test.YtdnhmlpjohojdaaWN
import Derived.Test.YtdnhmlpjohojdaaWFootNe
import Derived.Test.YtdnhmlpjohojdaaWAt
import Derived.Test.YtdnhmlpjohojdaaWEqStruct
import Derived.Test.YtdnhmlpjohojdaaWRepsOne
import Derived.Test.YtdnhmlpjohojdaaWInv
import Derived.Test.YtdnhmlpjohojdaaWInvWords
import Derived.Test.YtdnhmlpjohojdaaWGuard
import Derived.Test.YtdnhmlpjohojdaaWNEv
import Derived.Test.YtdnhmlpjohojdaaWMore
import Derived.Maps.OwnSet
import Derived.Deep.Quiet
import Derived.WalkMore
import Derived.WalkSpells
import Derived.WalkArith
import Derived.Outline
import Derived.Lib.Hide
import Derived.Maps.RangeWalk
import Derived.Orders
import Derived.Deep.WholeRow
import Derived.StillTailTactics
import Derived.RangeFuncNested
import Derived.RangeFuncBound
import Derived.RangeFuncCalls
import Derived.RangeFuncLeaves
import Derived.Shelf.Abstract
import Derived.Shelf.RegionOpen
import Derived.OwnWalkIn
import Derived.TacticsInMore
import Derived.LoopNIn
import Derived.LoopIn
import Derived.Deep.MidRow
import Derived.Still
import Derived.StillTactics
import Derived.OrdersIn
import Derived.TacticsIn
import Derived.Deep.DeepFit
import Derived.Shelf.Strings.Builder1
import Derived.Shelf.Small.Bits
import Derived.Shelf.Small.Wraps
import Derived.Shelf.Strings.BuilderF
import Derived.Shelf.Strings.BuilderK
import Derived.Shelf.Strconv.Itoa0
import Derived.Shelf.Sort.Plain
import Derived.Shelf.Strings.BuilderCap
import Derived.Ground.Names2Prog
import Derived.Shelf.Slices.SearchI
import Derived.Shelf.Slices.In.SortNone
import Derived.Shelf.SlIterI.Nil
import Derived.Shelf.SortM.Plain
import Derived.Shelf.SortM.SortNone
import Derived.Ground.GgzProg
import Derived.Ground.SlgmProg
import Derived.Lib.Builder
import Derived.Lib.OthersKept
import Derived.Deep.Slices
import Derived.Deep.Strs
import Derived.SizedLaws
import Derived.ProofKit
import Derived.OpenShut
import Derived.ChangeArms
import Derived.Deep.DrawnRows
import Derived.Test.YtdnhmlpjohojdaaMab
set_option linter.unusedVariables false
set_option linter.unusedSimpArgs false
namespace Go.Proofs.Ytdnhmlpjohojdaa.R
open Go.RowKit Go.Proofs.YtdnhmlpjohojdaaW.PrintWords Go.Proofs.YtdnhmlpjohojdaaW.PrintLast Go.Proofs.YtdnhmlpjohojdaaW.PrintMore
attribute [local go_sem] max2_int min2_int max_two min_two max_three min_three max_four min_four   -- for this text's walks alone

/-! ### concourseref01_Put: function 30 -/
def concourseref01_Put.f : Nat → Int → Option (ByteArray)
  | 0, _ => none
  | k + 1, a0 => if a0 < 128 then ((concourseref01_Byte.f (wrap64 (a0))).bind fun t143 => (some t143)) else ((concourseref01_Byte.f (wrap64 ((wrap64 (Int.tmod a0 128)) + 128))).bind fun t144 => ((concourseref01_Put.f k (IntKind.u64.wrap (Int.tdiv a0 128))).bind fun t145 => (if t144.size + t145.size ≤ 9223372036854775807 then (some (t144 ++ t145)) else (none))))
theorem concourseref01_Put.mono_l : ∀ k, (∀ y0, LeO (concourseref01_Put.f k y0) (concourseref01_Put.f (k + 1) y0))
  | 0 => fun _ r h => by simp [concourseref01_Put.f] at h
  | k + 1 => by
    have ih0 := concourseref01_Put.mono_l k
    · intro y0
      unfold concourseref01_Put.f
      repeat' first
      | (with_reducible exact ih0 _)
      | (with_reducible exact LeO.refl _)
      | (with_reducible exact LeO.none _)
      | (with_reducible refine LeO.ite ?_ ?_)
      | (with_reducible refine LeO.bind ?_ (fun _ => ?_))
      | exact ih0 _
      | exact LeO.none _
      | refine LeO.ite ?_ ?_
      | refine LeO.bind ?_ (fun _ => ?_)
theorem concourseref01_Put.mono : ∀ a0 k, LeO (concourseref01_Put.f k a0) (concourseref01_Put.f (k + 1) a0) := by
  intro a0 k
  have ih0 := concourseref01_Put.mono_l k
  exact ih0 a0
set_option maxHeartbeats 8000000 in
set_option maxRecDepth 100000 in
theorem concourseref01_Put.calls (k : Nat) : ∀ (a0 : Int) (r : ByteArray) (w : World) (h : concourseref01_Put.f k a0 = some r),
    Calls Try.prog 30 #[.int .u64 a0] w fun e w' => e = .returned (.string r) ∧ Below w.heap.size w w' := by
  induction k using Nat.strongRecOn with
  | _ k ih =>
  intro a0 r w h
  cases k with
  | zero => exact absurd h (by simp [concourseref01_Put.f])
  | succ k =>
  simp only [concourseref01_Put.f] at h
  have HB := Aside0.mk (Below.refl w.heap.size w)
  have H : (if a0 < 128 then ((concourseref01_Byte.f (wrap64 (a0))).bind fun t143 => (some t143)) else ((concourseref01_Byte.f (wrap64 ((wrap64 (Int.tmod a0 128)) + 128))).bind fun t144 => ((concourseref01_Put.f k (IntKind.u64.wrap (Int.tdiv a0 128))).bind fun t145 => (if t144.size + t145.size ≤ 9223372036854775807 then (some (t144 ++ t145)) else (none))))) = some r := h
  clear h
  by_cases c2 : a0 < 128
  · rw [if_pos c2] at H
    have c2b0 : decide (a0 < 128) = true := decide_eq_true c2
    clear c2
    replace H := Option.bind_eq_some_iff.mp H
    obtain ⟨t143, A30, H⟩ := H
    replace H : (some t143) = some r := H
    have A3 := Aside0.mk A30
    clear A30
    obtain rfl := Option.some.inj H
    go_enter Try.func30, Try.ntmps30
    go_wp2_with (first | ((with_reducible refine gate_callee (f := 52) rfl ?_); refine goesL_ (some 7) rfl rfl Try.func52 (by kernel_rfl) rfl #[.int .i64 (wrap64 (a0))] rfl (by (try simp only [List.map_toArray, List.map_cons, List.map_nil]); first | done | rfl | (simp only [List.length_drop, List.length_take]; rfl)) ?_; (with_reducible refine (concourseref01_Byte.calls (wrap64 (a0)) t143 _ A3.out).mono ?_); rintro e w4 ⟨rfl, hb⟩; refine ⟨_, rfl, ?_⟩; have n0_ := Aside0.mk (below_step (by repeat (first | (with_reducible first | exact HB.out | apply below_alloc | apply pw_below_drewN | apply below_drew1) | exact HB.out)) hb); clear HB; have HB := n0_; clear n0_; (try clear hb); (try clear hb2); (try clear hk); (try clear hi)))
    go_ret
    exact ⟨by first | rfl | (simp [errW_none, errW_some] <;> rfl) | (simp [*, errW_none, errW_some] <;> rfl), by repeat (first | (with_reducible first | exact HB.out | apply below_alloc | apply pw_below_drewN | apply below_drew1) | exact HB.out)⟩
  · rw [if_neg c2] at H
    have c2b0 : decide (a0 < 128) = false := decide_eq_false c2
    clear c2
    replace H := Option.bind_eq_some_iff.mp H
    obtain ⟨t144, A50, H⟩ := H
    replace H : ((concourseref01_Put.f k (IntKind.u64.wrap (Int.tdiv a0 128))).bind fun t145 => (if t144.size + t145.size ≤ 9223372036854775807 then (some (t144 ++ t145)) else (none))) = some r := H
    have A5 := Aside0.mk A50
    clear A50
    replace H := Option.bind_eq_some_iff.mp H
    obtain ⟨t145, A60, H⟩ := H
    replace H : (if t144.size + t145.size ≤ 9223372036854775807 then (some (t144 ++ t145)) else (none)) = some r := H
    have A6 := Aside0.mk A60
    clear A60
    by_cases c7 : t144.size + t145.size ≤ 9223372036854775807
    · rw [if_pos c7] at H
      have c7b0 := eq_true c7
      have c7b1 : decide (t144.size + t145.size ≤ 9223372036854775807) = true := decide_eq_true c7
      try have c7b2 : (9223372036854775807 < t144.size + t145.size) = False := eq_false (Nat.not_lt.2 c7)
      obtain rfl := Option.some.inj H
      go_enter Try.func30, Try.ntmps30
      go_wp2_with (first | ((with_reducible refine gate_callee (f := 52) rfl ?_); refine goesL_ (some 12) rfl rfl Try.func52 (by kernel_rfl) rfl #[.int .i64 (wrap64 ((wrap64 (Int.tmod a0 128)) + 128))] rfl (by (try simp only [List.map_toArray, List.map_cons, List.map_nil]); first | done | rfl | (simp only [List.length_drop, List.length_take]; rfl)) ?_; (with_reducible refine (concourseref01_Byte.calls (wrap64 ((wrap64 (Int.tmod a0 128)) + 128)) t144 _ A5.out).mono ?_); rintro e w8 ⟨rfl, hb⟩; refine ⟨_, rfl, ?_⟩; have n0_ := Aside0.mk (below_step (by repeat (first | (with_reducible first | exact HB.out | apply below_alloc | apply pw_below_drewN | apply below_drew1) | exact HB.out)) hb); clear HB; have HB := n0_; clear n0_; (try clear hb); (try clear hb2); (try clear hk); (try clear hi)) | ((with_reducible refine gate_callee (f := 30) rfl ?_); refine goesL_ (some 15) rfl rfl Try.func30 (by kernel_rfl) rfl #[.int .u64 (IntKind.u64.wrap (Int.tdiv a0 128))] rfl (by (try simp only [List.map_toArray, List.map_cons, List.map_nil]); first | done | rfl | (simp only [List.length_drop, List.length_take]; rfl)) ?_; (with_reducible refine (ih k (by omega) (IntKind.u64.wrap (Int.tdiv a0 128)) t145 _ A6.out).mono ?_); rintro e w9 ⟨rfl, hb⟩; refine ⟨_, rfl, ?_⟩; have n0_ := Aside0.mk (below_step (by repeat (first | (with_reducible first | exact HB.out | apply below_alloc | apply pw_below_drewN | apply below_drew1) | exact HB.out)) hb); clear HB; have HB := n0_; clear n0_; (try clear hb); (try clear hb2); (try clear hk); (try clear hi)))
      go_ret
      exact ⟨by first | rfl | (simp [errW_none, errW_some] <;> rfl) | (simp [*, errW_none, errW_some] <;> rfl), by repeat (first | (with_reducible first | exact HB.out | apply below_alloc | apply pw_below_drewN | apply below_drew1) | exact HB.out)⟩
    · rw [if_neg c7] at H
      exact absurd H (by simp)

end Go.Proofs.Ytdnhmlpjohojdaa.R
namespace Go.Proofs.Ytdnhmlpjohojdaa.R
open Go.RowKit Go.Proofs.YtdnhmlpjohojdaaW.PrintWords Go.Proofs.YtdnhmlpjohojdaaW.PrintLast Go.Proofs.YtdnhmlpjohojdaaW.PrintMore
attribute [local go_sem] max2_int min2_int max_two min_two max_three min_three max_four min_four   -- for this text's walks alone

/-! ### concourseref37_Put: function 31 -/
def concourseref37_Put.l0 : Nat → List Int → ByteArray → Int → Option (ByteArray × Int)
  | 0, _, _, _ => none
  | k + 1, x4, x5, x6 => if x6 < (x4.length : Int) then (if 0 ≤ x6 then ((concourseref01_Put.f k (IntKind.u64.wrap (rd x4 x6))).bind fun t152 => (if x5.size + t152.size ≤ 9223372036854775807 then (concourseref37_Put.l0 k x4 (x5 ++ t152) (wrap64 (x6 + 1))) else (none))) else (none)) else (some (x5, 0))
def concourseref37_Put.f (k : Nat) (a0_0 : Int) (a0_1 : Int) (a0_2 : Int) (a0_3 : Int) (a0_4 : Int) (a0_5 : Int) (a0_6 : Int) (a0_7 : Int) (a0_8 : Int) : Option (ByteArray × Int) := (concourseref37_Check.f k a0_0 a0_1 a0_2 a0_3 a0_4 a0_5 a0_6 a0_7 a0_8).bind fun t147 => (if t147 = 0 then ((concourseref37_List.f a0_0 a0_1 a0_2 a0_3 a0_4 a0_5 a0_6 a0_7 a0_8).bind fun t148 => (concourseref37_Put.l0 k t148 (⟨#[]⟩ : ByteArray) 0)) else (some ((⟨#[]⟩ : ByteArray), 1)))
theorem concourseref37_Put.mono_l : ∀ k, (∀ y0 y1 y2, LeO (concourseref37_Put.l0 k y0 y1 y2) (concourseref37_Put.l0 (k + 1) y0 y1 y2))
  | 0 => fun _ _ _ r h => by simp [concourseref37_Put.l0] at h
  | k + 1 => by
    have ih0 := concourseref37_Put.mono_l k
    · intro y0 y1 y2
      unfold concourseref37_Put.l0
      repeat' first
      | (with_reducible exact ih0 _ _ _)
      | (with_reducible exact concourseref01_Put.mono _ _)
      | (with_reducible exact concourseref37_Check.mono _ _ _ _ _ _ _ _ _ _)
      | (with_reducible exact LeO.refl _)
      | (with_reducible exact LeO.none _)
      | (with_reducible refine LeO.ite ?_ ?_)
      | (with_reducible refine LeO.bind ?_ (fun _ => ?_))
      | exact ih0 _ _ _
      | exact concourseref01_Put.mono _ _
      | exact concourseref37_Check.mono _ _ _ _ _ _ _ _ _ _
      | exact LeO.none _
      | refine LeO.ite ?_ ?_
      | refine LeO.bind ?_ (fun _ => ?_)
theorem concourseref37_Put.mono : ∀ a0 a1 a2 a3 a4 a5 a6 a7 a8 k, LeO (concourseref37_Put.f k a0 a1 a2 a3 a4 a5 a6 a7 a8) (concourseref37_Put.f (k + 1) a0 a1 a2 a3 a4 a5 a6 a7 a8) := by
  intro a0 a1 a2 a3 a4 a5 a6 a7 a8 k
  have ih0 := concourseref37_Put.mono_l k
  unfold concourseref37_Put.f
  repeat' first
      | (with_reducible exact ih0 _ _ _)
      | (with_reducible exact concourseref01_Put.mono _ _)
      | (with_reducible exact concourseref37_Check.mono _ _ _ _ _ _ _ _ _ _)
      | (with_reducible exact LeO.refl _)
      | (with_reducible exact LeO.none _)
      | (with_reducible refine LeO.ite ?_ ?_)
      | (with_reducible refine LeO.bind ?_ (fun _ => ?_))
      | exact ih0 _ _ _
      | exact concourseref01_Put.mono _ _
      | exact concourseref37_Check.mono _ _ _ _ _ _ _ _ _ _
      | exact LeO.none _
      | refine LeO.ite ?_ ?_
      | refine LeO.bind ?_ (fun _ => ?_)
set_option maxHeartbeats 8000000 in
set_option maxRecDepth 100000 in
theorem concourseref37_Put.calls (k : Nat) (a0_0 : Int) (a0_1 : Int) (a0_2 : Int) (a0_3 : Int) (a0_4 : Int) (a0_5 : Int) (a0_6 : Int) (a0_7 : Int) (a0_8 : Int) (r1 : ByteArray) (r2 : Int) (w : World) (h : concourseref37_Put.f k a0_0 a0_1 a0_2 a0_3 a0_4 a0_5 a0_6 a0_7 a0_8 = some (r1, r2)) :
    Calls Try.prog 31 #[.agg #[.int .i64 a0_0, .int .i64 a0_1, .int .i64 a0_2, .int .i64 a0_3, .int .i64 a0_4, .int .i64 a0_5, .int .i64 a0_6, .int .i64 a0_7, .int .i64 a0_8]] w fun e w' => e = .returned (.tuple #[.string r1, .int .i64 r2]) ∧ Below w.heap.size w w' := by
  have hu24 := Try.underlying24
  have HB := Aside0.mk (Below.refl w.heap.size w)
  have H : ((concourseref37_Check.f k a0_0 a0_1 a0_2 a0_3 a0_4 a0_5 a0_6 a0_7 a0_8).bind fun t147 => (if t147 = 0 then ((concourseref37_List.f a0_0 a0_1 a0_2 a0_3 a0_4 a0_5 a0_6 a0_7 a0_8).bind fun t148 => (concourseref37_Put.l0 k t148 (⟨#[]⟩ : ByteArray) 0)) else (some ((⟨#[]⟩ : ByteArray), 1)))) = some (r1, r2) := h
  clear h
  replace H := Option.bind_eq_some_iff.mp H
  obtain ⟨t147, A20, H⟩ := H
  replace H : (if t147 = 0 then ((concourseref37_List.f a0_0 a0_1 a0_2 a0_3 a0_4 a0_5 a0_6 a0_7 a0_8).bind fun t148 => (concourseref37_Put.l0 k t148 (⟨#[]⟩ : ByteArray) 0)) else (some ((⟨#[]⟩ : ByteArray), 1))) = some (r1, r2) := H
  have A2 := Aside0.mk A20
  clear A20
  by_cases c3 : t147 = 0
  · rw [if_pos c3] at H
    have c3b0 : (t147 == 0) = true := beq_iff_eq.mpr c3
    have c3b1 : (t147 != 0) = false := bne_eq_false_iff_eq.mpr c3
    clear c3
    replace H := Option.bind_eq_some_iff.mp H
    obtain ⟨t148, A40, H⟩ := H
    replace H : (concourseref37_Put.l0 k t148 (⟨#[]⟩ : ByteArray) 0) = some (r1, r2) := H
    have A4 := Aside0.mk A40
    clear A40
    have H' := Aside0.mk H
    clear H
    go_enter Try.func31, Try.ntmps31
    go_wp2_with (first | ((with_reducible refine gate_dst (N := 1) rfl ?_); refine box_event ?hg (N := 1) ?hd (cs := #[.int .i64 a0_0, .int .i64 a0_1, .int .i64 a0_2, .int .i64 a0_3, .int .i64 a0_4, .int .i64 a0_5, .int .i64 a0_6, .int .i64 a0_7, .int .i64 a0_8]) (t := 24) ?hr ?_; (case hd => rfl); (case hg => rfl); (case hr => first | (go_simp; done) | (go_simp; rfl)); intro gb146 hg w5 hbox hb; have n0_ := Aside0.mk (below_step (by repeat (first | (with_reducible first | exact HB.out | apply below_alloc | apply pw_below_drewN | apply below_drew1) | exact HB.out)) hb); have n1_ := Aside0.mk (hbox); have n2_ := Aside0.mk ((by rw [hg]; exact (below_size (by repeat (first | (with_reducible first | exact HB.out | apply below_alloc | apply pw_below_drewN | apply below_drew1) | exact HB.out))) : w.heap.size ≤ gb146)); have n3_ := Aside0.mk ((by rw [hg]; exact (below_size (by repeat (first | (with_reducible first | exact HB.out | apply below_alloc | apply pw_below_drewN | apply below_drew1) | exact HB.out))) : w.heap.size ≤ gb146)); clear HB; have HB := n0_; have BK146 := n1_; have GW146 := n2_; have GE146 := n3_; clear n0_ n1_ n2_ n3_; clear hb hbox hg; have hcz6_0 : w5.cell? ⟨gb146, 0, none⟩ = some (.int .i64 a0_0) := (blk_cell BK146.out 0).trans rfl; have hcz6_1 : w5.cell? ⟨gb146, 1, none⟩ = some (.int .i64 a0_1) := (blk_cell BK146.out 1).trans rfl; have hcz6_2 : w5.cell? ⟨gb146, 2, none⟩ = some (.int .i64 a0_2) := (blk_cell BK146.out 2).trans rfl; have hcz6_3 : w5.cell? ⟨gb146, 3, none⟩ = some (.int .i64 a0_3) := (blk_cell BK146.out 3).trans rfl; have hcz6_4 : w5.cell? ⟨gb146, 4, none⟩ = some (.int .i64 a0_4) := (blk_cell BK146.out 4).trans rfl; have hcz6_5 : w5.cell? ⟨gb146, 5, none⟩ = some (.int .i64 a0_5) := (blk_cell BK146.out 5).trans rfl; have hcz6_6 : w5.cell? ⟨gb146, 6, none⟩ = some (.int .i64 a0_6) := (blk_cell BK146.out 6).trans rfl; have hcz6_7 : w5.cell? ⟨gb146, 7, none⟩ = some (.int .i64 a0_7) := (blk_cell BK146.out 7).trans rfl; have hcz6_8 : w5.cell? ⟨gb146, 8, none⟩ = some (.int .i64 a0_8) := (blk_cell BK146.out 8).trans rfl; have hfz6_0 := blk_frozen BK146.out 0; have hfz6_1 := blk_frozen BK146.out 1; have hfz6_2 := blk_frozen BK146.out 2; have hfz6_3 := blk_frozen BK146.out 3; have hfz6_4 := blk_frozen BK146.out 4; have hfz6_5 := blk_frozen BK146.out 5; have hfz6_6 := blk_frozen BK146.out 6; have hfz6_7 := blk_frozen BK146.out 7; have hfz6_8 := blk_frozen BK146.out 8) | ((with_reducible refine gate_callee (f := 51) rfl ?_); refine goesL_ (some 8) rfl rfl Try.func51 (by kernel_rfl) rfl #[.agg #[.int .i64 a0_0, .int .i64 a0_1, .int .i64 a0_2, .int .i64 a0_3, .int .i64 a0_4, .int .i64 a0_5, .int .i64 a0_6, .int .i64 a0_7, .int .i64 a0_8]] rfl (by (try simp only [List.map_toArray, List.map_cons, List.map_nil]); first | done | rfl | (simp only [List.length_drop, List.length_take]; rfl)) ?_; (with_reducible refine (concourseref37_Check.calls k a0_0 a0_1 a0_2 a0_3 a0_4 a0_5 a0_6 a0_7 a0_8 t147 _ A2.out).mono ?_); rintro e w7 ⟨rfl, hb⟩; refine ⟨_, rfl, ?_⟩; have n0_ := Aside0.mk (blk_below (g := gb146) (o := .cells #[.int .i64 a0_0, .int .i64 a0_1, .int .i64 a0_2, .int .i64 a0_3, .int .i64 a0_4, .int .i64 a0_5, .int .i64 a0_6, .int .i64 a0_7, .int .i64 a0_8] 24 (0, 0)) (by (with_reducible repeat (first | refine blk_drewN ?_ _ | refine blk_drew ?_ | refine blk_alloc ?_ _)); exact BK146.out) hb); have n1_ := Aside0.mk (below_step (by repeat (first | (with_reducible first | exact HB.out | apply below_alloc | apply pw_below_drewN | apply below_drew1 | refine below_set ?_ GE146.out) | exact HB.out)) hb); clear BK146; clear HB; have BK146 := n0_; have HB := n1_; clear n0_ n1_; (try clear hb); (try clear hb2); (try clear hk); (try clear hi); have hcz8_0 : w7.cell? ⟨gb146, 0, none⟩ = some (.int .i64 a0_0) := (blk_cell BK146.out 0).trans rfl; have hcz8_1 : w7.cell? ⟨gb146, 1, none⟩ = some (.int .i64 a0_1) := (blk_cell BK146.out 1).trans rfl; have hcz8_2 : w7.cell? ⟨gb146, 2, none⟩ = some (.int .i64 a0_2) := (blk_cell BK146.out 2).trans rfl; have hcz8_3 : w7.cell? ⟨gb146, 3, none⟩ = some (.int .i64 a0_3) := (blk_cell BK146.out 3).trans rfl; have hcz8_4 : w7.cell? ⟨gb146, 4, none⟩ = some (.int .i64 a0_4) := (blk_cell BK146.out 4).trans rfl; have hcz8_5 : w7.cell? ⟨gb146, 5, none⟩ = some (.int .i64 a0_5) := (blk_cell BK146.out 5).trans rfl; have hcz8_6 : w7.cell? ⟨gb146, 6, none⟩ = some (.int .i64 a0_6) := (blk_cell BK146.out 6).trans rfl; have hcz8_7 : w7.cell? ⟨gb146, 7, none⟩ = some (.int .i64 a0_7) := (blk_cell BK146.out 7).trans rfl; have hcz8_8 : w7.cell? ⟨gb146, 8, none⟩ = some (.int .i64 a0_8) := (blk_cell BK146.out 8).trans rfl; have hfz8_0 := blk_frozen BK146.out 0; have hfz8_1 := blk_frozen BK146.out 1; have hfz8_2 := blk_frozen BK146.out 2; have hfz8_3 := blk_frozen BK146.out 3; have hfz8_4 := blk_frozen BK146.out 4; have hfz8_5 := blk_frozen BK146.out 5; have hfz8_6 := blk_frozen BK146.out 6; have hfz8_7 := blk_frozen BK146.out 7; have hfz8_8 := blk_frozen BK146.out 8) | ((with_reducible refine gate_callee (f := 53) rfl ?_); refine goesL_ (some 11) rfl rfl Try.func53 (by kernel_rfl) rfl #[.agg #[.int .i64 a0_0, .int .i64 a0_1, .int .i64 a0_2, .int .i64 a0_3, .int .i64 a0_4, .int .i64 a0_5, .int .i64 a0_6, .int .i64 a0_7, .int .i64 a0_8]] rfl (by (try simp only [List.map_toArray, List.map_cons, List.map_nil]); first | done | rfl | (simp only [List.length_drop, List.length_take]; rfl)) ?_; (with_reducible refine (concourseref37_List.calls a0_0 a0_1 a0_2 a0_3 a0_4 a0_5 a0_6 a0_7 a0_8 t148 _ A4.out).mono ?_); rintro e w9 ⟨v149, rfl, ho0, hb⟩; refine ⟨_, rfl, ?_⟩; have n0_ := Aside0.mk (Kd.R_lower ho0 (below_size (by repeat (first | (with_reducible first | exact HB.out | apply below_alloc | apply pw_below_drewN | apply below_drew1 | refine below_set ?_ GE146.out) | exact HB.out)))); have n1_ := Aside0.mk (blk_below (g := gb146) (o := .cells #[.int .i64 a0_0, .int .i64 a0_1, .int .i64 a0_2, .int .i64 a0_3, .int .i64 a0_4, .int .i64 a0_5, .int .i64 a0_6, .int .i64 a0_7, .int .i64 a0_8] 24 (0, 0)) (by (with_reducible repeat (first | refine blk_drewN ?_ _ | refine blk_drew ?_ | refine blk_alloc ?_ _)); exact BK146.out) hb); have n2_ := Aside0.mk (below_step (by repeat (first | (with_reducible first | exact HB.out | apply below_alloc | apply pw_below_drewN | apply below_drew1 | refine below_set ?_ GE146.out) | exact HB.out)) hb); clear BK146; clear HB; have HO150 := n0_; have BK146 := n1_; have HB := n2_; clear n0_ n1_ n2_; (try clear hb); (try clear hb2); (try clear hk); (try clear hi); (try clear ho0)))
    go_loopg [5, 6] k (fun kq v5 v6 w' => ∃ (x5_1 : ByteArray) (x6_1 : Int), v5 = .string x5_1 ∧ v6 = .int .i64 x6_1 ∧ Aside0 (concourseref37_Put.l0 kq t148 x5_1 x6_1 = some (r1, r2)) ∧ Aside0 (kq ≤ k) ∧ Aside0 (Kd.R (Kd.int .i64) 3 w' w.heap.size (fun _ => True) v149 t148) ∧ Aside0 (w'.heap[gb146]? = some (.cells #[.int .i64 a0_0, .int .i64 a0_1, .int .i64 a0_2, .int .i64 a0_3, .int .i64 a0_4, .int .i64 a0_5, .int .i64 a0_6, .int .i64 a0_7, .int .i64 a0_8] 24 (0, 0))) ∧ Aside0 (Below w.heap.size w w'))
    case atStart => exact ⟨((⟨#[]⟩ : ByteArray)), (0), (by first | rfl | (simp; done) | (simp [*]; done)), (by first | rfl | (simp; done) | (simp [*]; done)), H', ⟨Nat.le_refl _⟩, ⟨by (with_reducible repeat (first | apply Kd.R_alloc | apply Kd.R_drewN | apply Kd.R_drew)); exact HO150.out⟩, ⟨by (with_reducible repeat (first | refine blk_drewN ?_ _ | refine blk_drew ?_ | refine blk_alloc ?_ _)); exact BK146.out⟩, ⟨by repeat (first | (with_reducible first | exact HB.out | apply below_alloc | apply pw_below_drewN | apply below_drew1 | refine below_set ?_ GE146.out) | exact HB.out)⟩⟩
    case round =>
      clear H'
      try clear p2
      try clear c3
      try clear c3b0
      try clear c3b1
      try clear c5
      try clear hcz6_0
      try clear hcz6_1
      try clear hcz6_2
      try clear hcz6_3
      try clear hcz6_4
      try clear hcz6_5
      try clear hcz6_6
      try clear hcz6_7
      try clear hcz6_8
      try clear hcz8_0
      try clear hcz8_1
      try clear hcz8_2
      try clear hcz8_3
      try clear hcz8_4
      try clear hcz8_5
      try clear hcz8_6
      try clear hcz8_7
      try clear hcz8_8
      try clear hfz6_0
      try clear hfz6_1
      try clear hfz6_2
      try clear hfz6_3
      try clear hfz6_4
      try clear hfz6_5
      try clear hfz6_6
      try clear hfz6_7
      try clear hfz6_8
      try clear hfz8_0
      try clear hfz8_1
      try clear hfz8_2
      try clear hfz8_3
      try clear hfz8_4
      try clear hfz8_5
      try clear hfz8_6
      try clear hfz8_7
      try clear hfz8_8
      obtain ⟨x5_1, x6_1, rfl, rfl, HA, HK1, HO_4, BK146, HB⟩ := hrel
      cases gk with
      | zero => exact absurd HA.out (by simp [concourseref37_Put.l0])
      | succ k1 =>
        have H := HA.out
        clear HA
        simp only [concourseref37_Put.l0] at H
        by_cases c10 : x6_1 < (t148.length : Int)
        · rw [if_pos c10] at H
          have c10b0 : decide (x6_1 < (t148.length : Int)) = true := decide_eq_true c10
          clear c10
          by_cases c11 : 0 ≤ x6_1
          · rw [if_pos c11] at H
            have c11b0 : decide (0 ≤ x6_1) = true := decide_eq_true c11
            clear c11
            replace H := Option.bind_eq_some_iff.mp H
            obtain ⟨t152, A120, H⟩ := H
            replace H : (if x5_1.size + t152.size ≤ 9223372036854775807 then (concourseref37_Put.l0 k1 t148 (x5_1 ++ t152) (wrap64 (x6_1 + 1))) else (none)) = some (r1, r2) := H
            have A12 := Aside0.mk A120
            clear A120
            by_cases c13 : x5_1.size + t152.size ≤ 9223372036854775807
            · rw [if_pos c13] at H
              have c13b0 := eq_true c13
              have c13b1 : decide (x5_1.size + t152.size ≤ 9223372036854775807) = true := decide_eq_true c13
              try have c13b2 : (9223372036854775807 < x5_1.size + t152.size) = False := eq_false (Nat.not_lt.2 c13)
              have H' := Aside0.mk H
              clear H
              obtain ⟨Ao14, co14, eo14⟩ := Kd.R_slice HO_4.out
              subst eo14
              have p151 : 0 ≤ (x6_1 : Int) := of_decide_eq_true (by first | (with_reducible assumption) | assumption)
              have q151 : x6_1 < (t148.length : Int) := of_decide_eq_true (by first | (with_reducible assumption) | assumption)
              obtain ⟨ad151, e151, hx151_0⟩ := Kd.at_int (Kd.R_reads' HO_4.out).2.2 x6_1 p151 q151
              cases e151
              replace p151 := eq_true p151
              replace q151 := eq_true q151
              go_wp2_with (first | ((with_reducible refine gate_callee (f := 30) rfl ?_); refine goesL_ (some 24) rfl rfl Try.func30 (by kernel_rfl) rfl #[.int .u64 (IntKind.u64.wrap (rd t148 x6_1))] rfl (by (try simp only [List.map_toArray, List.map_cons, List.map_nil]); first | done | rfl | (simp only [List.length_drop, List.length_take]; rfl)) ?_; (with_reducible refine (concourseref01_Put.calls k1 (IntKind.u64.wrap (rd t148 x6_1)) t152 _ A12.out).mono ?_); rintro e w15 ⟨rfl, hb⟩; refine ⟨_, rfl, ?_⟩; have n0_ := Aside0.mk (Kd.R_below (by (with_reducible repeat (first | apply Kd.R_alloc | apply Kd.R_drewN | apply Kd.R_drew)); exact HO_4.out) hb); have n1_ := Aside0.mk (blk_below (g := gb146) (o := .cells #[.int .i64 a0_0, .int .i64 a0_1, .int .i64 a0_2, .int .i64 a0_3, .int .i64 a0_4, .int .i64 a0_5, .int .i64 a0_6, .int .i64 a0_7, .int .i64 a0_8] 24 (0, 0)) (by (with_reducible repeat (first | refine blk_drewN ?_ _ | refine blk_drew ?_ | refine blk_alloc ?_ _)); exact BK146.out) hb); have n2_ := Aside0.mk (below_step (by repeat (first | (with_reducible first | exact HB.out | apply below_alloc | apply pw_below_drewN | apply below_drew1 | refine below_set ?_ GE146.out) | exact HB.out)) hb); clear HO_4; clear BK146; clear HB; have HO_4 := n0_; have BK146 := n1_; have HB := n2_; clear n0_ n1_ n2_; (try clear hb); (try clear hb2); (try clear hk); (try clear hi)))
              go_roundg k1
              case measure => have := HK1.out; omega
              case rel => exact ⟨(x5_1 ++ t152), (wrap64 (x6_1 + 1)), (by first | rfl | (simp; done) | (simp [*]; done)), (by first | rfl | (simp; done) | (simp [*]; done)), H', ⟨by have := HK1.out; omega⟩, ⟨by (with_reducible repeat (first | apply Kd.R_alloc | apply Kd.R_drewN | apply Kd.R_drew)); exact HO_4.out⟩, ⟨by (with_reducible repeat (first | refine blk_drewN ?_ _ | refine blk_drew ?_ | refine blk_alloc ?_ _)); exact BK146.out⟩, ⟨by repeat (first | (with_reducible first | exact HB.out | apply below_alloc | apply pw_below_drewN | apply below_drew1 | refine below_set ?_ GE146.out) | exact HB.out)⟩⟩
            · rw [if_neg c13] at H
              exact absurd H (by simp)
          · rw [if_neg c11] at H
            exact absurd H (by simp)
        · rw [if_neg c10] at H
          have c10b0 : decide (x6_1 < (t148.length : Int)) = false := decide_eq_false c10
          clear c10
          simp only [Option.some.injEq, Prod.mk.injEq] at H
          obtain ⟨rfl, rfl⟩ := H
          obtain ⟨Ao16, co16, eo16⟩ := Kd.R_slice HO_4.out
          subst eo16
          go_wp2
          go_ret2
          exact ⟨by first | rfl | (simp [errW_none, errW_some] <;> rfl) | (simp [*, errW_none, errW_some] <;> rfl), by repeat (first | (with_reducible first | exact HB.out | apply below_alloc | apply pw_below_drewN | apply below_drew1 | refine below_set ?_ GE146.out) | exact HB.out)⟩
  · rw [if_neg c3] at H
    have c3b0 : (t147 == 0) = false := beq_eq_false_iff_ne.mpr c3
    have c3b1 : (t147 != 0) = true := bne_iff_ne.mpr c3
    simp only [Option.some.injEq, Prod.mk.injEq] at H
    obtain ⟨rfl, rfl⟩ := H
    go_enter Try.func31, Try.ntmps31
    go_wp2_with (first | ((with_reducible refine gate_dst (N := 1) rfl ?_); refine box_event ?hg (N := 1) ?hd (cs := #[.int .i64 a0_0, .int .i64 a0_1, .int .i64 a0_2, .int .i64 a0_3, .int .i64 a0_4, .int .i64 a0_5, .int .i64 a0_6, .int .i64 a0_7, .int .i64 a0_8]) (t := 24) ?hr ?_; (case hd => rfl); (case hg => rfl); (case hr => first | (go_simp; done) | (go_simp; rfl)); intro gb146 hg w17 hbox hb; have n0_ := Aside0.mk (below_step (by repeat (first | (with_reducible first | exact HB.out | apply below_alloc | apply pw_below_drewN | apply below_drew1) | exact HB.out)) hb); have n1_ := Aside0.mk (hbox); have n2_ := Aside0.mk ((by rw [hg]; exact (below_size (by repeat (first | (with_reducible first | exact HB.out | apply below_alloc | apply pw_below_drewN | apply below_drew1) | exact HB.out))) : w.heap.size ≤ gb146)); have n3_ := Aside0.mk ((by rw [hg]; exact (below_size (by repeat (first | (with_reducible first | exact HB.out | apply below_alloc | apply pw_below_drewN | apply below_drew1) | exact HB.out))) : w.heap.size ≤ gb146)); clear HB; have HB := n0_; have BK146 := n1_; have GW146 := n2_; have GE146 := n3_; clear n0_ n1_ n2_ n3_; clear hb hbox hg; have hcz18_0 : w17.cell? ⟨gb146, 0, none⟩ = some (.int .i64 a0_0) := (blk_cell BK146.out 0).trans rfl; have hcz18_1 : w17.cell? ⟨gb146, 1, none⟩ = some (.int .i64 a0_1) := (blk_cell BK146.out 1).trans rfl; have hcz18_2 : w17.cell? ⟨gb146, 2, none⟩ = some (.int .i64 a0_2) := (blk_cell BK146.out 2).trans rfl; have hcz18_3 : w17.cell? ⟨gb146, 3, none⟩ = some (.int .i64 a0_3) := (blk_cell BK146.out 3).trans rfl; have hcz18_4 : w17.cell? ⟨gb146, 4, none⟩ = some (.int .i64 a0_4) := (blk_cell BK146.out 4).trans rfl; have hcz18_5 : w17.cell? ⟨gb146, 5, none⟩ = some (.int .i64 a0_5) := (blk_cell BK146.out 5).trans rfl; have hcz18_6 : w17.cell? ⟨gb146, 6, none⟩ = some (.int .i64 a0_6) := (blk_cell BK146.out 6).trans rfl; have hcz18_7 : w17.cell? ⟨gb146, 7, none⟩ = some (.int .i64 a0_7) := (blk_cell BK146.out 7).trans rfl; have hcz18_8 : w17.cell? ⟨gb146, 8, none⟩ = some (.int .i64 a0_8) := (blk_cell BK146.out 8).trans rfl; have hfz18_0 := blk_frozen BK146.out 0; have hfz18_1 := blk_frozen BK146.out 1; have hfz18_2 := blk_frozen BK146.out 2; have hfz18_3 := blk_frozen BK146.out 3; have hfz18_4 := blk_frozen BK146.out 4; have hfz18_5 := blk_frozen BK146.out 5; have hfz18_6 := blk_frozen BK146.out 6; have hfz18_7 := blk_frozen BK146.out 7; have hfz18_8 := blk_frozen BK146.out 8) | ((with_reducible refine gate_callee (f := 51) rfl ?_); refine goesL_ (some 8) rfl rfl Try.func51 (by kernel_rfl) rfl #[.agg #[.int .i64 a0_0, .int .i64 a0_1, .int .i64 a0_2, .int .i64 a0_3, .int .i64 a0_4, .int .i64 a0_5, .int .i64 a0_6, .int .i64 a0_7, .int .i64 a0_8]] rfl (by (try simp only [List.map_toArray, List.map_cons, List.map_nil]); first | done | rfl | (simp only [List.length_drop, List.length_take]; rfl)) ?_; (with_reducible refine (concourseref37_Check.calls k a0_0 a0_1 a0_2 a0_3 a0_4 a0_5 a0_6 a0_7 a0_8 t147 _ A2.out).mono ?_); rintro e w19 ⟨rfl, hb⟩; refine ⟨_, rfl, ?_⟩; have n0_ := Aside0.mk (blk_below (g := gb146) (o := .cells #[.int .i64 a0_0, .int .i64 a0_1, .int .i64 a0_2, .int .i64 a0_3, .int .i64 a0_4, .int .i64 a0_5, .int .i64 a0_6, .int .i64 a0_7, .int .i64 a0_8] 24 (0, 0)) (by (with_reducible repeat (first | refine blk_drewN ?_ _ | refine blk_drew ?_ | refine blk_alloc ?_ _)); exact BK146.out) hb); have n1_ := Aside0.mk (below_step (by repeat (first | (with_reducible first | exact HB.out | apply below_alloc | apply pw_below_drewN | apply below_drew1 | refine below_set ?_ GE146.out) | exact HB.out)) hb); clear BK146; clear HB; have BK146 := n0_; have HB := n1_; clear n0_ n1_; (try clear hb); (try clear hb2); (try clear hk); (try clear hi)))
    go_ret2
    exact ⟨by first | rfl | (simp [errW_none, errW_some] <;> rfl) | (simp [*, errW_none, errW_some] <;> rfl), by repeat (first | (with_reducible first | exact HB.out | apply below_alloc | apply pw_below_drewN | apply below_drew1 | refine below_set ?_ GE146.out) | exact HB.out)⟩

end Go.Proofs.Ytdnhmlpjohojdaa.R
namespace Go.Proofs.Ytdnhmlpjohojdaa.R
open Go.RowKit Go.Proofs.YtdnhmlpjohojdaaW.PrintWords Go.Proofs.YtdnhmlpjohojdaaW.PrintLast Go.Proofs.YtdnhmlpjohojdaaW.PrintMore
attribute [local go_sem] max2_int min2_int max_two min_two max_three min_three max_four min_four   -- for this text's walks alone

/-! ### concourseref41_Put: function 10 -/
def concourseref41_Put.f (k : Nat) (a0_0 : Int) (a0_1 : Int) (a0_2 : Int) (a0_3 : Int) (a0_4 : Int) (a0_5 : Int) (a0_6 : Int) (a0_7 : Int) (a0_8 : Int) (a0_9 : Int) (a0_10 : Int) (a0_11 : Int) : Option (ByteArray × Int) := (concourseref41_Form.f k a0_0 a0_1 a0_2 a0_3 a0_4 a0_5 a0_6 a0_7 a0_8 a0_9 a0_10 a0_11).bind fun t154 => (if t154 = true then ((concourseref01_Put.f k a0_0).bind fun t155 => ((concourseref01_Put.f k (IntKind.u64.wrap (a0_1))).bind fun t156 => (if t155.size + t156.size ≤ 9223372036854775807 then ((concourseref01_Put.f k (IntKind.u64.wrap (a0_2))).bind fun t157 => (if (t155 ++ t156).size + t157.size ≤ 9223372036854775807 then (if a0_1 = 1 then ((concourseref37_Put.f k a0_3 a0_4 a0_5 a0_6 a0_7 a0_8 a0_9 a0_10 a0_11).bind fun bt158 => (if ((t155 ++ t156) ++ t157).size + bt158.1.size ≤ 9223372036854775807 then (some (((t155 ++ t156) ++ t157) ++ bt158.1, 0)) else (none))) else (if a0_1 = 6 then ((concourseref37_Put.f k a0_3 a0_4 a0_5 a0_6 a0_7 a0_8 a0_9 a0_10 a0_11).bind fun bt160 => (if ((t155 ++ t156) ++ t157).size + bt160.1.size ≤ 9223372036854775807 then (some (((t155 ++ t156) ++ t157) ++ bt160.1, 0)) else (none))) else (some ((t155 ++ t156) ++ t157, 0)))) else (none))) else (none)))) else (some ((⟨#[]⟩ : ByteArray), 1)))
theorem concourseref41_Put.mono : ∀ a0 a1 a2 a3 a4 a5 a6 a7 a8 a9 a10 a11 k, LeO (concourseref41_Put.f k a0 a1 a2 a3 a4 a5 a6 a7 a8 a9 a10 a11) (concourseref41_Put.f (k + 1) a0 a1 a2 a3 a4 a5 a6 a7 a8 a9 a10 a11) := by
  intro a0 a1 a2 a3 a4 a5 a6 a7 a8 a9 a10 a11 k
  unfold concourseref41_Put.f
  repeat' first
      | (with_reducible exact concourseref01_Put.mono _ _)
      | (with_reducible exact concourseref37_Put.mono _ _ _ _ _ _ _ _ _ _)
      | (with_reducible exact concourseref41_Form.mono _ _ _ _ _ _ _ _ _ _ _ _ _)
      | (with_reducible exact LeO.refl _)
      | (with_reducible exact LeO.none _)
      | (with_reducible refine LeO.ite ?_ ?_)
      | (with_reducible refine LeO.bind ?_ (fun _ => ?_))
      | exact concourseref01_Put.mono _ _
      | exact concourseref37_Put.mono _ _ _ _ _ _ _ _ _ _
      | exact concourseref41_Form.mono _ _ _ _ _ _ _ _ _ _ _ _ _
      | exact LeO.none _
      | refine LeO.ite ?_ ?_
      | refine LeO.bind ?_ (fun _ => ?_)
def concourseref41_Put.T3 : Bool × List (List Nat × List Nat) := (true, [([], []), ([0], [0]), ([1], [1]), ([], []), ([3], [3]), ([4], [4]), ([5, 2], [5]), ([2, 6], [2, 6]), ([], []), ([8], [8]), ([9], [9]), ([10, 6], [10]), ([7, 11], [7, 11]), ([12, 11, 0, 1, 2, 3, 4, 5, 6, 7, 8, 9, 10, 11, 12], [12])])
def concourseref41_Put.B3 : List Nat := [0, 1, 3, 0, 8, 24, 63, 127, 0, 256, 768, 1919, 4095, 8191]
theorem concourseref41_Put.tab3 : rtab .any (opsOf Try.f10 3) = concourseref41_Put.T3 := by kernel_rfl
theorem concourseref41_Put.bits3 : waitsOk concourseref41_Put.T3.2 concourseref41_Put.B3 = true := by kernel_rfl
set_option maxHeartbeats 8000000 in
set_option maxRecDepth 100000 in
theorem concourseref41_Put.calls (k : Nat) (a0_0 : Int) (a0_1 : Int) (a0_2 : Int) (a0_3 : Int) (a0_4 : Int) (a0_5 : Int) (a0_6 : Int) (a0_7 : Int) (a0_8 : Int) (a0_9 : Int) (a0_10 : Int) (a0_11 : Int) (r1 : ByteArray) (r2 : Int) (w : World) (h : concourseref41_Put.f k a0_0 a0_1 a0_2 a0_3 a0_4 a0_5 a0_6 a0_7 a0_8 a0_9 a0_10 a0_11 = some (r1, r2)) :
    Calls Try.prog 10 #[.agg #[.int .u64 a0_0, .int .i64 a0_1, .int .i64 a0_2, .int .i64 a0_3, .int .i64 a0_4, .int .i64 a0_5, .int .i64 a0_6, .int .i64 a0_7, .int .i64 a0_8, .int .i64 a0_9, .int .i64 a0_10, .int .i64 a0_11]] w fun e w' => e = .returned (.tuple #[.string r1, .int .i64 r2]) ∧ Below w.heap.size w w' := by
  have hu26 := Try.underlying26
  have hu24 := Try.underlying24
  have HB := Aside0.mk (Below.refl w.heap.size w)
  have H : ((concourseref41_Form.f k a0_0 a0_1 a0_2 a0_3 a0_4 a0_5 a0_6 a0_7 a0_8 a0_9 a0_10 a0_11).bind fun t154 => (if t154 = true then ((concourseref01_Put.f k a0_0).bind fun t155 => ((concourseref01_Put.f k (IntKind.u64.wrap (a0_1))).bind fun t156 => (if t155.size + t156.size ≤ 9223372036854775807 then ((concourseref01_Put.f k (IntKind.u64.wrap (a0_2))).bind fun t157 => (if (t155 ++ t156).size + t157.size ≤ 9223372036854775807 then (if a0_1 = 1 then ((concourseref37_Put.f k a0_3 a0_4 a0_5 a0_6 a0_7 a0_8 a0_9 a0_10 a0_11).bind fun bt158 => (if ((t155 ++ t156) ++ t157).size + bt158.1.size ≤ 9223372036854775807 then (some (((t155 ++ t156) ++ t157) ++ bt158.1, 0)) else (none))) else (if a0_1 = 6 then ((concourseref37_Put.f k a0_3 a0_4 a0_5 a0_6 a0_7 a0_8 a0_9 a0_10 a0_11).bind fun bt160 => (if ((t155 ++ t156) ++ t157).size + bt160.1.size ≤ 9223372036854775807 then (some (((t155 ++ t156) ++ t157) ++ bt160.1, 0)) else (none))) else (some ((t155 ++ t156) ++ t157, 0)))) else (none))) else (none)))) else (some ((⟨#[]⟩ : ByteArray), 1)))) = some (r1, r2) := h
  clear h
  replace H := Option.bind_eq_some_iff.mp H
  obtain ⟨t154, A20, H⟩ := H
  replace H : (if t154 = true then ((concourseref01_Put.f k a0_0).bind fun t155 => ((concourseref01_Put.f k (IntKind.u64.wrap (a0_1))).bind fun t156 => (if t155.size + t156.size ≤ 9223372036854775807 then ((concourseref01_Put.f k (IntKind.u64.wrap (a0_2))).bind fun t157 => (if (t155 ++ t156).size + t157.size ≤ 9223372036854775807 then (if a0_1 = 1 then ((concourseref37_Put.f k a0_3 a0_4 a0_5 a0_6 a0_7 a0_8 a0_9 a0_10 a0_11).bind fun bt158 => (if ((t155 ++ t156) ++ t157).size + bt158.1.size ≤ 9223372036854775807 then (some (((t155 ++ t156) ++ t157) ++ bt158.1, 0)) else (none))) else (if a0_1 = 6 then ((concourseref37_Put.f k a0_3 a0_4 a0_5 a0_6 a0_7 a0_8 a0_9 a0_10 a0_11).bind fun bt160 => (if ((t155 ++ t156) ++ t157).size + bt160.1.size ≤ 9223372036854775807 then (some (((t155 ++ t156) ++ t157) ++ bt160.1, 0)) else (none))) else (some ((t155 ++ t156) ++ t157, 0)))) else (none))) else (none)))) else (some ((⟨#[]⟩ : ByteArray), 1))) = some (r1, r2) := H
  have A2 := Aside0.mk A20
  clear A20
  by_cases c3 : t154 = true
  · subst c3
    have H1 : ((concourseref01_Put.f k a0_0).bind fun t155 => ((concourseref01_Put.f k (IntKind.u64.wrap (a0_1))).bind fun t156 => (if t155.size + t156.size ≤ 9223372036854775807 then ((concourseref01_Put.f k (IntKind.u64.wrap (a0_2))).bind fun t157 => (if (t155 ++ t156).size + t157.size ≤ 9223372036854775807 then (if a0_1 = 1 then ((concourseref37_Put.f k a0_3 a0_4 a0_5 a0_6 a0_7 a0_8 a0_9 a0_10 a0_11).bind fun bt158 => (if ((t155 ++ t156) ++ t157).size + bt158.1.size ≤ 9223372036854775807 then (some (((t155 ++ t156) ++ t157) ++ bt158.1, 0)) else (none))) else (if a0_1 = 6 then ((concourseref37_Put.f k a0_3 a0_4 a0_5 a0_6 a0_7 a0_8 a0_9 a0_10 a0_11).bind fun bt160 => (if ((t155 ++ t156) ++ t157).size + bt160.1.size ≤ 9223372036854775807 then (some (((t155 ++ t156) ++ t157) ++ bt160.1, 0)) else (none))) else (some ((t155 ++ t156) ++ t157, 0)))) else (none))) else (none)))) = some (r1, r2) := by rw [if_pos rfl] at H; exact H
    clear H
    have H := H1
    clear H1
    replace H := Option.bind_eq_some_iff.mp H
    obtain ⟨t155, A40, H⟩ := H
    replace H : ((concourseref01_Put.f k (IntKind.u64.wrap (a0_1))).bind fun t156 => (if t155.size + t156.size ≤ 9223372036854775807 then ((concourseref01_Put.f k (IntKind.u64.wrap (a0_2))).bind fun t157 => (if (t155 ++ t156).size + t157.size ≤ 9223372036854775807 then (if a0_1 = 1 then ((concourseref37_Put.f k a0_3 a0_4 a0_5 a0_6 a0_7 a0_8 a0_9 a0_10 a0_11).bind fun bt158 => (if ((t155 ++ t156) ++ t157).size + bt158.1.size ≤ 9223372036854775807 then (some (((t155 ++ t156) ++ t157) ++ bt158.1, 0)) else (none))) else (if a0_1 = 6 then ((concourseref37_Put.f k a0_3 a0_4 a0_5 a0_6 a0_7 a0_8 a0_9 a0_10 a0_11).bind fun bt160 => (if ((t155 ++ t156) ++ t157).size + bt160.1.size ≤ 9223372036854775807 then (some (((t155 ++ t156) ++ t157) ++ bt160.1, 0)) else (none))) else (some ((t155 ++ t156) ++ t157, 0)))) else (none))) else (none))) = some (r1, r2) := H
    have A4 := Aside0.mk A40
    clear A40
    replace H := Option.bind_eq_some_iff.mp H
    obtain ⟨t156, A50, H⟩ := H
    replace H : (if t155.size + t156.size ≤ 9223372036854775807 then ((concourseref01_Put.f k (IntKind.u64.wrap (a0_2))).bind fun t157 => (if (t155 ++ t156).size + t157.size ≤ 9223372036854775807 then (if a0_1 = 1 then ((concourseref37_Put.f k a0_3 a0_4 a0_5 a0_6 a0_7 a0_8 a0_9 a0_10 a0_11).bind fun bt158 => (if ((t155 ++ t156) ++ t157).size + bt158.1.size ≤ 9223372036854775807 then (some (((t155 ++ t156) ++ t157) ++ bt158.1, 0)) else (none))) else (if a0_1 = 6 then ((concourseref37_Put.f k a0_3 a0_4 a0_5 a0_6 a0_7 a0_8 a0_9 a0_10 a0_11).bind fun bt160 => (if ((t155 ++ t156) ++ t157).size + bt160.1.size ≤ 9223372036854775807 then (some (((t155 ++ t156) ++ t157) ++ bt160.1, 0)) else (none))) else (some ((t155 ++ t156) ++ t157, 0)))) else (none))) else (none)) = some (r1, r2) := H
    have A5 := Aside0.mk A50
    clear A50
    by_cases c6 : t155.size + t156.size ≤ 9223372036854775807
    · rw [if_pos c6] at H
      have c6b0 := eq_true c6
      have c6b1 : decide (t155.size + t156.size ≤ 9223372036854775807) = true := decide_eq_true c6
      try have c6b2 : (9223372036854775807 < t155.size + t156.size) = False := eq_false (Nat.not_lt.2 c6)
      replace H := Option.bind_eq_some_iff.mp H
      obtain ⟨t157, A70, H⟩ := H
      replace H : (if (t155 ++ t156).size + t157.size ≤ 9223372036854775807 then (if a0_1 = 1 then ((concourseref37_Put.f k a0_3 a0_4 a0_5 a0_6 a0_7 a0_8 a0_9 a0_10 a0_11).bind fun bt158 => (if ((t155 ++ t156) ++ t157).size + bt158.1.size ≤ 9223372036854775807 then (some (((t155 ++ t156) ++ t157) ++ bt158.1, 0)) else (none))) else (if a0_1 = 6 then ((concourseref37_Put.f k a0_3 a0_4 a0_5 a0_6 a0_7 a0_8 a0_9 a0_10 a0_11).bind fun bt160 => (if ((t155 ++ t156) ++ t157).size + bt160.1.size ≤ 9223372036854775807 then (some (((t155 ++ t156) ++ t157) ++ bt160.1, 0)) else (none))) else (some ((t155 ++ t156) ++ t157, 0)))) else (none)) = some (r1, r2) := H
      have A7 := Aside0.mk A70
      clear A70
      by_cases c8 : (t155 ++ t156).size + t157.size ≤ 9223372036854775807
      · rw [if_pos c8] at H
        have c8b0 := eq_true c8
        have c8b1 : decide ((t155 ++ t156).size + t157.size ≤ 9223372036854775807) = true := decide_eq_true c8
        try have c8b2 : (9223372036854775807 < (t155 ++ t156).size + t157.size) = False := eq_false (Nat.not_lt.2 c8)
        try have c8b3 := c8b2
        try simp only [ByteArray.size_append] at c8b3
        by_cases c9 : a0_1 = 1
        · rw [if_pos c9] at H
          have c9b0 : (a0_1 == 1) = true := beq_iff_eq.mpr c9
          have c9b1 : (a0_1 != 1) = false := bne_eq_false_iff_eq.mpr c9
          clear c9
          replace H := Option.bind_eq_some_iff.mp H
          obtain ⟨⟨t158, t159⟩, A100, H⟩ := H
          replace H : (if ((t155 ++ t156) ++ t157).size + t158.size ≤ 9223372036854775807 then (some (((t155 ++ t156) ++ t157) ++ t158, 0)) else (none)) = some (r1, r2) := H
          have A10 := Aside0.mk A100
          clear A100
          by_cases c11 : ((t155 ++ t156) ++ t157).size + t158.size ≤ 9223372036854775807
          · rw [if_pos c11] at H
            have c11b0 := eq_true c11
            have c11b1 : decide (((t155 ++ t156) ++ t157).size + t158.size ≤ 9223372036854775807) = true := decide_eq_true c11
            try have c11b2 : (9223372036854775807 < ((t155 ++ t156) ++ t157).size + t158.size) = False := eq_false (Nat.not_lt.2 c11)
            try have c11b3 := c11b2
            try simp only [ByteArray.size_append] at c11b3
            simp only [Option.some.injEq, Prod.mk.injEq] at H
            obtain ⟨rfl, rfl⟩ := H
            go_enter Try.func10, Try.ntmps10
            try go_wp2_with (first | ((with_reducible refine gate_dst (N := 1) rfl ?_); refine box_event ?hg (N := 1) ?hd (cs := #[.int .u64 a0_0, .int .i64 a0_1, .int .i64 a0_2, .int .i64 a0_3, .int .i64 a0_4, .int .i64 a0_5, .int .i64 a0_6, .int .i64 a0_7, .int .i64 a0_8, .int .i64 a0_9, .int .i64 a0_10, .int .i64 a0_11]) (t := 26) ?hr ?_; (case hd => rfl); (case hg => rfl); (case hr => first | (go_simp; done) | (go_simp; rfl)); intro gb153 hg w12 hbox hb; have n0_ := Aside0.mk (below_step (by repeat (first | (with_reducible first | exact HB.out | apply below_alloc | apply pw_below_drewN | apply below_drew1) | exact HB.out)) hb); have n1_ := Aside0.mk (hbox); have n2_ := Aside0.mk ((by rw [hg]; exact (below_size (by repeat (first | (with_reducible first | exact HB.out | apply below_alloc | apply pw_below_drewN | apply below_drew1) | exact HB.out))) : w.heap.size ≤ gb153)); have n3_ := Aside0.mk ((by rw [hg]; exact (below_size (by repeat (first | (with_reducible first | exact HB.out | apply below_alloc | apply pw_below_drewN | apply below_drew1) | exact HB.out))) : w.heap.size ≤ gb153)); clear HB; have HB := n0_; have BK153 := n1_; have GW153 := n2_; have GE153 := n3_; clear n0_ n1_ n2_ n3_; clear hb hbox hg; have hcz13_0 : w12.cell? ⟨gb153, 0, none⟩ = some (.int .u64 a0_0) := (blk_cell BK153.out 0).trans rfl; have hcz13_1 : w12.cell? ⟨gb153, 1, none⟩ = some (.int .i64 a0_1) := (blk_cell BK153.out 1).trans rfl; have hcz13_2 : w12.cell? ⟨gb153, 2, none⟩ = some (.int .i64 a0_2) := (blk_cell BK153.out 2).trans rfl; have hcz13_3 : w12.cell? ⟨gb153, 3, none⟩ = some (.int .i64 a0_3) := (blk_cell BK153.out 3).trans rfl; have hcz13_4 : w12.cell? ⟨gb153, 4, none⟩ = some (.int .i64 a0_4) := (blk_cell BK153.out 4).trans rfl; have hcz13_5 : w12.cell? ⟨gb153, 5, none⟩ = some (.int .i64 a0_5) := (blk_cell BK153.out 5).trans rfl; have hcz13_6 : w12.cell? ⟨gb153, 6, none⟩ = some (.int .i64 a0_6) := (blk_cell BK153.out 6).trans rfl; have hcz13_7 : w12.cell? ⟨gb153, 7, none⟩ = some (.int .i64 a0_7) := (blk_cell BK153.out 7).trans rfl; have hcz13_8 : w12.cell? ⟨gb153, 8, none⟩ = some (.int .i64 a0_8) := (blk_cell BK153.out 8).trans rfl; have hcz13_9 : w12.cell? ⟨gb153, 9, none⟩ = some (.int .i64 a0_9) := (blk_cell BK153.out 9).trans rfl; have hcz13_10 : w12.cell? ⟨gb153, 10, none⟩ = some (.int .i64 a0_10) := (blk_cell BK153.out 10).trans rfl; have hcz13_11 : w12.cell? ⟨gb153, 11, none⟩ = some (.int .i64 a0_11) := (blk_cell BK153.out 11).trans rfl; have hfz13_0 := blk_frozen BK153.out 0; have hfz13_1 := blk_frozen BK153.out 1; have hfz13_2 := blk_frozen BK153.out 2; have hfz13_3 := blk_frozen BK153.out 3; have hfz13_4 := blk_frozen BK153.out 4; have hfz13_5 := blk_frozen BK153.out 5; have hfz13_6 := blk_frozen BK153.out 6; have hfz13_7 := blk_frozen BK153.out 7; have hfz13_8 := blk_frozen BK153.out 8; have hfz13_9 := blk_frozen BK153.out 9; have hfz13_10 := blk_frozen BK153.out 10; have hfz13_11 := blk_frozen BK153.out 11) | ((with_reducible refine gate_callee (f := 29) rfl ?_); refine goesL_ (some 8) rfl rfl Try.func29 (by kernel_rfl) rfl #[.agg #[.int .u64 a0_0, .int .i64 a0_1, .int .i64 a0_2, .int .i64 a0_3, .int .i64 a0_4, .int .i64 a0_5, .int .i64 a0_6, .int .i64 a0_7, .int .i64 a0_8, .int .i64 a0_9, .int .i64 a0_10, .int .i64 a0_11]] rfl (by (try simp only [List.map_toArray, List.map_cons, List.map_nil]); first | done | rfl | (simp only [List.length_drop, List.length_take]; rfl)) ?_; (with_reducible refine (concourseref41_Form.calls k a0_0 a0_1 a0_2 a0_3 a0_4 a0_5 a0_6 a0_7 a0_8 a0_9 a0_10 a0_11 true _ A2.out).mono ?_); rintro e w14 ⟨rfl, hb⟩; refine ⟨_, rfl, ?_⟩; have n0_ := Aside0.mk (blk_below (g := gb153) (o := .cells #[.int .u64 a0_0, .int .i64 a0_1, .int .i64 a0_2, .int .i64 a0_3, .int .i64 a0_4, .int .i64 a0_5, .int .i64 a0_6, .int .i64 a0_7, .int .i64 a0_8, .int .i64 a0_9, .int .i64 a0_10, .int .i64 a0_11] 26 (0, 0)) (by (with_reducible repeat (first | refine blk_drewN ?_ _ | refine blk_drew ?_ | refine blk_alloc ?_ _)); exact BK153.out) hb); have n1_ := Aside0.mk (below_step (by repeat (first | (with_reducible first | exact HB.out | apply below_alloc | apply pw_below_drewN | apply below_drew1 | refine below_set ?_ GE153.out) | exact HB.out)) hb); clear BK153; clear HB; have BK153 := n0_; have HB := n1_; clear n0_ n1_; (try clear hb); (try clear hb2); (try clear hk); (try clear hi)))
            have n0_ := Aside0.mk (blk_drew BK153.out)
            have n1_ := Aside0.mk (below_drew1 HB.out)
            clear BK153
            clear HB
            have BK153 := n0_
            have HB := n1_
            clear n0_ n1_
            refine start_ (n := 14) (S := fun w' => w'.cell? ⟨gb153, 0, none⟩ = some (.int .u64 a0_0) ∧ w'.cell? ⟨gb153, 1, none⟩ = some (.int .i64 a0_1) ∧ w'.cell? ⟨gb153, 2, none⟩ = some (.int .i64 a0_2) ∧ w'.cell? ⟨gb153, 3, none⟩ = some (.int .i64 a0_3) ∧ w'.cell? ⟨gb153, 4, none⟩ = some (.int .i64 a0_4) ∧ w'.cell? ⟨gb153, 5, none⟩ = some (.int .i64 a0_5) ∧ w'.cell? ⟨gb153, 6, none⟩ = some (.int .i64 a0_6) ∧ w'.cell? ⟨gb153, 7, none⟩ = some (.int .i64 a0_7) ∧ w'.cell? ⟨gb153, 8, none⟩ = some (.int .i64 a0_8) ∧ w'.cell? ⟨gb153, 9, none⟩ = some (.int .i64 a0_9) ∧ w'.cell? ⟨gb153, 10, none⟩ = some (.int .i64 a0_10) ∧ w'.cell? ⟨gb153, 11, none⟩ = some (.int .i64 a0_11)) (ds := []) #[false, false, false, false, false, false, false, false, false, false, false, false, false, false] (by kernel_rfl) rfl rfl ⟨(blk_cell BK153.out 0).trans rfl, (blk_cell BK153.out 1).trans rfl, (blk_cell BK153.out 2).trans rfl, (blk_cell BK153.out 3).trans rfl, (blk_cell BK153.out 4).trans rfl, (blk_cell BK153.out 5).trans rfl, (blk_cell BK153.out 6).trans rfl, (blk_cell BK153.out 7).trans rfl, (blk_cell BK153.out 8).trans rfl, (blk_cell BK153.out 9).trans rfl, (blk_cell BK153.out 10).trans rfl, (blk_cell BK153.out 11).trans rfl⟩ (fun hHeld => ?_); refine with_tabW concourseref41_Put.tab3 concourseref41_Put.bits3 (fun HT_ HW_ => ?_)
            generalize w14.drew = w15 at BK153 HB hHeld ⊢
            refine pure_ (i := 0) (N := some 10) (v := ?_) (a' := ?_) #[true, false, false, false, false, false, false, false, false, false, false, false, false, false] rfl rfl (any_of HT_.out (by kernel_rfl)) (fun _ _ _ h => h) (Or.inl ⟨by rfl, ?_⟩) ?_ ?_
            rotate_left
            · intro w'
              go_simp
              with_reducible rfl
            rotate_left
            · simp only [Act.put, List.setIfInBounds_toArray, List.set_cons_zero, List.set_cons_succ, i64_w, i32_w]
              rfl
            refine pure_ (i := 3) (N := some 13) (v := ?_) (a' := ?_) #[true, false, false, true, false, false, false, false, false, false, false, false, false, false] rfl rfl (any_of HT_.out (by kernel_rfl)) (fun _ _ _ h => h) (Or.inl ⟨by rfl, ?_⟩) ?_ ?_
            rotate_left
            · intro w'
              go_simp
              with_reducible rfl
            rotate_left
            · simp only [Act.put, List.setIfInBounds_toArray, List.set_cons_zero, List.set_cons_succ, i64_w, i32_w]
              rfl
            refine pure_ (i := 8) (N := some 18) (v := ?_) (a' := ?_) #[true, false, false, true, false, false, false, false, true, false, false, false, false, false] rfl rfl (any_of HT_.out (by kernel_rfl)) (fun _ _ _ h => h) (Or.inl ⟨by rfl, ?_⟩) ?_ ?_
            rotate_left
            · intro w'
              go_simp
              with_reducible rfl
            rotate_left
            · simp only [Act.put, List.setIfInBounds_toArray, List.set_cons_zero, List.set_cons_succ, i64_w, i32_w]
              rfl
            refine take_ (i := 1) (N := some 11) (v := ?_) (a' := ?_) #[true, true, false, true, false, false, false, false, true, false, false, false, false, false] rfl rfl (take_ofW HT_.out HW_.out (by kernel_rfl)) (fun _ _ _ h => h) (Or.inl ⟨by rfl, ?_⟩) hHeld ?_ ?_
            rotate_left
            · rintro w' ⟨s0, s1, s2, s3, s4, s5, s6, s7, s8, s9, s10, s11⟩
              go_simp
              with_reducible rfl
            rotate_left
            · simp only [Act.put, List.setIfInBounds_toArray, List.set_cons_zero, List.set_cons_succ, i64_w, i32_w]
              rfl
            refine take_ (i := 4) (N := some 14) (v := ?_) (a' := ?_) #[true, true, false, true, true, false, false, false, true, false, false, false, false, false] rfl rfl (take_ofW HT_.out HW_.out (by kernel_rfl)) (fun _ _ _ h => h) (Or.inl ⟨by rfl, ?_⟩) hHeld ?_ ?_
            rotate_left
            · rintro w' ⟨s0, s1, s2, s3, s4, s5, s6, s7, s8, s9, s10, s11⟩
              go_simp
              with_reducible rfl
            rotate_left
            · simp only [Act.put, List.setIfInBounds_toArray, List.set_cons_zero, List.set_cons_succ, i64_w, i32_w]
              rfl
            refine pure_ (i := 5) (N := some 15) (v := ?_) (a' := ?_) #[true, true, false, true, true, true, false, false, true, false, false, false, false, false] rfl rfl (any_of HT_.out (by kernel_rfl)) (fun _ _ _ h => h) (Or.inl ⟨by rfl, ?_⟩) ?_ ?_
            rotate_left
            · intro w'
              go_simp
              with_reducible rfl
            rotate_left
            · simp only [Act.put, List.setIfInBounds_toArray, List.set_cons_zero, List.set_cons_succ, i64_w, i32_w]
              rfl
            refine take_ (i := 9) (N := some 19) (v := ?_) (a' := ?_) #[true, true, false, true, true, true, false, false, true, true, false, false, false, false] rfl rfl (take_ofW HT_.out HW_.out (by kernel_rfl)) (fun _ _ _ h => h) (Or.inl ⟨by rfl, ?_⟩) hHeld ?_ ?_
            rotate_left
            · rintro w' ⟨s0, s1, s2, s3, s4, s5, s6, s7, s8, s9, s10, s11⟩
              go_simp
              with_reducible rfl
            rotate_left
            · simp only [Act.put, List.setIfInBounds_toArray, List.set_cons_zero, List.set_cons_succ, i64_w, i32_w]
              rfl
            refine pure_ (i := 10) (N := some 20) (v := ?_) (a' := ?_) #[true, true, false, true, true, true, false, false, true, true, true, false, false, false] rfl rfl (any_of HT_.out (by kernel_rfl)) (fun _ _ _ h => h) (Or.inl ⟨by rfl, ?_⟩) ?_ ?_
            rotate_left
            · intro w'
              go_simp
              with_reducible rfl
            rotate_left
            · simp only [Act.put, List.setIfInBounds_toArray, List.set_cons_zero, List.set_cons_succ, i64_w, i32_w]
              rfl
            refine one_ (i := 2) (N := some 12) #[true, true, true, true, true, true, false, false, true, true, true, false, false, false] rfl rfl (one_of HT_.out (by kernel_rfl)) (by decide) (fun K hK => ?_)
            refine goes_ Try.func30 (by kernel_rfl) rfl #[.int .u64 a0_0] (by rfl) rfl rfl (by (try simp only [List.map_toArray, List.map_cons, List.map_nil]); first | done | rfl | (simp only [List.length_drop, List.length_take]; rfl)) ?_
            with_reducible refine (concourseref01_Put.calls k a0_0 t155 _ A4.out).mono ?_
            rintro e w16 ⟨rfl, hb⟩
            refine ⟨_, rfl, ?_⟩
            have n0_ := Aside0.mk (blk_below (g := gb153) (o := .cells #[.int .u64 a0_0, .int .i64 a0_1, .int .i64 a0_2, .int .i64 a0_3, .int .i64 a0_4, .int .i64 a0_5, .int .i64 a0_6, .int .i64 a0_7, .int .i64 a0_8, .int .i64 a0_9, .int .i64 a0_10, .int .i64 a0_11] 26 (0, 0)) (by (with_reducible repeat (first | refine blk_drewN ?_ _ | refine blk_drew ?_ | refine blk_alloc ?_ _)); exact BK153.out) hb)
            have n1_ := Aside0.mk (below_step (by repeat (first | (with_reducible first | exact HB.out | apply below_alloc | apply pw_below_drewN | apply below_drew1 | refine below_set ?_ GE153.out) | exact HB.out)) hb)
            clear BK153
            clear HB
            have BK153 := n0_
            have HB := n1_
            clear n0_ n1_
            (try clear hb)
            (try clear hb2)
            (try clear hk)
            (try clear hi)
            refine hK.out _ _ ⟨(blk_cell BK153.out 0).trans rfl, (blk_cell BK153.out 1).trans rfl, (blk_cell BK153.out 2).trans rfl, (blk_cell BK153.out 3).trans rfl, (blk_cell BK153.out 4).trans rfl, (blk_cell BK153.out 5).trans rfl, (blk_cell BK153.out 6).trans rfl, (blk_cell BK153.out 7).trans rfl, (blk_cell BK153.out 8).trans rfl, (blk_cell BK153.out 9).trans rfl, (blk_cell BK153.out 10).trans rfl, (blk_cell BK153.out 11).trans rfl⟩ (fun hHeld => ?_)
            clear hK K
            refine norm_ (a' := ?_) ?_ ?_
            rotate_left
            · show Act.put _ (some 12) _ = _
              simp only [Act.put, List.setIfInBounds_toArray, List.set_cons_zero, List.set_cons_succ, i64_w, i32_w]
              rfl
            refine one_ (i := 6) (N := some 16) #[true, true, true, true, true, true, true, false, true, true, true, false, false, false] rfl rfl (one_of HT_.out (by kernel_rfl)) (by decide) (fun K hK => ?_)
            refine goes_ Try.func30 (by kernel_rfl) rfl #[.int .u64 (IntKind.u64.wrap (a0_1))] (by rfl) rfl rfl (by (try simp only [List.map_toArray, List.map_cons, List.map_nil]); first | done | rfl | (simp only [List.length_drop, List.length_take]; rfl)) ?_
            with_reducible refine (concourseref01_Put.calls k (IntKind.u64.wrap (a0_1)) t156 _ A5.out).mono ?_
            rintro e w17 ⟨rfl, hb⟩
            refine ⟨_, rfl, ?_⟩
            have n0_ := Aside0.mk (blk_below (g := gb153) (o := .cells #[.int .u64 a0_0, .int .i64 a0_1, .int .i64 a0_2, .int .i64 a0_3, .int .i64 a0_4, .int .i64 a0_5, .int .i64 a0_6, .int .i64 a0_7, .int .i64 a0_8, .int .i64 a0_9, .int .i64 a0_10, .int .i64 a0_11] 26 (0, 0)) (by (with_reducible repeat (first | refine blk_drewN ?_ _ | refine blk_drew ?_ | refine blk_alloc ?_ _)); exact BK153.out) hb)
            have n1_ := Aside0.mk (below_step (by repeat (first | (with_reducible first | exact HB.out | apply below_alloc | apply pw_below_drewN | apply below_drew1 | refine below_set ?_ GE153.out) | exact HB.out)) hb)
            clear BK153
            clear HB
            have BK153 := n0_
            have HB := n1_
            clear n0_ n1_
            (try clear hb)
            (try clear hb2)
            (try clear hk)
            (try clear hi)
            refine hK.out _ _ ⟨(blk_cell BK153.out 0).trans rfl, (blk_cell BK153.out 1).trans rfl, (blk_cell BK153.out 2).trans rfl, (blk_cell BK153.out 3).trans rfl, (blk_cell BK153.out 4).trans rfl, (blk_cell BK153.out 5).trans rfl, (blk_cell BK153.out 6).trans rfl, (blk_cell BK153.out 7).trans rfl, (blk_cell BK153.out 8).trans rfl, (blk_cell BK153.out 9).trans rfl, (blk_cell BK153.out 10).trans rfl, (blk_cell BK153.out 11).trans rfl⟩ (fun hHeld => ?_)
            clear hK K
            refine norm_ (a' := ?_) ?_ ?_
            rotate_left
            · show Act.put _ (some 16) _ = _
              simp only [Act.put, List.setIfInBounds_toArray, List.set_cons_zero, List.set_cons_succ, i64_w, i32_w]
              rfl
            refine pure_ (i := 7) (N := some 17) (v := ?_) (a' := ?_) #[true, true, true, true, true, true, true, true, true, true, true, false, false, false] rfl rfl (any_of HT_.out (by kernel_rfl)) (fun _ _ _ h => h) (Or.inl ⟨by rfl, ?_⟩) ?_ ?_
            rotate_left
            · intro w'
              go_simp
              with_reducible rfl
            rotate_left
            · simp only [Act.put, List.setIfInBounds_toArray, List.set_cons_zero, List.set_cons_succ, i64_w, i32_w]
              rfl
            refine one_ (i := 11) (N := some 21) #[true, true, true, true, true, true, true, true, true, true, true, true, false, false] rfl rfl (one_of HT_.out (by kernel_rfl)) (by decide) (fun K hK => ?_)
            refine goes_ Try.func30 (by kernel_rfl) rfl #[.int .u64 (IntKind.u64.wrap (a0_2))] (by rfl) rfl rfl (by (try simp only [List.map_toArray, List.map_cons, List.map_nil]); first | done | rfl | (simp only [List.length_drop, List.length_take]; rfl)) ?_
            with_reducible refine (concourseref01_Put.calls k (IntKind.u64.wrap (a0_2)) t157 _ A7.out).mono ?_
            rintro e w18 ⟨rfl, hb⟩
            refine ⟨_, rfl, ?_⟩
            have n0_ := Aside0.mk (blk_below (g := gb153) (o := .cells #[.int .u64 a0_0, .int .i64 a0_1, .int .i64 a0_2, .int .i64 a0_3, .int .i64 a0_4, .int .i64 a0_5, .int .i64 a0_6, .int .i64 a0_7, .int .i64 a0_8, .int .i64 a0_9, .int .i64 a0_10, .int .i64 a0_11] 26 (0, 0)) (by (with_reducible repeat (first | refine blk_drewN ?_ _ | refine blk_drew ?_ | refine blk_alloc ?_ _)); exact BK153.out) hb)
            have n1_ := Aside0.mk (below_step (by repeat (first | (with_reducible first | exact HB.out | apply below_alloc | apply pw_below_drewN | apply below_drew1 | refine below_set ?_ GE153.out) | exact HB.out)) hb)
            clear BK153
            clear HB
            have BK153 := n0_
            have HB := n1_
            clear n0_ n1_
            (try clear hb)
            (try clear hb2)
            (try clear hk)
            (try clear hi)
            refine hK.out _ _ ⟨(blk_cell BK153.out 0).trans rfl, (blk_cell BK153.out 1).trans rfl, (blk_cell BK153.out 2).trans rfl, (blk_cell BK153.out 3).trans rfl, (blk_cell BK153.out 4).trans rfl, (blk_cell BK153.out 5).trans rfl, (blk_cell BK153.out 6).trans rfl, (blk_cell BK153.out 7).trans rfl, (blk_cell BK153.out 8).trans rfl, (blk_cell BK153.out 9).trans rfl, (blk_cell BK153.out 10).trans rfl, (blk_cell BK153.out 11).trans rfl⟩ (fun hHeld => ?_)
            clear hK K
            refine norm_ (a' := ?_) ?_ ?_
            rotate_left
            · show Act.put _ (some 21) _ = _
              simp only [Act.put, List.setIfInBounds_toArray, List.set_cons_zero, List.set_cons_succ, i64_w, i32_w]
              rfl
            refine pure_ (i := 12) (N := some 22) (v := ?_) (a' := ?_) #[true, true, true, true, true, true, true, true, true, true, true, true, true, false] rfl rfl (any_of HT_.out (by kernel_rfl)) (fun _ _ _ h => h) (Or.inl ⟨by rfl, ?_⟩) ?_ ?_
            rotate_left
            · intro w'
              go_simp
              with_reducible rfl
            rotate_left
            · simp only [Act.put, List.setIfInBounds_toArray, List.set_cons_zero, List.set_cons_succ, i64_w, i32_w]
              rfl
            refine pure_ (i := 13) (N := some 4) (v := ?_) (a' := ?_) #[true, true, true, true, true, true, true, true, true, true, true, true, true, true] rfl rfl (any_of HT_.out (by kernel_rfl)) (fun _ _ _ h => h) (Or.inl ⟨by rfl, ?_⟩) ?_ ?_
            rotate_left
            · intro w'
              go_simp
              with_reducible rfl
            rotate_left
            · simp only [Act.put, List.setIfInBounds_toArray, List.set_cons_zero, List.set_cons_succ, i64_w, i32_w]
              rfl
            refine done_ (done_of HT_.out (by kernel_rfl)) ?_
            have hcz19_0 : w18.cell? ⟨gb153, 0, none⟩ = some (.int .u64 a0_0) := (blk_cell BK153.out 0).trans rfl
            have hcz19_1 : w18.cell? ⟨gb153, 1, none⟩ = some (.int .i64 a0_1) := (blk_cell BK153.out 1).trans rfl
            have hcz19_2 : w18.cell? ⟨gb153, 2, none⟩ = some (.int .i64 a0_2) := (blk_cell BK153.out 2).trans rfl
            have hcz19_3 : w18.cell? ⟨gb153, 3, none⟩ = some (.int .i64 a0_3) := (blk_cell BK153.out 3).trans rfl
            have hcz19_4 : w18.cell? ⟨gb153, 4, none⟩ = some (.int .i64 a0_4) := (blk_cell BK153.out 4).trans rfl
            have hcz19_5 : w18.cell? ⟨gb153, 5, none⟩ = some (.int .i64 a0_5) := (blk_cell BK153.out 5).trans rfl
            have hcz19_6 : w18.cell? ⟨gb153, 6, none⟩ = some (.int .i64 a0_6) := (blk_cell BK153.out 6).trans rfl
            have hcz19_7 : w18.cell? ⟨gb153, 7, none⟩ = some (.int .i64 a0_7) := (blk_cell BK153.out 7).trans rfl
            have hcz19_8 : w18.cell? ⟨gb153, 8, none⟩ = some (.int .i64 a0_8) := (blk_cell BK153.out 8).trans rfl
            have hcz19_9 : w18.cell? ⟨gb153, 9, none⟩ = some (.int .i64 a0_9) := (blk_cell BK153.out 9).trans rfl
            have hcz19_10 : w18.cell? ⟨gb153, 10, none⟩ = some (.int .i64 a0_10) := (blk_cell BK153.out 10).trans rfl
            have hcz19_11 : w18.cell? ⟨gb153, 11, none⟩ = some (.int .i64 a0_11) := (blk_cell BK153.out 11).trans rfl
            have hfz19_0 := blk_frozen BK153.out 0
            have hfz19_1 := blk_frozen BK153.out 1
            have hfz19_2 := blk_frozen BK153.out 2
            have hfz19_3 := blk_frozen BK153.out 3
            have hfz19_4 := blk_frozen BK153.out 4
            have hfz19_5 := blk_frozen BK153.out 5
            have hfz19_6 := blk_frozen BK153.out 6
            have hfz19_7 := blk_frozen BK153.out 7
            have hfz19_8 := blk_frozen BK153.out 8
            have hfz19_9 := blk_frozen BK153.out 9
            have hfz19_10 := blk_frozen BK153.out 10
            have hfz19_11 := blk_frozen BK153.out 11
            try go_wp2_with (first | ((with_reducible refine gate_callee (f := 31) rfl ?_); refine goesL_ (some 34) rfl rfl Try.func31 (by kernel_rfl) rfl #[.agg #[.int .i64 a0_3, .int .i64 a0_4, .int .i64 a0_5, .int .i64 a0_6, .int .i64 a0_7, .int .i64 a0_8, .int .i64 a0_9, .int .i64 a0_10, .int .i64 a0_11]] rfl (by (try simp only [List.map_toArray, List.map_cons, List.map_nil]); first | done | rfl | (simp only [List.length_drop, List.length_take]; rfl)) ?_; (with_reducible refine (concourseref37_Put.calls k a0_3 a0_4 a0_5 a0_6 a0_7 a0_8 a0_9 a0_10 a0_11 t158 t159 _ A10.out).mono ?_); rintro e w20 ⟨rfl, hb⟩; refine ⟨_, rfl, ?_⟩; have n0_ := Aside0.mk (blk_below (g := gb153) (o := .cells #[.int .u64 a0_0, .int .i64 a0_1, .int .i64 a0_2, .int .i64 a0_3, .int .i64 a0_4, .int .i64 a0_5, .int .i64 a0_6, .int .i64 a0_7, .int .i64 a0_8, .int .i64 a0_9, .int .i64 a0_10, .int .i64 a0_11] 26 (0, 0)) (by (with_reducible repeat (first | refine blk_drewN ?_ _ | refine blk_drew ?_ | refine blk_alloc ?_ _)); exact BK153.out) hb); have n1_ := Aside0.mk (below_step (by repeat (first | (with_reducible first | exact HB.out | apply below_alloc | apply pw_below_drewN | apply below_drew1 | refine below_set ?_ GE153.out) | exact HB.out)) hb); clear BK153; clear HB; have BK153 := n0_; have HB := n1_; clear n0_ n1_; (try clear hb); (try clear hb2); (try clear hk); (try clear hi)))
            go_ret2
            exact ⟨by first | rfl | (simp [errW_none, errW_some] <;> rfl) | (simp [*, errW_none, errW_some] <;> rfl), by repeat (first | (with_reducible first | exact HB.out | apply below_alloc | apply pw_below_drewN | apply below_drew1 | refine below_set ?_ GE153.out) | exact HB.out)⟩
          · rw [if_neg c11] at H
            exact absurd H (by simp)
        · rw [if_neg c9] at H
          have c9b0 : (a0_1 == 1) = false := beq_eq_false_iff_ne.mpr c9
          have c9b1 : (a0_1 != 1) = true := bne_iff_ne.mpr c9
          by_cases c21 : a0_1 = 6
          · rw [if_pos c21] at H
            have c21b0 : (a0_1 == 6) = true := beq_iff_eq.mpr c21
            have c21b1 : (a0_1 != 6) = false := bne_eq_false_iff_eq.mpr c21
            clear c21
            replace H := Option.bind_eq_some_iff.mp H
            obtain ⟨⟨t160, t161⟩, A220, H⟩ := H
            replace H : (if ((t155 ++ t156) ++ t157).size + t160.size ≤ 9223372036854775807 then (some (((t155 ++ t156) ++ t157) ++ t160, 0)) else (none)) = some (r1, r2) := H
            have A22 := Aside0.mk A220
            clear A220
            by_cases c23 : ((t155 ++ t156) ++ t157).size + t160.size ≤ 9223372036854775807
            · rw [if_pos c23] at H
              have c23b0 := eq_true c23
              have c23b1 : decide (((t155 ++ t156) ++ t157).size + t160.size ≤ 9223372036854775807) = true := decide_eq_true c23
              try have c23b2 : (9223372036854775807 < ((t155 ++ t156) ++ t157).size + t160.size) = False := eq_false (Nat.not_lt.2 c23)
              try have c23b3 := c23b2
              try simp only [ByteArray.size_append] at c23b3
              simp only [Option.some.injEq, Prod.mk.injEq] at H
              obtain ⟨rfl, rfl⟩ := H
              go_enter Try.func10, Try.ntmps10
              try go_wp2_with (first | ((with_reducible refine gate_dst (N := 1) rfl ?_); refine box_event ?hg (N := 1) ?hd (cs := #[.int .u64 a0_0, .int .i64 a0_1, .int .i64 a0_2, .int .i64 a0_3, .int .i64 a0_4, .int .i64 a0_5, .int .i64 a0_6, .int .i64 a0_7, .int .i64 a0_8, .int .i64 a0_9, .int .i64 a0_10, .int .i64 a0_11]) (t := 26) ?hr ?_; (case hd => rfl); (case hg => rfl); (case hr => first | (go_simp; done) | (go_simp; rfl)); intro gb153 hg w24 hbox hb; have n0_ := Aside0.mk (below_step (by repeat (first | (with_reducible first | exact HB.out | apply below_alloc | apply pw_below_drewN | apply below_drew1) | exact HB.out)) hb); have n1_ := Aside0.mk (hbox); have n2_ := Aside0.mk ((by rw [hg]; exact (below_size (by repeat (first | (with_reducible first | exact HB.out | apply below_alloc | apply pw_below_drewN | apply below_drew1) | exact HB.out))) : w.heap.size ≤ gb153)); have n3_ := Aside0.mk ((by rw [hg]; exact (below_size (by repeat (first | (with_reducible first | exact HB.out | apply below_alloc | apply pw_below_drewN | apply below_drew1) | exact HB.out))) : w.heap.size ≤ gb153)); clear HB; have HB := n0_; have BK153 := n1_; have GW153 := n2_; have GE153 := n3_; clear n0_ n1_ n2_ n3_; clear hb hbox hg; have hcz25_0 : w24.cell? ⟨gb153, 0, none⟩ = some (.int .u64 a0_0) := (blk_cell BK153.out 0).trans rfl; have hcz25_1 : w24.cell? ⟨gb153, 1, none⟩ = some (.int .i64 a0_1) := (blk_cell BK153.out 1).trans rfl; have hcz25_2 : w24.cell? ⟨gb153, 2, none⟩ = some (.int .i64 a0_2) := (blk_cell BK153.out 2).trans rfl; have hcz25_3 : w24.cell? ⟨gb153, 3, none⟩ = some (.int .i64 a0_3) := (blk_cell BK153.out 3).trans rfl; have hcz25_4 : w24.cell? ⟨gb153, 4, none⟩ = some (.int .i64 a0_4) := (blk_cell BK153.out 4).trans rfl; have hcz25_5 : w24.cell? ⟨gb153, 5, none⟩ = some (.int .i64 a0_5) := (blk_cell BK153.out 5).trans rfl; have hcz25_6 : w24.cell? ⟨gb153, 6, none⟩ = some (.int .i64 a0_6) := (blk_cell BK153.out 6).trans rfl; have hcz25_7 : w24.cell? ⟨gb153, 7, none⟩ = some (.int .i64 a0_7) := (blk_cell BK153.out 7).trans rfl; have hcz25_8 : w24.cell? ⟨gb153, 8, none⟩ = some (.int .i64 a0_8) := (blk_cell BK153.out 8).trans rfl; have hcz25_9 : w24.cell? ⟨gb153, 9, none⟩ = some (.int .i64 a0_9) := (blk_cell BK153.out 9).trans rfl; have hcz25_10 : w24.cell? ⟨gb153, 10, none⟩ = some (.int .i64 a0_10) := (blk_cell BK153.out 10).trans rfl; have hcz25_11 : w24.cell? ⟨gb153, 11, none⟩ = some (.int .i64 a0_11) := (blk_cell BK153.out 11).trans rfl; have hfz25_0 := blk_frozen BK153.out 0; have hfz25_1 := blk_frozen BK153.out 1; have hfz25_2 := blk_frozen BK153.out 2; have hfz25_3 := blk_frozen BK153.out 3; have hfz25_4 := blk_frozen BK153.out 4; have hfz25_5 := blk_frozen BK153.out 5; have hfz25_6 := blk_frozen BK153.out 6; have hfz25_7 := blk_frozen BK153.out 7; have hfz25_8 := blk_frozen BK153.out 8; have hfz25_9 := blk_frozen BK153.out 9; have hfz25_10 := blk_frozen BK153.out 10; have hfz25_11 := blk_frozen BK153.out 11) | ((with_reducible refine gate_callee (f := 29) rfl ?_); refine goesL_ (some 8) rfl rfl Try.func29 (by kernel_rfl) rfl #[.agg #[.int .u64 a0_0, .int .i64 a0_1, .int .i64 a0_2, .int .i64 a0_3, .int .i64 a0_4, .int .i64 a0_5, .int .i64 a0_6, .int .i64 a0_7, .int .i64 a0_8, .int .i64 a0_9, .int .i64 a0_10, .int .i64 a0_11]] rfl (by (try simp only [List.map_toArray, List.map_cons, List.map_nil]); first | done | rfl | (simp only [List.length_drop, List.length_take]; rfl)) ?_; (with_reducible refine (concourseref41_Form.calls k a0_0 a0_1 a0_2 a0_3 a0_4 a0_5 a0_6 a0_7 a0_8 a0_9 a0_10 a0_11 true _ A2.out).mono ?_); rintro e w26 ⟨rfl, hb⟩; refine ⟨_, rfl, ?_⟩; have n0_ := Aside0.mk (blk_below (g := gb153) (o := .cells #[.int .u64 a0_0, .int .i64 a0_1, .int .i64 a0_2, .int .i64 a0_3, .int .i64 a0_4, .int .i64 a0_5, .int .i64 a0_6, .int .i64 a0_7, .int .i64 a0_8, .int .i64 a0_9, .int .i64 a0_10, .int .i64 a0_11] 26 (0, 0)) (by (with_reducible repeat (first | refine blk_drewN ?_ _ | refine blk_drew ?_ | refine blk_alloc ?_ _)); exact BK153.out) hb); have n1_ := Aside0.mk (below_step (by repeat (first | (with_reducible first | exact HB.out | apply below_alloc | apply pw_below_drewN | apply below_drew1 | refine below_set ?_ GE153.out) | exact HB.out)) hb); clear BK153; clear HB; have BK153 := n0_; have HB := n1_; clear n0_ n1_; (try clear hb); (try clear hb2); (try clear hk); (try clear hi)))
              have n0_ := Aside0.mk (blk_drew BK153.out)
              have n1_ := Aside0.mk (below_drew1 HB.out)
              clear BK153
              clear HB
              have BK153 := n0_
              have HB := n1_
              clear n0_ n1_
              refine start_ (n := 14) (S := fun w' => w'.cell? ⟨gb153, 0, none⟩ = some (.int .u64 a0_0) ∧ w'.cell? ⟨gb153, 1, none⟩ = some (.int .i64 a0_1) ∧ w'.cell? ⟨gb153, 2, none⟩ = some (.int .i64 a0_2) ∧ w'.cell? ⟨gb153, 3, none⟩ = some (.int .i64 a0_3) ∧ w'.cell? ⟨gb153, 4, none⟩ = some (.int .i64 a0_4) ∧ w'.cell? ⟨gb153, 5, none⟩ = some (.int .i64 a0_5) ∧ w'.cell? ⟨gb153, 6, none⟩ = some (.int .i64 a0_6) ∧ w'.cell? ⟨gb153, 7, none⟩ = some (.int .i64 a0_7) ∧ w'.cell? ⟨gb153, 8, none⟩ = some (.int .i64 a0_8) ∧ w'.cell? ⟨gb153, 9, none⟩ = some (.int .i64 a0_9) ∧ w'.cell? ⟨gb153, 10, none⟩ = some (.int .i64 a0_10) ∧ w'.cell? ⟨gb153, 11, none⟩ = some (.int .i64 a0_11)) (ds := []) #[false, false, false, false, false, false, false, false, false, false, false, false, false, false] (by kernel_rfl) rfl rfl ⟨(blk_cell BK153.out 0).trans rfl, (blk_cell BK153.out 1).trans rfl, (blk_cell BK153.out 2).trans rfl, (blk_cell BK153.out 3).trans rfl, (blk_cell BK153.out 4).trans rfl, (blk_cell BK153.out 5).trans rfl, (blk_cell BK153.out 6).trans rfl, (blk_cell BK153.out 7).trans rfl, (blk_cell BK153.out 8).trans rfl, (blk_cell BK153.out 9).trans rfl, (blk_cell BK153.out 10).trans rfl, (blk_cell BK153.out 11).trans rfl⟩ (fun hHeld => ?_); refine with_tabW concourseref41_Put.tab3 concourseref41_Put.bits3 (fun HT_ HW_ => ?_)
              generalize w26.drew = w27 at BK153 HB hHeld ⊢
              refine pure_ (i := 0) (N := some 10) (v := ?_) (a' := ?_) #[true, false, false, false, false, false, false, false, false, false, false, false, false, false] rfl rfl (any_of HT_.out (by kernel_rfl)) (fun _ _ _ h => h) (Or.inl ⟨by rfl, ?_⟩) ?_ ?_
              rotate_left
              · intro w'
                go_simp
                with_reducible rfl
              rotate_left
              · simp only [Act.put, List.setIfInBounds_toArray, List.set_cons_zero, List.set_cons_succ, i64_w, i32_w]
                rfl
              refine pure_ (i := 3) (N := some 13) (v := ?_) (a' := ?_) #[true, false, false, true, false, false, false, false, false, false, false, false, false, false] rfl rfl (any_of HT_.out (by kernel_rfl)) (fun _ _ _ h => h) (Or.inl ⟨by rfl, ?_⟩) ?_ ?_
              rotate_left
              · intro w'
                go_simp
                with_reducible rfl
              rotate_left
              · simp only [Act.put, List.setIfInBounds_toArray, List.set_cons_zero, List.set_cons_succ, i64_w, i32_w]
                rfl
              refine pure_ (i := 8) (N := some 18) (v := ?_) (a' := ?_) #[true, false, false, true, false, false, false, false, true, false, false, false, false, false] rfl rfl (any_of HT_.out (by kernel_rfl)) (fun _ _ _ h => h) (Or.inl ⟨by rfl, ?_⟩) ?_ ?_
              rotate_left
              · intro w'
                go_simp
                with_reducible rfl
              rotate_left
              · simp only [Act.put, List.setIfInBounds_toArray, List.set_cons_zero, List.set_cons_succ, i64_w, i32_w]
                rfl
              refine take_ (i := 1) (N := some 11) (v := ?_) (a' := ?_) #[true, true, false, true, false, false, false, false, true, false, false, false, false, false] rfl rfl (take_ofW HT_.out HW_.out (by kernel_rfl)) (fun _ _ _ h => h) (Or.inl ⟨by rfl, ?_⟩) hHeld ?_ ?_
              rotate_left
              · rintro w' ⟨s0, s1, s2, s3, s4, s5, s6, s7, s8, s9, s10, s11⟩
                go_simp
                with_reducible rfl
              rotate_left
              · simp only [Act.put, List.setIfInBounds_toArray, List.set_cons_zero, List.set_cons_succ, i64_w, i32_w]
                rfl
              refine take_ (i := 4) (N := some 14) (v := ?_) (a' := ?_) #[true, true, false, true, true, false, false, false, true, false, false, false, false, false] rfl rfl (take_ofW HT_.out HW_.out (by kernel_rfl)) (fun _ _ _ h => h) (Or.inl ⟨by rfl, ?_⟩) hHeld ?_ ?_
              rotate_left
              · rintro w' ⟨s0, s1, s2, s3, s4, s5, s6, s7, s8, s9, s10, s11⟩
                go_simp
                with_reducible rfl
              rotate_left
              · simp only [Act.put, List.setIfInBounds_toArray, List.set_cons_zero, List.set_cons_succ, i64_w, i32_w]
                rfl
              refine pure_ (i := 5) (N := some 15) (v := ?_) (a' := ?_) #[true, true, false, true, true, true, false, false, true, false, false, false, false, false] rfl rfl (any_of HT_.out (by kernel_rfl)) (fun _ _ _ h => h) (Or.inl ⟨by rfl, ?_⟩) ?_ ?_
              rotate_left
              · intro w'
                go_simp
                with_reducible rfl
              rotate_left
              · simp only [Act.put, List.setIfInBounds_toArray, List.set_cons_zero, List.set_cons_succ, i64_w, i32_w]
                rfl
              refine take_ (i := 9) (N := some 19) (v := ?_) (a' := ?_) #[true, true, false, true, true, true, false, false, true, true, false, false, false, false] rfl rfl (take_ofW HT_.out HW_.out (by kernel_rfl)) (fun _ _ _ h => h) (Or.inl ⟨by rfl, ?_⟩) hHeld ?_ ?_
              rotate_left
              · rintro w' ⟨s0, s1, s2, s3, s4, s5, s6, s7, s8, s9, s10, s11⟩
                go_simp
                with_reducible rfl
              rotate_left
              · simp only [Act.put, List.setIfInBounds_toArray, List.set_cons_zero, List.set_cons_succ, i64_w, i32_w]
                rfl
              refine pure_ (i := 10) (N := some 20) (v := ?_) (a' := ?_) #[true, true, false, true, true, true, false, false, true, true, true, false, false, false] rfl rfl (any_of HT_.out (by kernel_rfl)) (fun _ _ _ h => h) (Or.inl ⟨by rfl, ?_⟩) ?_ ?_
              rotate_left
              · intro w'
                go_simp
                with_reducible rfl
              rotate_left
              · simp only [Act.put, List.setIfInBounds_toArray, List.set_cons_zero, List.set_cons_succ, i64_w, i32_w]
                rfl
              refine one_ (i := 2) (N := some 12) #[true, true, true, true, true, true, false, false, true, true, true, false, false, false] rfl rfl (one_of HT_.out (by kernel_rfl)) (by decide) (fun K hK => ?_)
              refine goes_ Try.func30 (by kernel_rfl) rfl #[.int .u64 a0_0] (by rfl) rfl rfl (by (try simp only [List.map_toArray, List.map_cons, List.map_nil]); first | done | rfl | (simp only [List.length_drop, List.length_take]; rfl)) ?_
              with_reducible refine (concourseref01_Put.calls k a0_0 t155 _ A4.out).mono ?_
              rintro e w28 ⟨rfl, hb⟩
              refine ⟨_, rfl, ?_⟩
              have n0_ := Aside0.mk (blk_below (g := gb153) (o := .cells #[.int .u64 a0_0, .int .i64 a0_1, .int .i64 a0_2, .int .i64 a0_3, .int .i64 a0_4, .int .i64 a0_5, .int .i64 a0_6, .int .i64 a0_7, .int .i64 a0_8, .int .i64 a0_9, .int .i64 a0_10, .int .i64 a0_11] 26 (0, 0)) (by (with_reducible repeat (first | refine blk_drewN ?_ _ | refine blk_drew ?_ | refine blk_alloc ?_ _)); exact BK153.out) hb)
              have n1_ := Aside0.mk (below_step (by repeat (first | (with_reducible first | exact HB.out | apply below_alloc | apply pw_below_drewN | apply below_drew1 | refine below_set ?_ GE153.out) | exact HB.out)) hb)
              clear BK153
              clear HB
              have BK153 := n0_
              have HB := n1_
              clear n0_ n1_
              (try clear hb)
              (try clear hb2)
              (try clear hk)
              (try clear hi)
              refine hK.out _ _ ⟨(blk_cell BK153.out 0).trans rfl, (blk_cell BK153.out 1).trans rfl, (blk_cell BK153.out 2).trans rfl, (blk_cell BK153.out 3).trans rfl, (blk_cell BK153.out 4).trans rfl, (blk_cell BK153.out 5).trans rfl, (blk_cell BK153.out 6).trans rfl, (blk_cell BK153.out 7).trans rfl, (blk_cell BK153.out 8).trans rfl, (blk_cell BK153.out 9).trans rfl, (blk_cell BK153.out 10).trans rfl, (blk_cell BK153.out 11).trans rfl⟩ (fun hHeld => ?_)
              clear hK K
              refine norm_ (a' := ?_) ?_ ?_
              rotate_left
              · show Act.put _ (some 12) _ = _
                simp only [Act.put, List.setIfInBounds_toArray, List.set_cons_zero, List.set_cons_succ, i64_w, i32_w]
                rfl
              refine one_ (i := 6) (N := some 16) #[true, true, true, true, true, true, true, false, true, true, true, false, false, false] rfl rfl (one_of HT_.out (by kernel_rfl)) (by decide) (fun K hK => ?_)
              refine goes_ Try.func30 (by kernel_rfl) rfl #[.int .u64 (IntKind.u64.wrap (a0_1))] (by rfl) rfl rfl (by (try simp only [List.map_toArray, List.map_cons, List.map_nil]); first | done | rfl | (simp only [List.length_drop, List.length_take]; rfl)) ?_
              with_reducible refine (concourseref01_Put.calls k (IntKind.u64.wrap (a0_1)) t156 _ A5.out).mono ?_
              rintro e w29 ⟨rfl, hb⟩
              refine ⟨_, rfl, ?_⟩
              have n0_ := Aside0.mk (blk_below (g := gb153) (o := .cells #[.int .u64 a0_0, .int .i64 a0_1, .int .i64 a0_2, .int .i64 a0_3, .int .i64 a0_4, .int .i64 a0_5, .int .i64 a0_6, .int .i64 a0_7, .int .i64 a0_8, .int .i64 a0_9, .int .i64 a0_10, .int .i64 a0_11] 26 (0, 0)) (by (with_reducible repeat (first | refine blk_drewN ?_ _ | refine blk_drew ?_ | refine blk_alloc ?_ _)); exact BK153.out) hb)
              have n1_ := Aside0.mk (below_step (by repeat (first | (with_reducible first | exact HB.out | apply below_alloc | apply pw_below_drewN | apply below_drew1 | refine below_set ?_ GE153.out) | exact HB.out)) hb)
              clear BK153
              clear HB
              have BK153 := n0_
              have HB := n1_
              clear n0_ n1_
              (try clear hb)
              (try clear hb2)
              (try clear hk)
              (try clear hi)
              refine hK.out _ _ ⟨(blk_cell BK153.out 0).trans rfl, (blk_cell BK153.out 1).trans rfl, (blk_cell BK153.out 2).trans rfl, (blk_cell BK153.out 3).trans rfl, (blk_cell BK153.out 4).trans rfl, (blk_cell BK153.out 5).trans rfl, (blk_cell BK153.out 6).trans rfl, (blk_cell BK153.out 7).trans rfl, (blk_cell BK153.out 8).trans rfl, (blk_cell BK153.out 9).trans rfl, (blk_cell BK153.out 10).trans rfl, (blk_cell BK153.out 11).trans rfl⟩ (fun hHeld => ?_)
              clear hK K
              refine norm_ (a' := ?_) ?_ ?_
              rotate_left
              · show Act.put _ (some 16) _ = _
                simp only [Act.put, List.setIfInBounds_toArray, List.set_cons_zero, List.set_cons_succ, i64_w, i32_w]
                rfl
              refine pure_ (i := 7) (N := some 17) (v := ?_) (a' := ?_) #[true, true, true, true, true, true, true, true, true, true, true, false, false, false] rfl rfl (any_of HT_.out (by kernel_rfl)) (fun _ _ _ h => h) (Or.inl ⟨by rfl, ?_⟩) ?_ ?_
              rotate_left
              · intro w'
                go_simp
                with_reducible rfl
              rotate_left
              · simp only [Act.put, List.setIfInBounds_toArray, List.set_cons_zero, List.set_cons_succ, i64_w, i32_w]
                rfl
              refine one_ (i := 11) (N := some 21) #[true, true, true, true, true, true, true, true, true, true, true, true, false, false] rfl rfl (one_of HT_.out (by kernel_rfl)) (by decide) (fun K hK => ?_)
              refine goes_ Try.func30 (by kernel_rfl) rfl #[.int .u64 (IntKind.u64.wrap (a0_2))] (by rfl) rfl rfl (by (try simp only [List.map_toArray, List.map_cons, List.map_nil]); first | done | rfl | (simp only [List.length_drop, List.length_take]; rfl)) ?_
              with_reducible refine (concourseref01_Put.calls k (IntKind.u64.wrap (a0_2)) t157 _ A7.out).mono ?_
              rintro e w30 ⟨rfl, hb⟩
              refine ⟨_, rfl, ?_⟩
              have n0_ := Aside0.mk (blk_below (g := gb153) (o := .cells #[.int .u64 a0_0, .int .i64 a0_1, .int .i64 a0_2, .int .i64 a0_3, .int .i64 a0_4, .int .i64 a0_5, .int .i64 a0_6, .int .i64 a0_7, .int .i64 a0_8, .int .i64 a0_9, .int .i64 a0_10, .int .i64 a0_11] 26 (0, 0)) (by (with_reducible repeat (first | refine blk_drewN ?_ _ | refine blk_drew ?_ | refine blk_alloc ?_ _)); exact BK153.out) hb)
              have n1_ := Aside0.mk (below_step (by repeat (first | (with_reducible first | exact HB.out | apply below_alloc | apply pw_below_drewN | apply below_drew1 | refine below_set ?_ GE153.out) | exact HB.out)) hb)
              clear BK153
              clear HB
              have BK153 := n0_
              have HB := n1_
              clear n0_ n1_
              (try clear hb)
              (try clear hb2)
              (try clear hk)
              (try clear hi)
              refine hK.out _ _ ⟨(blk_cell BK153.out 0).trans rfl, (blk_cell BK153.out 1).trans rfl, (blk_cell BK153.out 2).trans rfl, (blk_cell BK153.out 3).trans rfl, (blk_cell BK153.out 4).trans rfl, (blk_cell BK153.out 5).trans rfl, (blk_cell BK153.out 6).trans rfl, (blk_cell BK153.out 7).trans rfl, (blk_cell BK153.out 8).trans rfl, (blk_cell BK153.out 9).trans rfl, (blk_cell BK153.out 10).trans rfl, (blk_cell BK153.out 11).trans rfl⟩ (fun hHeld => ?_)
              clear hK K
              refine norm_ (a' := ?_) ?_ ?_
              rotate_left
              · show Act.put _ (some 21) _ = _
                simp only [Act.put, List.setIfInBounds_toArray, List.set_cons_zero, List.set_cons_succ, i64_w, i32_w]
                rfl
              refine pure_ (i := 12) (N := some 22) (v := ?_) (a' := ?_) #[true, true, true, true, true, true, true, true, true, true, true, true, true, false] rfl rfl (any_of HT_.out (by kernel_rfl)) (fun _ _ _ h => h) (Or.inl ⟨by rfl, ?_⟩) ?_ ?_
              rotate_left
              · intro w'
                go_simp
                with_reducible rfl
              rotate_left
              · simp only [Act.put, List.setIfInBounds_toArray, List.set_cons_zero, List.set_cons_succ, i64_w, i32_w]
                rfl
              refine pure_ (i := 13) (N := some 4) (v := ?_) (a' := ?_) #[true, true, true, true, true, true, true, true, true, true, true, true, true, true] rfl rfl (any_of HT_.out (by kernel_rfl)) (fun _ _ _ h => h) (Or.inl ⟨by rfl, ?_⟩) ?_ ?_
              rotate_left
              · intro w'
                go_simp
                with_reducible rfl
              rotate_left
              · simp only [Act.put, List.setIfInBounds_toArray, List.set_cons_zero, List.set_cons_succ, i64_w, i32_w]
                rfl
              refine done_ (done_of HT_.out (by kernel_rfl)) ?_
              have hcz31_0 : w30.cell? ⟨gb153, 0, none⟩ = some (.int .u64 a0_0) := (blk_cell BK153.out 0).trans rfl
              have hcz31_1 : w30.cell? ⟨gb153, 1, none⟩ = some (.int .i64 a0_1) := (blk_cell BK153.out 1).trans rfl
              have hcz31_2 : w30.cell? ⟨gb153, 2, none⟩ = some (.int .i64 a0_2) := (blk_cell BK153.out 2).trans rfl
              have hcz31_3 : w30.cell? ⟨gb153, 3, none⟩ = some (.int .i64 a0_3) := (blk_cell BK153.out 3).trans rfl
              have hcz31_4 : w30.cell? ⟨gb153, 4, none⟩ = some (.int .i64 a0_4) := (blk_cell BK153.out 4).trans rfl
              have hcz31_5 : w30.cell? ⟨gb153, 5, none⟩ = some (.int .i64 a0_5) := (blk_cell BK153.out 5).trans rfl
              have hcz31_6 : w30.cell? ⟨gb153, 6, none⟩ = some (.int .i64 a0_6) := (blk_cell BK153.out 6).trans rfl
              have hcz31_7 : w30.cell? ⟨gb153, 7, none⟩ = some (.int .i64 a0_7) := (blk_cell BK153.out 7).trans rfl
              have hcz31_8 : w30.cell? ⟨gb153, 8, none⟩ = some (.int .i64 a0_8) := (blk_cell BK153.out 8).trans rfl
              have hcz31_9 : w30.cell? ⟨gb153, 9, none⟩ = some (.int .i64 a0_9) := (blk_cell BK153.out 9).trans rfl
              have hcz31_10 : w30.cell? ⟨gb153, 10, none⟩ = some (.int .i64 a0_10) := (blk_cell BK153.out 10).trans rfl
              have hcz31_11 : w30.cell? ⟨gb153, 11, none⟩ = some (.int .i64 a0_11) := (blk_cell BK153.out 11).trans rfl
              have hfz31_0 := blk_frozen BK153.out 0
              have hfz31_1 := blk_frozen BK153.out 1
              have hfz31_2 := blk_frozen BK153.out 2
              have hfz31_3 := blk_frozen BK153.out 3
              have hfz31_4 := blk_frozen BK153.out 4
              have hfz31_5 := blk_frozen BK153.out 5
              have hfz31_6 := blk_frozen BK153.out 6
              have hfz31_7 := blk_frozen BK153.out 7
              have hfz31_8 := blk_frozen BK153.out 8
              have hfz31_9 := blk_frozen BK153.out 9
              have hfz31_10 := blk_frozen BK153.out 10
              have hfz31_11 := blk_frozen BK153.out 11
              try go_wp2_with (first | ((with_reducible refine gate_callee (f := 31) rfl ?_); refine goesL_ (some 34) rfl rfl Try.func31 (by kernel_rfl) rfl #[.agg #[.int .i64 a0_3, .int .i64 a0_4, .int .i64 a0_5, .int .i64 a0_6, .int .i64 a0_7, .int .i64 a0_8, .int .i64 a0_9, .int .i64 a0_10, .int .i64 a0_11]] rfl (by (try simp only [List.map_toArray, List.map_cons, List.map_nil]); first | done | rfl | (simp only [List.length_drop, List.length_take]; rfl)) ?_; (with_reducible refine (concourseref37_Put.calls k a0_3 a0_4 a0_5 a0_6 a0_7 a0_8 a0_9 a0_10 a0_11 t160 t161 _ A22.out).mono ?_); rintro e w32 ⟨rfl, hb⟩; refine ⟨_, rfl, ?_⟩; have n0_ := Aside0.mk (blk_below (g := gb153) (o := .cells #[.int .u64 a0_0, .int .i64 a0_1, .int .i64 a0_2, .int .i64 a0_3, .int .i64 a0_4, .int .i64 a0_5, .int .i64 a0_6, .int .i64 a0_7, .int .i64 a0_8, .int .i64 a0_9, .int .i64 a0_10, .int .i64 a0_11] 26 (0, 0)) (by (with_reducible repeat (first | refine blk_drewN ?_ _ | refine blk_drew ?_ | refine blk_alloc ?_ _)); exact BK153.out) hb); have n1_ := Aside0.mk (below_step (by repeat (first | (with_reducible first | exact HB.out | apply below_alloc | apply pw_below_drewN | apply below_drew1 | refine below_set ?_ GE153.out) | exact HB.out)) hb); clear BK153; clear HB; have BK153 := n0_; have HB := n1_; clear n0_ n1_; (try clear hb); (try clear hb2); (try clear hk); (try clear hi)))
              go_ret2
              exact ⟨by first | rfl | (simp [errW_none, errW_some] <;> rfl) | (simp [*, errW_none, errW_some] <;> rfl), by repeat (first | (with_reducible first | exact HB.out | apply below_alloc | apply pw_below_drewN | apply below_drew1 | refine below_set ?_ GE153.out) | exact HB.out)⟩
            · rw [if_neg c23] at H
              exact absurd H (by simp)
          · rw [if_neg c21] at H
            have c21b0 : (a0_1 == 6) = false := beq_eq_false_iff_ne.mpr c21
            have c21b1 : (a0_1 != 6) = true := bne_iff_ne.mpr c21
            simp only [Option.some.injEq, Prod.mk.injEq] at H
            obtain ⟨rfl, rfl⟩ := H
            go_enter Try.func10, Try.ntmps10
            try go_wp2_with (first | ((with_reducible refine gate_dst (N := 1) rfl ?_); refine box_event ?hg (N := 1) ?hd (cs := #[.int .u64 a0_0, .int .i64 a0_1, .int .i64 a0_2, .int .i64 a0_3, .int .i64 a0_4, .int .i64 a0_5, .int .i64 a0_6, .int .i64 a0_7, .int .i64 a0_8, .int .i64 a0_9, .int .i64 a0_10, .int .i64 a0_11]) (t := 26) ?hr ?_; (case hd => rfl); (case hg => rfl); (case hr => first | (go_simp; done) | (go_simp; rfl)); intro gb153 hg w33 hbox hb; have n0_ := Aside0.mk (below_step (by repeat (first | (with_reducible first | exact HB.out | apply below_alloc | apply pw_below_drewN | apply below_drew1) | exact HB.out)) hb); have n1_ := Aside0.mk (hbox); have n2_ := Aside0.mk ((by rw [hg]; exact (below_size (by repeat (first | (with_reducible first | exact HB.out | apply below_alloc | apply pw_below_drewN | apply below_drew1) | exact HB.out))) : w.heap.size ≤ gb153)); have n3_ := Aside0.mk ((by rw [hg]; exact (below_size (by repeat (first | (with_reducible first | exact HB.out | apply below_alloc | apply pw_below_drewN | apply below_drew1) | exact HB.out))) : w.heap.size ≤ gb153)); clear HB; have HB := n0_; have BK153 := n1_; have GW153 := n2_; have GE153 := n3_; clear n0_ n1_ n2_ n3_; clear hb hbox hg; have hcz34_0 : w33.cell? ⟨gb153, 0, none⟩ = some (.int .u64 a0_0) := (blk_cell BK153.out 0).trans rfl; have hcz34_1 : w33.cell? ⟨gb153, 1, none⟩ = some (.int .i64 a0_1) := (blk_cell BK153.out 1).trans rfl; have hcz34_2 : w33.cell? ⟨gb153, 2, none⟩ = some (.int .i64 a0_2) := (blk_cell BK153.out 2).trans rfl; have hcz34_3 : w33.cell? ⟨gb153, 3, none⟩ = some (.int .i64 a0_3) := (blk_cell BK153.out 3).trans rfl; have hcz34_4 : w33.cell? ⟨gb153, 4, none⟩ = some (.int .i64 a0_4) := (blk_cell BK153.out 4).trans rfl; have hcz34_5 : w33.cell? ⟨gb153, 5, none⟩ = some (.int .i64 a0_5) := (blk_cell BK153.out 5).trans rfl; have hcz34_6 : w33.cell? ⟨gb153, 6, none⟩ = some (.int .i64 a0_6) := (blk_cell BK153.out 6).trans rfl; have hcz34_7 : w33.cell? ⟨gb153, 7, none⟩ = some (.int .i64 a0_7) := (blk_cell BK153.out 7).trans rfl; have hcz34_8 : w33.cell? ⟨gb153, 8, none⟩ = some (.int .i64 a0_8) := (blk_cell BK153.out 8).trans rfl; have hcz34_9 : w33.cell? ⟨gb153, 9, none⟩ = some (.int .i64 a0_9) := (blk_cell BK153.out 9).trans rfl; have hcz34_10 : w33.cell? ⟨gb153, 10, none⟩ = some (.int .i64 a0_10) := (blk_cell BK153.out 10).trans rfl; have hcz34_11 : w33.cell? ⟨gb153, 11, none⟩ = some (.int .i64 a0_11) := (blk_cell BK153.out 11).trans rfl; have hfz34_0 := blk_frozen BK153.out 0; have hfz34_1 := blk_frozen BK153.out 1; have hfz34_2 := blk_frozen BK153.out 2; have hfz34_3 := blk_frozen BK153.out 3; have hfz34_4 := blk_frozen BK153.out 4; have hfz34_5 := blk_frozen BK153.out 5; have hfz34_6 := blk_frozen BK153.out 6; have hfz34_7 := blk_frozen BK153.out 7; have hfz34_8 := blk_frozen BK153.out 8; have hfz34_9 := blk_frozen BK153.out 9; have hfz34_10 := blk_frozen BK153.out 10; have hfz34_11 := blk_frozen BK153.out 11) | ((with_reducible refine gate_callee (f := 29) rfl ?_); refine goesL_ (some 8) rfl rfl Try.func29 (by kernel_rfl) rfl #[.agg #[.int .u64 a0_0, .int .i64 a0_1, .int .i64 a0_2, .int .i64 a0_3, .int .i64 a0_4, .int .i64 a0_5, .int .i64 a0_6, .int .i64 a0_7, .int .i64 a0_8, .int .i64 a0_9, .int .i64 a0_10, .int .i64 a0_11]] rfl (by (try simp only [List.map_toArray, List.map_cons, List.map_nil]); first | done | rfl | (simp only [List.length_drop, List.length_take]; rfl)) ?_; (with_reducible refine (concourseref41_Form.calls k a0_0 a0_1 a0_2 a0_3 a0_4 a0_5 a0_6 a0_7 a0_8 a0_9 a0_10 a0_11 true _ A2.out).mono ?_); rintro e w35 ⟨rfl, hb⟩; refine ⟨_, rfl, ?_⟩; have n0_ := Aside0.mk (blk_below (g := gb153) (o := .cells #[.int .u64 a0_0, .int .i64 a0_1, .int .i64 a0_2, .int .i64 a0_3, .int .i64 a0_4, .int .i64 a0_5, .int .i64 a0_6, .int .i64 a0_7, .int .i64 a0_8, .int .i64 a0_9, .int .i64 a0_10, .int .i64 a0_11] 26 (0, 0)) (by (with_reducible repeat (first | refine blk_drewN ?_ _ | refine blk_drew ?_ | refine blk_alloc ?_ _)); exact BK153.out) hb); have n1_ := Aside0.mk (below_step (by repeat (first | (with_reducible first | exact HB.out | apply below_alloc | apply pw_below_drewN | apply below_drew1 | refine below_set ?_ GE153.out) | exact HB.out)) hb); clear BK153; clear HB; have BK153 := n0_; have HB := n1_; clear n0_ n1_; (try clear hb); (try clear hb2); (try clear hk); (try clear hi)))
            have n0_ := Aside0.mk (blk_drew BK153.out)
            have n1_ := Aside0.mk (below_drew1 HB.out)
            clear BK153
            clear HB
            have BK153 := n0_
            have HB := n1_
            clear n0_ n1_
            refine start_ (n := 14) (S := fun w' => w'.cell? ⟨gb153, 0, none⟩ = some (.int .u64 a0_0) ∧ w'.cell? ⟨gb153, 1, none⟩ = some (.int .i64 a0_1) ∧ w'.cell? ⟨gb153, 2, none⟩ = some (.int .i64 a0_2) ∧ w'.cell? ⟨gb153, 3, none⟩ = some (.int .i64 a0_3) ∧ w'.cell? ⟨gb153, 4, none⟩ = some (.int .i64 a0_4) ∧ w'.cell? ⟨gb153, 5, none⟩ = some (.int .i64 a0_5) ∧ w'.cell? ⟨gb153, 6, none⟩ = some (.int .i64 a0_6) ∧ w'.cell? ⟨gb153, 7, none⟩ = some (.int .i64 a0_7) ∧ w'.cell? ⟨gb153, 8, none⟩ = some (.int .i64 a0_8) ∧ w'.cell? ⟨gb153, 9, none⟩ = some (.int .i64 a0_9) ∧ w'.cell? ⟨gb153, 10, none⟩ = some (.int .i64 a0_10) ∧ w'.cell? ⟨gb153, 11, none⟩ = some (.int .i64 a0_11)) (ds := []) #[false, false, false, false, false, false, false, false, false, false, false, false, false, false] (by kernel_rfl) rfl rfl ⟨(blk_cell BK153.out 0).trans rfl, (blk_cell BK153.out 1).trans rfl, (blk_cell BK153.out 2).trans rfl, (blk_cell BK153.out 3).trans rfl, (blk_cell BK153.out 4).trans rfl, (blk_cell BK153.out 5).trans rfl, (blk_cell BK153.out 6).trans rfl, (blk_cell BK153.out 7).trans rfl, (blk_cell BK153.out 8).trans rfl, (blk_cell BK153.out 9).trans rfl, (blk_cell BK153.out 10).trans rfl, (blk_cell BK153.out 11).trans rfl⟩ (fun hHeld => ?_); refine with_tabW concourseref41_Put.tab3 concourseref41_Put.bits3 (fun HT_ HW_ => ?_)
            generalize w35.drew = w36 at BK153 HB hHeld ⊢
            refine pure_ (i := 0) (N := some 10) (v := ?_) (a' := ?_) #[true, false, false, false, false, false, false, false, false, false, false, false, false, false] rfl rfl (any_of HT_.out (by kernel_rfl)) (fun _ _ _ h => h) (Or.inl ⟨by rfl, ?_⟩) ?_ ?_
            rotate_left
            · intro w'
              go_simp
              with_reducible rfl
            rotate_left
            · simp only [Act.put, List.setIfInBounds_toArray, List.set_cons_zero, List.set_cons_succ, i64_w, i32_w]
              rfl
            refine pure_ (i := 3) (N := some 13) (v := ?_) (a' := ?_) #[true, false, false, true, false, false, false, false, false, false, false, false, false, false] rfl rfl (any_of HT_.out (by kernel_rfl)) (fun _ _ _ h => h) (Or.inl ⟨by rfl, ?_⟩) ?_ ?_
            rotate_left
            · intro w'
              go_simp
              with_reducible rfl
            rotate_left
            · simp only [Act.put, List.setIfInBounds_toArray, List.set_cons_zero, List.set_cons_succ, i64_w, i32_w]
              rfl
            refine pure_ (i := 8) (N := some 18) (v := ?_) (a' := ?_) #[true, false, false, true, false, false, false, false, true, false, false, false, false, false] rfl rfl (any_of HT_.out (by kernel_rfl)) (fun _ _ _ h => h) (Or.inl ⟨by rfl, ?_⟩) ?_ ?_
            rotate_left
            · intro w'
              go_simp
              with_reducible rfl
            rotate_left
            · simp only [Act.put, List.setIfInBounds_toArray, List.set_cons_zero, List.set_cons_succ, i64_w, i32_w]
              rfl
            refine take_ (i := 1) (N := some 11) (v := ?_) (a' := ?_) #[true, true, false, true, false, false, false, false, true, false, false, false, false, false] rfl rfl (take_ofW HT_.out HW_.out (by kernel_rfl)) (fun _ _ _ h => h) (Or.inl ⟨by rfl, ?_⟩) hHeld ?_ ?_
            rotate_left
            · rintro w' ⟨s0, s1, s2, s3, s4, s5, s6, s7, s8, s9, s10, s11⟩
              go_simp
              with_reducible rfl
            rotate_left
            · simp only [Act.put, List.setIfInBounds_toArray, List.set_cons_zero, List.set_cons_succ, i64_w, i32_w]
              rfl
            refine take_ (i := 4) (N := some 14) (v := ?_) (a' := ?_) #[true, true, false, true, true, false, false, false, true, false, false, false, false, false] rfl rfl (take_ofW HT_.out HW_.out (by kernel_rfl)) (fun _ _ _ h => h) (Or.inl ⟨by rfl, ?_⟩) hHeld ?_ ?_
            rotate_left
            · rintro w' ⟨s0, s1, s2, s3, s4, s5, s6, s7, s8, s9, s10, s11⟩
              go_simp
              with_reducible rfl
            rotate_left
            · simp only [Act.put, List.setIfInBounds_toArray, List.set_cons_zero, List.set_cons_succ, i64_w, i32_w]
              rfl
            refine pure_ (i := 5) (N := some 15) (v := ?_) (a' := ?_) #[true, true, false, true, true, true, false, false, true, false, false, false, false, false] rfl rfl (any_of HT_.out (by kernel_rfl)) (fun _ _ _ h => h) (Or.inl ⟨by rfl, ?_⟩) ?_ ?_
            rotate_left
            · intro w'
              go_simp
              with_reducible rfl
            rotate_left
            · simp only [Act.put, List.setIfInBounds_toArray, List.set_cons_zero, List.set_cons_succ, i64_w, i32_w]
              rfl
            refine take_ (i := 9) (N := some 19) (v := ?_) (a' := ?_) #[true, true, false, true, true, true, false, false, true, true, false, false, false, false] rfl rfl (take_ofW HT_.out HW_.out (by kernel_rfl)) (fun _ _ _ h => h) (Or.inl ⟨by rfl, ?_⟩) hHeld ?_ ?_
            rotate_left
            · rintro w' ⟨s0, s1, s2, s3, s4, s5, s6, s7, s8, s9, s10, s11⟩
              go_simp
              with_reducible rfl
            rotate_left
            · simp only [Act.put, List.setIfInBounds_toArray, List.set_cons_zero, List.set_cons_succ, i64_w, i32_w]
              rfl
            refine pure_ (i := 10) (N := some 20) (v := ?_) (a' := ?_) #[true, true, false, true, true, true, false, false, true, true, true, false, false, false] rfl rfl (any_of HT_.out (by kernel_rfl)) (fun _ _ _ h => h) (Or.inl ⟨by rfl, ?_⟩) ?_ ?_
            rotate_left
            · intro w'
              go_simp
              with_reducible rfl
            rotate_left
            · simp only [Act.put, List.setIfInBounds_toArray, List.set_cons_zero, List.set_cons_succ, i64_w, i32_w]
              rfl
            refine one_ (i := 2) (N := some 12) #[true, true, true, true, true, true, false, false, true, true, true, false, false, false] rfl rfl (one_of HT_.out (by kernel_rfl)) (by decide) (fun K hK => ?_)
            refine goes_ Try.func30 (by kernel_rfl) rfl #[.int .u64 a0_0] (by rfl) rfl rfl (by (try simp only [List.map_toArray, List.map_cons, List.map_nil]); first | done | rfl | (simp only [List.length_drop, List.length_take]; rfl)) ?_
            with_reducible refine (concourseref01_Put.calls k a0_0 t155 _ A4.out).mono ?_
            rintro e w37 ⟨rfl, hb⟩
            refine ⟨_, rfl, ?_⟩
            have n0_ := Aside0.mk (blk_below (g := gb153) (o := .cells #[.int .u64 a0_0, .int .i64 a0_1, .int .i64 a0_2, .int .i64 a0_3, .int .i64 a0_4, .int .i64 a0_5, .int .i64 a0_6, .int .i64 a0_7, .int .i64 a0_8, .int .i64 a0_9, .int .i64 a0_10, .int .i64 a0_11] 26 (0, 0)) (by (with_reducible repeat (first | refine blk_drewN ?_ _ | refine blk_drew ?_ | refine blk_alloc ?_ _)); exact BK153.out) hb)
            have n1_ := Aside0.mk (below_step (by repeat (first | (with_reducible first | exact HB.out | apply below_alloc | apply pw_below_drewN | apply below_drew1 | refine below_set ?_ GE153.out) | exact HB.out)) hb)
            clear BK153
            clear HB
            have BK153 := n0_
            have HB := n1_
            clear n0_ n1_
            (try clear hb)
            (try clear hb2)
            (try clear hk)
            (try clear hi)
            refine hK.out _ _ ⟨(blk_cell BK153.out 0).trans rfl, (blk_cell BK153.out 1).trans rfl, (blk_cell BK153.out 2).trans rfl, (blk_cell BK153.out 3).trans rfl, (blk_cell BK153.out 4).trans rfl, (blk_cell BK153.out 5).trans rfl, (blk_cell BK153.out 6).trans rfl, (blk_cell BK153.out 7).trans rfl, (blk_cell BK153.out 8).trans rfl, (blk_cell BK153.out 9).trans rfl, (blk_cell BK153.out 10).trans rfl, (blk_cell BK153.out 11).trans rfl⟩ (fun hHeld => ?_)
            clear hK K
            refine norm_ (a' := ?_) ?_ ?_
            rotate_left
            · show Act.put _ (some 12) _ = _
              simp only [Act.put, List.setIfInBounds_toArray, List.set_cons_zero, List.set_cons_succ, i64_w, i32_w]
              rfl
            refine one_ (i := 6) (N := some 16) #[true, true, true, true, true, true, true, false, true, true, true, false, false, false] rfl rfl (one_of HT_.out (by kernel_rfl)) (by decide) (fun K hK => ?_)
            refine goes_ Try.func30 (by kernel_rfl) rfl #[.int .u64 (IntKind.u64.wrap (a0_1))] (by rfl) rfl rfl (by (try simp only [List.map_toArray, List.map_cons, List.map_nil]); first | done | rfl | (simp only [List.length_drop, List.length_take]; rfl)) ?_
            with_reducible refine (concourseref01_Put.calls k (IntKind.u64.wrap (a0_1)) t156 _ A5.out).mono ?_
            rintro e w38 ⟨rfl, hb⟩
            refine ⟨_, rfl, ?_⟩
            have n0_ := Aside0.mk (blk_below (g := gb153) (o := .cells #[.int .u64 a0_0, .int .i64 a0_1, .int .i64 a0_2, .int .i64 a0_3, .int .i64 a0_4, .int .i64 a0_5, .int .i64 a0_6, .int .i64 a0_7, .int .i64 a0_8, .int .i64 a0_9, .int .i64 a0_10, .int .i64 a0_11] 26 (0, 0)) (by (with_reducible repeat (first | refine blk_drewN ?_ _ | refine blk_drew ?_ | refine blk_alloc ?_ _)); exact BK153.out) hb)
            have n1_ := Aside0.mk (below_step (by repeat (first | (with_reducible first | exact HB.out | apply below_alloc | apply pw_below_drewN | apply below_drew1 | refine below_set ?_ GE153.out) | exact HB.out)) hb)
            clear BK153
            clear HB
            have BK153 := n0_
            have HB := n1_
            clear n0_ n1_
            (try clear hb)
            (try clear hb2)
            (try clear hk)
            (try clear hi)
            refine hK.out _ _ ⟨(blk_cell BK153.out 0).trans rfl, (blk_cell BK153.out 1).trans rfl, (blk_cell BK153.out 2).trans rfl, (blk_cell BK153.out 3).trans rfl, (blk_cell BK153.out 4).trans rfl, (blk_cell BK153.out 5).trans rfl, (blk_cell BK153.out 6).trans rfl, (blk_cell BK153.out 7).trans rfl, (blk_cell BK153.out 8).trans rfl, (blk_cell BK153.out 9).trans rfl, (blk_cell BK153.out 10).trans rfl, (blk_cell BK153.out 11).trans rfl⟩ (fun hHeld => ?_)
            clear hK K
            refine norm_ (a' := ?_) ?_ ?_
            rotate_left
            · show Act.put _ (some 16) _ = _
              simp only [Act.put, List.setIfInBounds_toArray, List.set_cons_zero, List.set_cons_succ, i64_w, i32_w]
              rfl
            refine pure_ (i := 7) (N := some 17) (v := ?_) (a' := ?_) #[true, true, true, true, true, true, true, true, true, true, true, false, false, false] rfl rfl (any_of HT_.out (by kernel_rfl)) (fun _ _ _ h => h) (Or.inl ⟨by rfl, ?_⟩) ?_ ?_
            rotate_left
            · intro w'
              go_simp
              with_reducible rfl
            rotate_left
            · simp only [Act.put, List.setIfInBounds_toArray, List.set_cons_zero, List.set_cons_succ, i64_w, i32_w]
              rfl
            refine one_ (i := 11) (N := some 21) #[true, true, true, true, true, true, true, true, true, true, true, true, false, false] rfl rfl (one_of HT_.out (by kernel_rfl)) (by decide) (fun K hK => ?_)
            refine goes_ Try.func30 (by kernel_rfl) rfl #[.int .u64 (IntKind.u64.wrap (a0_2))] (by rfl) rfl rfl (by (try simp only [List.map_toArray, List.map_cons, List.map_nil]); first | done | rfl | (simp only [List.length_drop, List.length_take]; rfl)) ?_
            with_reducible refine (concourseref01_Put.calls k (IntKind.u64.wrap (a0_2)) t157 _ A7.out).mono ?_
            rintro e w39 ⟨rfl, hb⟩
            refine ⟨_, rfl, ?_⟩
            have n0_ := Aside0.mk (blk_below (g := gb153) (o := .cells #[.int .u64 a0_0, .int .i64 a0_1, .int .i64 a0_2, .int .i64 a0_3, .int .i64 a0_4, .int .i64 a0_5, .int .i64 a0_6, .int .i64 a0_7, .int .i64 a0_8, .int .i64 a0_9, .int .i64 a0_10, .int .i64 a0_11] 26 (0, 0)) (by (with_reducible repeat (first | refine blk_drewN ?_ _ | refine blk_drew ?_ | refine blk_alloc ?_ _)); exact BK153.out) hb)
            have n1_ := Aside0.mk (below_step (by repeat (first | (with_reducible first | exact HB.out | apply below_alloc | apply pw_below_drewN | apply below_drew1 | refine below_set ?_ GE153.out) | exact HB.out)) hb)
            clear BK153
            clear HB
            have BK153 := n0_
            have HB := n1_
            clear n0_ n1_
            (try clear hb)
            (try clear hb2)
            (try clear hk)
            (try clear hi)
            refine hK.out _ _ ⟨(blk_cell BK153.out 0).trans rfl, (blk_cell BK153.out 1).trans rfl, (blk_cell BK153.out 2).trans rfl, (blk_cell BK153.out 3).trans rfl, (blk_cell BK153.out 4).trans rfl, (blk_cell BK153.out 5).trans rfl, (blk_cell BK153.out 6).trans rfl, (blk_cell BK153.out 7).trans rfl, (blk_cell BK153.out 8).trans rfl, (blk_cell BK153.out 9).trans rfl, (blk_cell BK153.out 10).trans rfl, (blk_cell BK153.out 11).trans rfl⟩ (fun hHeld => ?_)
            clear hK K
            refine norm_ (a' := ?_) ?_ ?_
            rotate_left
            · show Act.put _ (some 21) _ = _
              simp only [Act.put, List.setIfInBounds_toArray, List.set_cons_zero, List.set_cons_succ, i64_w, i32_w]
              rfl
            refine pure_ (i := 12) (N := some 22) (v := ?_) (a' := ?_) #[true, true, true, true, true, true, true, true, true, true, true, true, true, false] rfl rfl (any_of HT_.out (by kernel_rfl)) (fun _ _ _ h => h) (Or.inl ⟨by rfl, ?_⟩) ?_ ?_
            rotate_left
            · intro w'
              go_simp
              with_reducible rfl
            rotate_left
            · simp only [Act.put, List.setIfInBounds_toArray, List.set_cons_zero, List.set_cons_succ, i64_w, i32_w]
              rfl
            refine pure_ (i := 13) (N := some 4) (v := ?_) (a' := ?_) #[true, true, true, true, true, true, true, true, true, true, true, true, true, true] rfl rfl (any_of HT_.out (by kernel_rfl)) (fun _ _ _ h => h) (Or.inl ⟨by rfl, ?_⟩) ?_ ?_
            rotate_left
            · intro w'
              go_simp
              with_reducible rfl
            rotate_left
            · simp only [Act.put, List.setIfInBounds_toArray, List.set_cons_zero, List.set_cons_succ, i64_w, i32_w]
              rfl
            refine done_ (done_of HT_.out (by kernel_rfl)) ?_
            have hcz40_0 : w39.cell? ⟨gb153, 0, none⟩ = some (.int .u64 a0_0) := (blk_cell BK153.out 0).trans rfl
            have hcz40_1 : w39.cell? ⟨gb153, 1, none⟩ = some (.int .i64 a0_1) := (blk_cell BK153.out 1).trans rfl
            have hcz40_2 : w39.cell? ⟨gb153, 2, none⟩ = some (.int .i64 a0_2) := (blk_cell BK153.out 2).trans rfl
            have hcz40_3 : w39.cell? ⟨gb153, 3, none⟩ = some (.int .i64 a0_3) := (blk_cell BK153.out 3).trans rfl
            have hcz40_4 : w39.cell? ⟨gb153, 4, none⟩ = some (.int .i64 a0_4) := (blk_cell BK153.out 4).trans rfl
            have hcz40_5 : w39.cell? ⟨gb153, 5, none⟩ = some (.int .i64 a0_5) := (blk_cell BK153.out 5).trans rfl
            have hcz40_6 : w39.cell? ⟨gb153, 6, none⟩ = some (.int .i64 a0_6) := (blk_cell BK153.out 6).trans rfl
            have hcz40_7 : w39.cell? ⟨gb153, 7, none⟩ = some (.int .i64 a0_7) := (blk_cell BK153.out 7).trans rfl
            have hcz40_8 : w39.cell? ⟨gb153, 8, none⟩ = some (.int .i64 a0_8) := (blk_cell BK153.out 8).trans rfl
            have hcz40_9 : w39.cell? ⟨gb153, 9, none⟩ = some (.int .i64 a0_9) := (blk_cell BK153.out 9).trans rfl
            have hcz40_10 : w39.cell? ⟨gb153, 10, none⟩ = some (.int .i64 a0_10) := (blk_cell BK153.out 10).trans rfl
            have hcz40_11 : w39.cell? ⟨gb153, 11, none⟩ = some (.int .i64 a0_11) := (blk_cell BK153.out 11).trans rfl
            have hfz40_0 := blk_frozen BK153.out 0
            have hfz40_1 := blk_frozen BK153.out 1
            have hfz40_2 := blk_frozen BK153.out 2
            have hfz40_3 := blk_frozen BK153.out 3
            have hfz40_4 := blk_frozen BK153.out 4
            have hfz40_5 := blk_frozen BK153.out 5
            have hfz40_6 := blk_frozen BK153.out 6
            have hfz40_7 := blk_frozen BK153.out 7
            have hfz40_8 := blk_frozen BK153.out 8
            have hfz40_9 := blk_frozen BK153.out 9
            have hfz40_10 := blk_frozen BK153.out 10
            have hfz40_11 := blk_frozen BK153.out 11
            try go_wp2
            go_ret2
            exact ⟨by first | rfl | (simp [errW_none, errW_some] <;> rfl) | (simp [*, errW_none, errW_some] <;> rfl), by repeat (first | (with_reducible first | exact HB.out | apply below_alloc | apply pw_below_drewN | apply below_drew1 | refine below_set ?_ GE153.out) | exact HB.out)⟩
      · rw [if_neg c8] at H
        exact absurd H (by simp)
    · rw [if_neg c6] at H
      exact absurd H (by simp)
  · replace c3 := Bool.eq_false_iff.mpr c3
    subst c3
    have H1 : (some ((⟨#[]⟩ : ByteArray), 1)) = some (r1, r2) := by rw [if_neg (show ¬ (false = true) by decide)] at H; exact H
    clear H
    have H := H1
    clear H1
    simp only [Option.some.injEq, Prod.mk.injEq] at H
    obtain ⟨rfl, rfl⟩ := H
    go_enter Try.func10, Try.ntmps10
    go_wp2_with (first | ((with_reducible refine gate_dst (N := 1) rfl ?_); refine box_event ?hg (N := 1) ?hd (cs := #[.int .u64 a0_0, .int .i64 a0_1, .int .i64 a0_2, .int .i64 a0_3, .int .i64 a0_4, .int .i64 a0_5, .int .i64 a0_6, .int .i64 a0_7, .int .i64 a0_8, .int .i64 a0_9, .int .i64 a0_10, .int .i64 a0_11]) (t := 26) ?hr ?_; (case hd => rfl); (case hg => rfl); (case hr => first | (go_simp; done) | (go_simp; rfl)); intro gb153 hg w41 hbox hb; have n0_ := Aside0.mk (below_step (by repeat (first | (with_reducible first | exact HB.out | apply below_alloc | apply pw_below_drewN | apply below_drew1) | exact HB.out)) hb); have n1_ := Aside0.mk (hbox); have n2_ := Aside0.mk ((by rw [hg]; exact (below_size (by repeat (first | (with_reducible first | exact HB.out | apply below_alloc | apply pw_below_drewN | apply below_drew1) | exact HB.out))) : w.heap.size ≤ gb153)); have n3_ := Aside0.mk ((by rw [hg]; exact (below_size (by repeat (first | (with_reducible first | exact HB.out | apply below_alloc | apply pw_below_drewN | apply below_drew1) | exact HB.out))) : w.heap.size ≤ gb153)); clear HB; have HB := n0_; have BK153 := n1_; have GW153 := n2_; have GE153 := n3_; clear n0_ n1_ n2_ n3_; clear hb hbox hg; have hcz42_0 : w41.cell? ⟨gb153, 0, none⟩ = some (.int .u64 a0_0) := (blk_cell BK153.out 0).trans rfl; have hcz42_1 : w41.cell? ⟨gb153, 1, none⟩ = some (.int .i64 a0_1) := (blk_cell BK153.out 1).trans rfl; have hcz42_2 : w41.cell? ⟨gb153, 2, none⟩ = some (.int .i64 a0_2) := (blk_cell BK153.out 2).trans rfl; have hcz42_3 : w41.cell? ⟨gb153, 3, none⟩ = some (.int .i64 a0_3) := (blk_cell BK153.out 3).trans rfl; have hcz42_4 : w41.cell? ⟨gb153, 4, none⟩ = some (.int .i64 a0_4) := (blk_cell BK153.out 4).trans rfl; have hcz42_5 : w41.cell? ⟨gb153, 5, none⟩ = some (.int .i64 a0_5) := (blk_cell BK153.out 5).trans rfl; have hcz42_6 : w41.cell? ⟨gb153, 6, none⟩ = some (.int .i64 a0_6) := (blk_cell BK153.out 6).trans rfl; have hcz42_7 : w41.cell? ⟨gb153, 7, none⟩ = some (.int .i64 a0_7) := (blk_cell BK153.out 7).trans rfl; have hcz42_8 : w41.cell? ⟨gb153, 8, none⟩ = some (.int .i64 a0_8) := (blk_cell BK153.out 8).trans rfl; have hcz42_9 : w41.cell? ⟨gb153, 9, none⟩ = some (.int .i64 a0_9) := (blk_cell BK153.out 9).trans rfl; have hcz42_10 : w41.cell? ⟨gb153, 10, none⟩ = some (.int .i64 a0_10) := (blk_cell BK153.out 10).trans rfl; have hcz42_11 : w41.cell? ⟨gb153, 11, none⟩ = some (.int .i64 a0_11) := (blk_cell BK153.out 11).trans rfl; have hfz42_0 := blk_frozen BK153.out 0; have hfz42_1 := blk_frozen BK153.out 1; have hfz42_2 := blk_frozen BK153.out 2; have hfz42_3 := blk_frozen BK153.out 3; have hfz42_4 := blk_frozen BK153.out 4; have hfz42_5 := blk_frozen BK153.out 5; have hfz42_6 := blk_frozen BK153.out 6; have hfz42_7 := blk_frozen BK153.out 7; have hfz42_8 := blk_frozen BK153.out 8; have hfz42_9 := blk_frozen BK153.out 9; have hfz42_10 := blk_frozen BK153.out 10; have hfz42_11 := blk_frozen BK153.out 11) | ((with_reducible refine gate_callee (f := 29) rfl ?_); refine goesL_ (some 8) rfl rfl Try.func29 (by kernel_rfl) rfl #[.agg #[.int .u64 a0_0, .int .i64 a0_1, .int .i64 a0_2, .int .i64 a0_3, .int .i64 a0_4, .int .i64 a0_5, .int .i64 a0_6, .int .i64 a0_7, .int .i64 a0_8, .int .i64 a0_9, .int .i64 a0_10, .int .i64 a0_11]] rfl (by (try simp only [List.map_toArray, List.map_cons, List.map_nil]); first | done | rfl | (simp only [List.length_drop, List.length_take]; rfl)) ?_; (with_reducible refine (concourseref41_Form.calls k a0_0 a0_1 a0_2 a0_3 a0_4 a0_5 a0_6 a0_7 a0_8 a0_9 a0_10 a0_11 false _ A2.out).mono ?_); rintro e w43 ⟨rfl, hb⟩; refine ⟨_, rfl, ?_⟩; have n0_ := Aside0.mk (blk_below (g := gb153) (o := .cells #[.int .u64 a0_0, .int .i64 a0_1, .int .i64 a0_2, .int .i64 a0_3, .int .i64 a0_4, .int .i64 a0_5, .int .i64 a0_6, .int .i64 a0_7, .int .i64 a0_8, .int .i64 a0_9, .int .i64 a0_10, .int .i64 a0_11] 26 (0, 0)) (by (with_reducible repeat (first | refine blk_drewN ?_ _ | refine blk_drew ?_ | refine blk_alloc ?_ _)); exact BK153.out) hb); have n1_ := Aside0.mk (below_step (by repeat (first | (with_reducible first | exact HB.out | apply below_alloc | apply pw_below_drewN | apply below_drew1 | refine below_set ?_ GE153.out) | exact HB.out)) hb); clear BK153; clear HB; have BK153 := n0_; have HB := n1_; clear n0_ n1_; (try clear hb); (try clear hb2); (try clear hk); (try clear hi)))
    go_ret2
    exact ⟨by first | rfl | (simp [errW_none, errW_some] <;> rfl) | (simp [*, errW_none, errW_some] <;> rfl), by repeat (first | (with_reducible first | exact HB.out | apply below_alloc | apply pw_below_drewN | apply below_drew1 | refine below_set ?_ GE153.out) | exact HB.out)⟩

end Go.Proofs.Ytdnhmlpjohojdaa.R
namespace Go.Proofs.Ytdnhmlpjohojdaa.R
open Go.RowKit Go.Proofs.YtdnhmlpjohojdaaW.PrintWords Go.Proofs.YtdnhmlpjohojdaaW.PrintLast Go.Proofs.YtdnhmlpjohojdaaW.PrintMore
attribute [local go_sem] max2_int min2_int max_two min_two max_three min_three max_four min_four   -- for this text's walks alone

/-! ### concourseref02_Int: function 39 -/
def concourseref02_Int.f (k : Nat) (a0 : ByteArray) (a1 : Int) : Option (Int × Int × Int) := (concourseref01_Take.f k a0).bind fun bt162 => (if bt162.2.2 = 0 then (if a1 < 0 then (if bt162.1 > 0 then (some (0, 0, 3)) else (some (wrap64 (bt162.1), bt162.2.1, 0))) else (if bt162.1 > (IntKind.u64.wrap (a1)) then (some (0, 0, 3)) else (some (wrap64 (bt162.1), bt162.2.1, 0)))) else (some (0, 0, bt162.2.2)))
theorem concourseref02_Int.mono : ∀ a0 a1 k, LeO (concourseref02_Int.f k a0 a1) (concourseref02_Int.f (k + 1) a0 a1) := by
  intro a0 a1 k
  unfold concourseref02_Int.f
  repeat' first
      | (with_reducible exact concourseref01_Take.mono _ _)
      | (with_reducible exact LeO.refl _)
      | (with_reducible exact LeO.none _)
      | (with_reducible refine LeO.ite ?_ ?_)
      | (with_reducible refine LeO.bind ?_ (fun _ => ?_))
      | exact concourseref01_Take.mono _ _
      | exact LeO.none _
      | refine LeO.ite ?_ ?_
      | refine LeO.bind ?_ (fun _ => ?_)
set_option maxHeartbeats 8000000 in
set_option maxRecDepth 100000 in
theorem concourseref02_Int.calls (k : Nat) (a0 : ByteArray) (a1 : Int) (r1 : Int) (r2 : Int) (r3 : Int) (w : World) (h : concourseref02_Int.f k a0 a1 = some (r1, r2, r3)) :
    Calls Try.prog 39 #[.string a0, .int .i64 a1] w fun e w' => e = .returned (.tuple #[.int .i64 r1, .int .i64 r2, .int .i64 r3]) ∧ Drawn0 w w' := by
  have H : ((concourseref01_Take.f k a0).bind fun bt162 => (if bt162.2.2 = 0 then (if a1 < 0 then (if bt162.1 > 0 then (some (0, 0, 3)) else (some (wrap64 (bt162.1), bt162.2.1, 0))) else (if bt162.1 > (IntKind.u64.wrap (a1)) then (some (0, 0, 3)) else (some (wrap64 (bt162.1), bt162.2.1, 0)))) else (some (0, 0, bt162.2.2)))) = some (r1, r2, r3) := h
  clear h
  replace H := Option.bind_eq_some_iff.mp H
  obtain ⟨⟨t162, t163, t164⟩, A30, H⟩ := H
  replace H : (if t164 = 0 then (if a1 < 0 then (if t162 > 0 then (some (0, 0, 3)) else (some (wrap64 (t162), t163, 0))) else (if t162 > (IntKind.u64.wrap (a1)) then (some (0, 0, 3)) else (some (wrap64 (t162), t163, 0)))) else (some (0, 0, t164))) = some (r1, r2, r3) := H
  have A3 := Aside0.mk A30
  clear A30
  by_cases c4 : t164 = 0
  · rw [if_pos c4] at H
    have c4b0 : (t164 == 0) = true := beq_iff_eq.mpr c4
    have c4b1 : (t164 != 0) = false := bne_eq_false_iff_eq.mpr c4
    clear c4
    by_cases c5 : a1 < 0
    · rw [if_pos c5] at H
      have c5b0 : decide (a1 < 0) = true := decide_eq_true c5
      clear c5
      by_cases c6 : t162 > 0
      · rw [if_pos c6] at H
        have c6b0 : decide (0 < t162) = true := decide_eq_true c6
        clear c6
        simp only [Option.some.injEq, Prod.mk.injEq] at H
        obtain ⟨rfl, rfl, rfl⟩ := H
        go_enter Try.func39, Try.ntmps39
        go_wp2_with (first | ((with_reducible refine gate_callee (f := 38) rfl ?_); refine goesL_ (some 12) rfl rfl Try.func38 (by kernel_rfl) rfl #[.string a0] rfl (by (try simp only [List.map_toArray, List.map_cons, List.map_nil]); first | done | rfl | (simp only [List.length_drop, List.length_take]; rfl)) ?_; (with_reducible refine (concourseref01_Take.calls k a0 t162 t163 t164 _ A3.out).mono ?_); rintro e w' ⟨rfl, ⟨nd, rfl⟩⟩; refine ⟨_, rfl, ?_⟩))
        go_ret3
        exact ⟨by first | rfl | (simp; done) | (simp [*]; done), by repeat (first | exact Drawn0.refl _ | apply Drawn0.step)⟩
      · rw [if_neg c6] at H
        have c6b0 : decide (0 < t162) = false := decide_eq_false c6
        clear c6
        simp only [Option.some.injEq, Prod.mk.injEq] at H
        obtain ⟨rfl, rfl, rfl⟩ := H
        go_enter Try.func39, Try.ntmps39
        go_wp2_with (first | ((with_reducible refine gate_callee (f := 38) rfl ?_); refine goesL_ (some 12) rfl rfl Try.func38 (by kernel_rfl) rfl #[.string a0] rfl (by (try simp only [List.map_toArray, List.map_cons, List.map_nil]); first | done | rfl | (simp only [List.length_drop, List.length_take]; rfl)) ?_; (with_reducible refine (concourseref01_Take.calls k a0 t162 t163 t164 _ A3.out).mono ?_); rintro e w' ⟨rfl, ⟨nd, rfl⟩⟩; refine ⟨_, rfl, ?_⟩))
        go_ret3
        exact ⟨by first | rfl | (simp; done) | (simp [*]; done), by repeat (first | exact Drawn0.refl _ | apply Drawn0.step)⟩
    · rw [if_neg c5] at H
      have c5b0 : decide (a1 < 0) = false := decide_eq_false c5
      clear c5
      by_cases c7 : t162 > (IntKind.u64.wrap (a1))
      · rw [if_pos c7] at H
        have c7b0 : decide ((IntKind.u64.wrap (a1)) < t162) = true := decide_eq_true c7
        clear c7
        simp only [Option.some.injEq, Prod.mk.injEq] at H
        obtain ⟨rfl, rfl, rfl⟩ := H
        go_enter Try.func39, Try.ntmps39
        go_wp2_with (first | ((with_reducible refine gate_callee (f := 38) rfl ?_); refine goesL_ (some 12) rfl rfl Try.func38 (by kernel_rfl) rfl #[.string a0] rfl (by (try simp only [List.map_toArray, List.map_cons, List.map_nil]); first | done | rfl | (simp only [List.length_drop, List.length_take]; rfl)) ?_; (with_reducible refine (concourseref01_Take.calls k a0 t162 t163 t164 _ A3.out).mono ?_); rintro e w' ⟨rfl, ⟨nd, rfl⟩⟩; refine ⟨_, rfl, ?_⟩))
        go_ret3
        exact ⟨by first | rfl | (simp; done) | (simp [*]; done), by repeat (first | exact Drawn0.refl _ | apply Drawn0.step)⟩
      · rw [if_neg c7] at H
        have c7b0 : decide ((IntKind.u64.wrap (a1)) < t162) = false := decide_eq_false c7
        clear c7
        simp only [Option.some.injEq, Prod.mk.injEq] at H
        obtain ⟨rfl, rfl, rfl⟩ := H
        go_enter Try.func39, Try.ntmps39
        go_wp2_with (first | ((with_reducible refine gate_callee (f := 38) rfl ?_); refine goesL_ (some 12) rfl rfl Try.func38 (by kernel_rfl) rfl #[.string a0] rfl (by (try simp only [List.map_toArray, List.map_cons, List.map_nil]); first | done | rfl | (simp only [List.length_drop, List.length_take]; rfl)) ?_; (with_reducible refine (concourseref01_Take.calls k a0 t162 t163 t164 _ A3.out).mono ?_); rintro e w' ⟨rfl, ⟨nd, rfl⟩⟩; refine ⟨_, rfl, ?_⟩))
        go_ret3
        exact ⟨by first | rfl | (simp; done) | (simp [*]; done), by repeat (first | exact Drawn0.refl _ | apply Drawn0.step)⟩
  · rw [if_neg c4] at H
    have c4b0 : (t164 == 0) = false := beq_eq_false_iff_ne.mpr c4
    have c4b1 : (t164 != 0) = true := bne_iff_ne.mpr c4
    simp only [Option.some.injEq, Prod.mk.injEq] at H
    obtain ⟨rfl, rfl, rfl⟩ := H
    go_enter Try.func39, Try.ntmps39
    go_wp2_with (first | ((with_reducible refine gate_callee (f := 38) rfl ?_); refine goesL_ (some 12) rfl rfl Try.func38 (by kernel_rfl) rfl #[.string a0] rfl (by (try simp only [List.map_toArray, List.map_cons, List.map_nil]); first | done | rfl | (simp only [List.length_drop, List.length_take]; rfl)) ?_; (with_reducible refine (concourseref01_Take.calls k a0 t162 t163 t164 _ A3.out).mono ?_); rintro e w' ⟨rfl, ⟨nd, rfl⟩⟩; refine ⟨_, rfl, ?_⟩))
    go_ret3
    exact ⟨by first | rfl | (simp; done) | (simp [*]; done), by repeat (first | exact Drawn0.refl _ | apply Drawn0.step)⟩

end Go.Proofs.Ytdnhmlpjohojdaa.R
namespace Go.Proofs.Ytdnhmlpjohojdaa.R
open Go.RowKit Go.Proofs.YtdnhmlpjohojdaaW.PrintWords Go.Proofs.YtdnhmlpjohojdaaW.PrintLast Go.Proofs.YtdnhmlpjohojdaaW.PrintMore
attribute [local go_sem] max2_int min2_int max_two min_two max_three min_three max_four min_four   -- for this text's walks alone

/-! ### concourseref37_Take: function 40 -/
def concourseref37_Take.l0 : Nat → ByteArray → List Int → Int → Option (Int × Int × Int × Int × Int × Int × Int × Int × Int × Int)
  | 0, _, _, _ => none
  | k + 1, x0, x4, x5 => if x5 < 9 then ((concourseref02_Int.f k x0 1048576).bind fun bt166 => (if bt166.2.2 = 0 then (if x4.length < 17592186044416 then (if 0 ≤ bt166.2.1 then (if bt166.2.1 ≤ (x0.size : Int) then (concourseref37_Take.l0 k (x0.extract (bt166.2.1 : Int).toNat x0.size) (x4 ++ [bt166.1]) (wrap64 (x5 + 1))) else (none)) else (none)) else (none)) else (some (0, 0, 0, 0, 0, 0, 0, 0, 0, 1)))) else (if x0.toList = ([] : List UInt8) then ((concourseref37_Of.f k x4).bind fun bt172 => (some (bt172.1, bt172.2.1, bt172.2.2.1, bt172.2.2.2.1, bt172.2.2.2.2.1, bt172.2.2.2.2.2.1, bt172.2.2.2.2.2.2.1, bt172.2.2.2.2.2.2.2.1, bt172.2.2.2.2.2.2.2.2.1, bt172.2.2.2.2.2.2.2.2.2))) else (some (0, 0, 0, 0, 0, 0, 0, 0, 0, 1)))
def concourseref37_Take.f (k : Nat) (a0 : ByteArray) : Option (Int × Int × Int × Int × Int × Int × Int × Int × Int × Int) := concourseref37_Take.l0 k a0 ([] : List Int) 0
theorem concourseref37_Take.mono_l : ∀ k, (∀ y0 y1 y2, LeO (concourseref37_Take.l0 k y0 y1 y2) (concourseref37_Take.l0 (k + 1) y0 y1 y2))
  | 0 => fun _ _ _ r h => by simp [concourseref37_Take.l0] at h
  | k + 1 => by
    have ih0 := concourseref37_Take.mono_l k
    · intro y0 y1 y2
      unfold concourseref37_Take.l0
      repeat' first
      | (with_reducible exact ih0 _ _ _)
      | (with_reducible exact concourseref02_Int.mono _ _ _)
      | (with_reducible exact concourseref37_Of.mono _ _)
      | (with_reducible exact LeO.refl _)
      | (with_reducible exact LeO.none _)
      | (with_reducible refine LeO.ite ?_ ?_)
      | (with_reducible refine LeO.bind ?_ (fun _ => ?_))
      | exact ih0 _ _ _
      | exact concourseref02_Int.mono _ _ _
      | exact concourseref37_Of.mono _ _
      | exact LeO.none _
      | refine LeO.ite ?_ ?_
      | refine LeO.bind ?_ (fun _ => ?_)
theorem concourseref37_Take.mono : ∀ a0 k, LeO (concourseref37_Take.f k a0) (concourseref37_Take.f (k + 1) a0) := by
  intro a0 k
  have ih0 := concourseref37_Take.mono_l k
  unfold concourseref37_Take.f
  repeat' first
      | (with_reducible exact ih0 _ _ _)
      | (with_reducible exact concourseref02_Int.mono _ _ _)
      | (with_reducible exact concourseref37_Of.mono _ _)
      | (with_reducible exact LeO.refl _)
      | (with_reducible exact LeO.none _)
      | (with_reducible refine LeO.ite ?_ ?_)
      | (with_reducible refine LeO.bind ?_ (fun _ => ?_))
      | exact ih0 _ _ _
      | exact concourseref02_Int.mono _ _ _
      | exact concourseref37_Of.mono _ _
      | exact LeO.none _
      | refine LeO.ite ?_ ?_
      | refine LeO.bind ?_ (fun _ => ?_)
set_option maxHeartbeats 8000000 in
set_option maxRecDepth 100000 in
theorem concourseref37_Take.calls (k : Nat) (a0 : ByteArray) (r1 : Int) (r2 : Int) (r3 : Int) (r4 : Int) (r5 : Int) (r6 : Int) (r7 : Int) (r8 : Int) (r9 : Int) (r10 : Int) (w : World) (h : concourseref37_Take.f k a0 = some (r1, r2, r3, r4, r5, r6, r7, r8, r9, r10)) :
    Calls Try.prog 40 #[.string a0] w fun e w' => e = .returned (.tuple #[.agg #[.int .i64 r1, .int .i64 r2, .int .i64 r3, .int .i64 r4, .int .i64 r5, .int .i64 r6, .int .i64 r7, .int .i64 r8, .int .i64 r9], .int .i64 r10]) ∧ Below w.heap.size w w' := by
  have hu24 := Try.underlying24
  have HB := Aside0.mk (Below.refl w.heap.size w)
  have H : (concourseref37_Take.l0 k a0 ([] : List Int) 0) = some (r1, r2, r3, r4, r5, r6, r7, r8, r9, r10) := h
  clear h
  have H' := Aside0.mk H
  clear H
  go_enter Try.func40, Try.ntmps40
  go_wp2_with (first | ((with_reducible refine gate_dst (N := 2) rfl ?_); refine box_event ?hg (N := 2) ?hd (cs := #[.int .i64 0, .int .i64 0, .int .i64 0, .int .i64 0, .int .i64 0, .int .i64 0, .int .i64 0, .int .i64 0, .int .i64 0]) (t := 24) ?hr ?_; (case hd => rfl); (case hg => rfl); (case hr => first | (go_simp; done) | (go_simp; rfl)); intro gb165 hg w2 hbox hb; have n0_ := Aside0.mk (below_step (by repeat (first | (with_reducible first | exact HB.out | apply below_alloc | apply pw_below_drewN | apply below_drew1) | exact HB.out)) hb); have n1_ := Aside0.mk (hbox); have n2_ := Aside0.mk ((by rw [hg]; exact (below_size (by repeat (first | (with_reducible first | exact HB.out | apply below_alloc | apply pw_below_drewN | apply below_drew1) | exact HB.out))) : w.heap.size ≤ gb165)); have n3_ := Aside0.mk ((by rw [hg]; exact (below_size (by repeat (first | (with_reducible first | exact HB.out | apply below_alloc | apply pw_below_drewN | apply below_drew1) | exact HB.out))) : w.heap.size ≤ gb165)); clear HB; have HB := n0_; have BK165 := n1_; have GW165 := n2_; have GE165 := n3_; clear n0_ n1_ n2_ n3_; clear hb hbox hg))
  go_loopg [0, 4, 5] k (fun kq v0 v4 v5 w' => ∃ (x0_1 : ByteArray) (x4_1 : List Int) (x5_1 : Int) (x166000_1 : Int) (x166001_1 : Int) (x166002_1 : Int) (x166003_1 : Int) (x166004_1 : Int) (x166005_1 : Int) (x166006_1 : Int) (x166007_1 : Int) (x166008_1 : Int), v0 = .string x0_1 ∧ v5 = .int .i64 x5_1 ∧ Aside0 (concourseref37_Take.l0 kq x0_1 x4_1 x5_1 = some (r1, r2, r3, r4, r5, r6, r7, r8, r9, r10)) ∧ Aside0 (kq ≤ k) ∧ Aside0 (Kd.R (Kd.int .i64) 3 w' w.heap.size (fun _ => True) v4 x4_1) ∧ Aside0 (w'.heap[gb165]? = some (.cells #[.int .i64 x166000_1, .int .i64 x166001_1, .int .i64 x166002_1, .int .i64 x166003_1, .int .i64 x166004_1, .int .i64 x166005_1, .int .i64 x166006_1, .int .i64 x166007_1, .int .i64 x166008_1] 24 (0, 0))) ∧ Aside0 (Below w.heap.size w w'))
  case atStart => exact ⟨(a0), (([] : List Int)), (0), (0), (0), (0), (0), (0), (0), (0), (0), (0), (by first | rfl | (simp; done) | (simp [*]; done)), (by first | rfl | (simp; done) | (simp [*]; done)), H', ⟨Nat.le_refl _⟩, ⟨by first | exact Kd.R_nil _ _ _ _ _ | exact Kd.N_nil _ _ _ _ _ | exact Kd.V_nil _ _ _ _ _ | exact Kd.Q_nil _ _ _ _ _ | exact Kd.S_nil _ _ _ _ _⟩, ⟨by (with_reducible repeat (first | refine blk_drewN ?_ _ | refine blk_drew ?_ | refine blk_alloc ?_ _)); exact BK165.out⟩, ⟨by repeat (first | (with_reducible first | exact HB.out | apply below_alloc | apply pw_below_drewN | apply below_drew1 | refine below_set ?_ GE165.out) | exact HB.out)⟩⟩
  case round =>
    clear H'
    try clear p2
    obtain ⟨x0_1, x4_1, x5_1, x166000_1, x166001_1, x166002_1, x166003_1, x166004_1, x166005_1, x166006_1, x166007_1, x166008_1, rfl, rfl, HA, HK1, HO_4, BK165, HB⟩ := hrel
    cases gk with
    | zero => exact absurd HA.out (by simp [concourseref37_Take.l0])
    | succ k1 =>
      have H := HA.out
      clear HA
      simp only [concourseref37_Take.l0] at H
      by_cases c3 : x5_1 < 9
      · rw [if_pos c3] at H
        have c3b0 : decide (x5_1 < 9) = true := decide_eq_true c3
        clear c3
        replace H := Option.bind_eq_some_iff.mp H
        obtain ⟨⟨t166, t167, t168⟩, A40, H⟩ := H
        replace H : (if t168 = 0 then (if x4_1.length < 17592186044416 then (if 0 ≤ t167 then (if t167 ≤ (x0_1.size : Int) then (concourseref37_Take.l0 k1 (x0_1.extract (t167 : Int).toNat x0_1.size) (x4_1 ++ [t166]) (wrap64 (x5_1 + 1))) else (none)) else (none)) else (none)) else (some (0, 0, 0, 0, 0, 0, 0, 0, 0, 1))) = some (r1, r2, r3, r4, r5, r6, r7, r8, r9, r10) := H
        have A4 := Aside0.mk A40
        clear A40
        by_cases c5 : t168 = 0
        · rw [if_pos c5] at H
          have c5b0 : (t168 == 0) = true := beq_iff_eq.mpr c5
          have c5b1 : (t168 != 0) = false := bne_eq_false_iff_eq.mpr c5
          clear c5
          by_cases c6 : x4_1.length < 17592186044416
          · rw [if_pos c6] at H
            have LMc6 := Aside0.mk c6
            clear c6
            obtain ⟨y169, hy169⟩ : ∃ y_ : List Int, y_ = (x4_1 ++ [t166]) := ⟨_, rfl⟩
            replace H : (if 0 ≤ t167 then (if t167 ≤ (x0_1.size : Int) then (concourseref37_Take.l0 k1 (x0_1.extract (t167 : Int).toNat x0_1.size) y169 (wrap64 (x5_1 + 1))) else (none)) else (none)) = some (r1, r2, r3, r4, r5, r6, r7, r8, r9, r10) := by first | (rw [hy169]; with_reducible exact H) | (have H2_ := (Option.bind_some _ _).symm.trans H; rw [hy169]; with_reducible exact H2_) | (have H2_ := (Option.bind_some _ _).symm.trans H; with_reducible exact H2_) | with_reducible exact H | (rw [hy169]; exact H) | exact H
            have Ny169 := Aside0.mk hy169
            clear hy169
            by_cases c7 : 0 ≤ t167
            · rw [if_pos c7] at H
              have c7b0 := eq_true c7
              have c7b1 : decide (0 ≤ t167) = true := decide_eq_true c7
              clear c7
              by_cases c8 : t167 ≤ (x0_1.size : Int)
              · rw [if_pos c8] at H
                have c8b0 := eq_true c8
                have c8b1 : decide (t167 ≤ (x0_1.size : Int)) = true := decide_eq_true c8
                clear c8
                have H' := Aside0.mk H
                clear H
                go_wp2_with (first | ((with_reducible refine gate_callee (f := 39) rfl ?_); refine goesL_ (some 15) rfl rfl Try.func39 (by kernel_rfl) rfl #[.string x0_1, .int .i64 1048576] rfl (by (try simp only [List.map_toArray, List.map_cons, List.map_nil]); first | done | rfl | (simp only [List.length_drop, List.length_take]; rfl)) ?_; (with_reducible refine (concourseref02_Int.calls k1 x0_1 1048576 t166 t167 t168 _ A4.out).mono ?_); rintro e w' ⟨rfl, ⟨nd, rfl⟩⟩; refine ⟨_, rfl, ?_⟩) | ((with_reducible refine gate_builtin (b := .append) (xs := #[.tmp 22, .tmp 24]) rfl ?_); at_builtin; refine Kd.R_append (Kd.int .i64) (w0 := w) w.heap.size rfl (.tmp 22) (.tmp 24) 57 3 (.int .i64 0) 8 rfl Try.underlying57 info3 rfl (by decide) (by omega) u4 x4_1 t166 [.int .i64 t166] (fun _ => True) (fun _ => False) rfl rfl ?aP (fun _ hk => hk.elim) ?aF ?aO ?aB ?aS ?aL ?_; (case aP => exact rfl); (case aB => exact (by repeat (first | (with_reducible first | exact HB.out | apply below_alloc | apply pw_below_drewN | apply below_drew1 | refine below_set ?_ GE165.out) | exact HB.out))); (case aF => exact (fun _ _ => trivial)); (case aO => exact (by (with_reducible repeat (first | apply Kd.R_alloc | apply Kd.R_drewN | apply Kd.R_drew)); exact HO_4.out)); (case aS => exact (below_size (by repeat (first | (with_reducible first | exact HB.out | apply below_alloc | apply pw_below_drewN | apply below_drew1 | refine below_set ?_ GE165.out) | exact HB.out)))); (case aL => have := LMc6.out; omega); intro v170 w9 ho hb hg hat; rw [← Ny169.out] at ho; have n0_ := Aside0.mk (blk_grown (g := gb165) (o := .cells #[.int .i64 x166000_1, .int .i64 x166001_1, .int .i64 x166002_1, .int .i64 x166003_1, .int .i64 x166004_1, .int .i64 x166005_1, .int .i64 x166006_1, .int .i64 x166007_1, .int .i64 x166008_1] 24 (0, 0)) (by (with_reducible repeat (first | refine blk_drewN ?_ _ | refine blk_drew ?_ | refine blk_alloc ?_ _)); exact BK165.out) hg (Kd.R_ne HO_4.out BK165.out (by decide))); have n1_ := Aside0.mk (hb); have n2_ := Aside0.mk (ho); clear BK165; clear HB; clear HO_4; have BK165 := n0_; have HB := n1_; have HO171 := n2_; clear n0_ n1_ n2_; clear ho hb hg hat))
                go_roundg k1
                case measure => have := HK1.out; omega
                case rel => exact ⟨(x0_1.extract (t167 : Int).toNat x0_1.size), (y169), (wrap64 (x5_1 + 1)), (x166000_1), (x166001_1), (x166002_1), (x166003_1), (x166004_1), (x166005_1), (x166006_1), (x166007_1), (x166008_1), (by first | rfl | (simp; done) | (simp [*]; done)), (by first | rfl | (simp; done) | (simp [*]; done)), H', ⟨by have := HK1.out; omega⟩, ⟨by (with_reducible repeat (first | apply Kd.R_alloc | apply Kd.R_drewN | apply Kd.R_drew)); exact HO171.out⟩, ⟨by (with_reducible repeat (first | refine blk_drewN ?_ _ | refine blk_drew ?_ | refine blk_alloc ?_ _)); exact BK165.out⟩, ⟨by repeat (first | (with_reducible first | exact HB.out | apply below_alloc | apply pw_below_drewN | apply below_drew1 | refine below_set ?_ GE165.out) | exact HB.out)⟩⟩
              · rw [if_neg c8] at H
                exact absurd H (by simp)
            · rw [if_neg c7] at H
              exact absurd H (by simp)
          · rw [if_neg c6] at H
            exact absurd H (by simp)
        · rw [if_neg c5] at H
          have c5b0 : (t168 == 0) = false := beq_eq_false_iff_ne.mpr c5
          have c5b1 : (t168 != 0) = true := bne_iff_ne.mpr c5
          simp only [Option.some.injEq, Prod.mk.injEq] at H
          obtain ⟨rfl, rfl, rfl, rfl, rfl, rfl, rfl, rfl, rfl, rfl⟩ := H
          go_wp2_with (first | ((with_reducible refine gate_callee (f := 39) rfl ?_); refine goesL_ (some 15) rfl rfl Try.func39 (by kernel_rfl) rfl #[.string x0_1, .int .i64 1048576] rfl (by (try simp only [List.map_toArray, List.map_cons, List.map_nil]); first | done | rfl | (simp only [List.length_drop, List.length_take]; rfl)) ?_; (with_reducible refine (concourseref02_Int.calls k1 x0_1 1048576 t166 t167 t168 _ A4.out).mono ?_); rintro e w' ⟨rfl, ⟨nd, rfl⟩⟩; refine ⟨_, rfl, ?_⟩; (try (rw [drewN_self wr]; generalize hq_ : World.drewN wr _ = wr; have n0_ : Aside0 (Kd.R (Kd.int .i64) 3 wr w.heap.size (fun _ => True) u4 x4_1) := ⟨by rw [← hq_]; exact (by (with_reducible repeat (first | apply Kd.R_alloc | apply Kd.R_drewN | apply Kd.R_drew)); exact HO_4.out)⟩; have n1_ : Aside0 (wr.heap[gb165]? = some (.cells #[.int .i64 x166000_1, .int .i64 x166001_1, .int .i64 x166002_1, .int .i64 x166003_1, .int .i64 x166004_1, .int .i64 x166005_1, .int .i64 x166006_1, .int .i64 x166007_1, .int .i64 x166008_1] 24 (0, 0))) := ⟨by rw [← hq_]; exact (by (with_reducible repeat (first | refine blk_drewN ?_ _ | refine blk_drew ?_ | refine blk_alloc ?_ _)); exact BK165.out)⟩; have n2_ : Aside0 (Below w.heap.size w wr) := ⟨by rw [← hq_]; exact (by repeat (first | (with_reducible first | exact HB.out | apply below_alloc | apply pw_below_drewN | apply below_drew1 | refine below_set ?_ GE165.out) | exact HB.out))⟩; clear HO_4 BK165 HB hq_; have HO_4 := n0_; have BK165 := n1_; have HB := n2_; clear n0_ n1_ n2_)); have hcz10_0 : wr.cell? ⟨gb165, 0, none⟩ = some (.int .i64 x166000_1) := (blk_cell BK165.out 0).trans rfl; have hcz10_1 : wr.cell? ⟨gb165, 1, none⟩ = some (.int .i64 x166001_1) := (blk_cell BK165.out 1).trans rfl; have hcz10_2 : wr.cell? ⟨gb165, 2, none⟩ = some (.int .i64 x166002_1) := (blk_cell BK165.out 2).trans rfl; have hcz10_3 : wr.cell? ⟨gb165, 3, none⟩ = some (.int .i64 x166003_1) := (blk_cell BK165.out 3).trans rfl; have hcz10_4 : wr.cell? ⟨gb165, 4, none⟩ = some (.int .i64 x166004_1) := (blk_cell BK165.out 4).trans rfl; have hcz10_5 : wr.cell? ⟨gb165, 5, none⟩ = some (.int .i64 x166005_1) := (blk_cell BK165.out 5).trans rfl; have hcz10_6 : wr.cell? ⟨gb165, 6, none⟩ = some (.int .i64 x166006_1) := (blk_cell BK165.out 6).trans rfl; have hcz10_7 : wr.cell? ⟨gb165, 7, none⟩ = some (.int .i64 x166007_1) := (blk_cell BK165.out 7).trans rfl; have hcz10_8 : wr.cell? ⟨gb165, 8, none⟩ = some (.int .i64 x166008_1) := (blk_cell BK165.out 8).trans rfl; have hfz10_0 := blk_frozen BK165.out 0; have hfz10_1 := blk_frozen BK165.out 1; have hfz10_2 := blk_frozen BK165.out 2; have hfz10_3 := blk_frozen BK165.out 3; have hfz10_4 := blk_frozen BK165.out 4; have hfz10_5 := blk_frozen BK165.out 5; have hfz10_6 := blk_frozen BK165.out 6; have hfz10_7 := blk_frozen BK165.out 7; have hfz10_8 := blk_frozen BK165.out 8))
          refine bodyPost_ret (results_ct rfl _ _ gb165 24 #[.int .i64 0, .int .i64 0, .int .i64 0, .int .i64 0, .int .i64 0, .int .i64 0, .int .i64 0, .int .i64 0, .int .i64 0] (0, 0) _ rfl (by (with_reducible repeat (first | refine blk_drewN ?_ _ | refine blk_drew ?_ | refine blk_alloc ?_ _)); refine blk_put (cs := #[.int .i64 0, .int .i64 0, .int .i64 0, .int .i64 0, .int .i64 0, .int .i64 0, .int .i64 0, .int .i64 0, .int .i64 x166008_1]) ?_ 8 _ rfl; (with_reducible repeat (first | refine blk_drewN ?_ _ | refine blk_drew ?_ | refine blk_alloc ?_ _)); refine blk_put (cs := #[.int .i64 0, .int .i64 0, .int .i64 0, .int .i64 0, .int .i64 0, .int .i64 0, .int .i64 0, .int .i64 x166007_1, .int .i64 x166008_1]) ?_ 7 _ rfl; (with_reducible repeat (first | refine blk_drewN ?_ _ | refine blk_drew ?_ | refine blk_alloc ?_ _)); refine blk_put (cs := #[.int .i64 0, .int .i64 0, .int .i64 0, .int .i64 0, .int .i64 0, .int .i64 0, .int .i64 x166006_1, .int .i64 x166007_1, .int .i64 x166008_1]) ?_ 6 _ rfl; (with_reducible repeat (first | refine blk_drewN ?_ _ | refine blk_drew ?_ | refine blk_alloc ?_ _)); refine blk_put (cs := #[.int .i64 0, .int .i64 0, .int .i64 0, .int .i64 0, .int .i64 0, .int .i64 x166005_1, .int .i64 x166006_1, .int .i64 x166007_1, .int .i64 x166008_1]) ?_ 5 _ rfl; (with_reducible repeat (first | refine blk_drewN ?_ _ | refine blk_drew ?_ | refine blk_alloc ?_ _)); refine blk_put (cs := #[.int .i64 0, .int .i64 0, .int .i64 0, .int .i64 0, .int .i64 x166004_1, .int .i64 x166005_1, .int .i64 x166006_1, .int .i64 x166007_1, .int .i64 x166008_1]) ?_ 4 _ rfl; (with_reducible repeat (first | refine blk_drewN ?_ _ | refine blk_drew ?_ | refine blk_alloc ?_ _)); refine blk_put (cs := #[.int .i64 0, .int .i64 0, .int .i64 0, .int .i64 x166003_1, .int .i64 x166004_1, .int .i64 x166005_1, .int .i64 x166006_1, .int .i64 x166007_1, .int .i64 x166008_1]) ?_ 3 _ rfl; (with_reducible repeat (first | refine blk_drewN ?_ _ | refine blk_drew ?_ | refine blk_alloc ?_ _)); refine blk_put (cs := #[.int .i64 0, .int .i64 0, .int .i64 x166002_1, .int .i64 x166003_1, .int .i64 x166004_1, .int .i64 x166005_1, .int .i64 x166006_1, .int .i64 x166007_1, .int .i64 x166008_1]) ?_ 2 _ rfl; (with_reducible repeat (first | refine blk_drewN ?_ _ | refine blk_drew ?_ | refine blk_alloc ?_ _)); refine blk_put (cs := #[.int .i64 0, .int .i64 x166001_1, .int .i64 x166002_1, .int .i64 x166003_1, .int .i64 x166004_1, .int .i64 x166005_1, .int .i64 x166006_1, .int .i64 x166007_1, .int .i64 x166008_1]) ?_ 1 _ rfl; (with_reducible repeat (first | refine blk_drewN ?_ _ | refine blk_drew ?_ | refine blk_alloc ?_ _)); refine blk_put (cs := #[.int .i64 x166000_1, .int .i64 x166001_1, .int .i64 x166002_1, .int .i64 x166003_1, .int .i64 x166004_1, .int .i64 x166005_1, .int .i64 x166006_1, .int .i64 x166007_1, .int .i64 x166008_1]) ?_ 0 _ rfl; (with_reducible repeat (first | refine blk_drewN ?_ _ | refine blk_drew ?_ | refine blk_alloc ?_ _)); exact BK165.out) Try.underlying24 rfl (by kernel_rfl)) rfl ?_
          exact ⟨by first | rfl | (simp [errW_none, errW_some] <;> rfl) | (simp [*, errW_none, errW_some] <;> rfl), by repeat (first | (with_reducible first | exact HB.out | apply below_alloc | apply pw_below_drewN | apply below_drew1 | refine below_set ?_ GE165.out) | exact HB.out)⟩
      · rw [if_neg c3] at H
        have c3b0 : decide (x5_1 < 9) = false := decide_eq_false c3
        clear c3
        by_cases c11 : x0_1.toList = ([] : List UInt8)
        · rw [if_pos c11] at H
          have c11b0 : (x0_1.toList == ([] : List UInt8)) = true := beq_iff_eq.mpr c11
          have c11b1 : (x0_1.toList != ([] : List UInt8)) = false := bne_eq_false_iff_eq.mpr c11
          clear c11
          replace H := Option.bind_eq_some_iff.mp H
          obtain ⟨⟨t172, t173, t174, t175, t176, t177, t178, t179, t180, t181⟩, A120, H⟩ := H
          replace H : (some (t172, t173, t174, t175, t176, t177, t178, t179, t180, t181)) = some (r1, r2, r3, r4, r5, r6, r7, r8, r9, r10) := H
          have A12 := Aside0.mk A120
          clear A120
          simp only [Option.some.injEq, Prod.mk.injEq] at H
          obtain ⟨rfl, rfl, rfl, rfl, rfl, rfl, rfl, rfl, rfl, rfl⟩ := H
          obtain ⟨Ao13, co13, eo13⟩ := Kd.R_slice HO_4.out
          subst eo13
          go_wp2_with (first | ((with_reducible refine gate_callee (f := 61) rfl ?_); refine goesL_ (some 33) rfl rfl Try.func61 (by kernel_rfl) rfl #[.slice Ao13 x4_1.length co13] rfl (by (try simp only [List.map_toArray, List.map_cons, List.map_nil]); first | done | rfl | (simp only [List.length_drop, List.length_take]; rfl)) ?_; (with_reducible refine (concourseref37_Of.calls k1 _ _ x4_1 t172 t173 t174 t175 t176 t177 t178 t179 t180 t181 _ ?side1 ?side2 A12.out).mono ?_); (case side1 => repeat (first | exact (Kd.R_reads' HO_4.out).2.2 | (with_reducible refine Kd.C_alloc ?_ _) | (with_reducible refine Kd.C_drewN ?_ _) | (with_reducible refine Kd.C_drew ?_))); (case side2 => exact (Kd.R_reads' HO_4.out).2.1); rintro e w14 ⟨rfl, hb⟩; refine ⟨_, rfl, ?_⟩; have n0_ := Aside0.mk (Kd.R_below (by (with_reducible repeat (first | apply Kd.R_alloc | apply Kd.R_drewN | apply Kd.R_drew)); exact HO_4.out) hb); have n1_ := Aside0.mk (blk_below (g := gb165) (o := .cells #[.int .i64 x166000_1, .int .i64 x166001_1, .int .i64 x166002_1, .int .i64 x166003_1, .int .i64 x166004_1, .int .i64 x166005_1, .int .i64 x166006_1, .int .i64 x166007_1, .int .i64 x166008_1] 24 (0, 0)) (by (with_reducible repeat (first | refine blk_drewN ?_ _ | refine blk_drew ?_ | refine blk_alloc ?_ _)); exact BK165.out) hb); have n2_ := Aside0.mk (below_step (by repeat (first | (with_reducible first | exact HB.out | apply below_alloc | apply pw_below_drewN | apply below_drew1 | refine below_set ?_ GE165.out) | exact HB.out)) hb); clear HO_4; clear BK165; clear HB; have HO_4 := n0_; have BK165 := n1_; have HB := n2_; clear n0_ n1_ n2_; (try clear hb); (try clear hb2); (try clear hk); (try clear hi); have hcz15_0 : w14.cell? ⟨gb165, 0, none⟩ = some (.int .i64 x166000_1) := (blk_cell BK165.out 0).trans rfl; have hcz15_1 : w14.cell? ⟨gb165, 1, none⟩ = some (.int .i64 x166001_1) := (blk_cell BK165.out 1).trans rfl; have hcz15_2 : w14.cell? ⟨gb165, 2, none⟩ = some (.int .i64 x166002_1) := (blk_cell BK165.out 2).trans rfl; have hcz15_3 : w14.cell? ⟨gb165, 3, none⟩ = some (.int .i64 x166003_1) := (blk_cell BK165.out 3).trans rfl; have hcz15_4 : w14.cell? ⟨gb165, 4, none⟩ = some (.int .i64 x166004_1) := (blk_cell BK165.out 4).trans rfl; have hcz15_5 : w14.cell? ⟨gb165, 5, none⟩ = some (.int .i64 x166005_1) := (blk_cell BK165.out 5).trans rfl; have hcz15_6 : w14.cell? ⟨gb165, 6, none⟩ = some (.int .i64 x166006_1) := (blk_cell BK165.out 6).trans rfl; have hcz15_7 : w14.cell? ⟨gb165, 7, none⟩ = some (.int .i64 x166007_1) := (blk_cell BK165.out 7).trans rfl; have hcz15_8 : w14.cell? ⟨gb165, 8, none⟩ = some (.int .i64 x166008_1) := (blk_cell BK165.out 8).trans rfl; have hfz15_0 := blk_frozen BK165.out 0; have hfz15_1 := blk_frozen BK165.out 1; have hfz15_2 := blk_frozen BK165.out 2; have hfz15_3 := blk_frozen BK165.out 3; have hfz15_4 := blk_frozen BK165.out 4; have hfz15_5 := blk_frozen BK165.out 5; have hfz15_6 := blk_frozen BK165.out 6; have hfz15_7 := blk_frozen BK165.out 7; have hfz15_8 := blk_frozen BK165.out 8))
          refine bodyPost_ret (results_ct rfl _ _ gb165 24 #[.int .i64 t172, .int .i64 t173, .int .i64 t174, .int .i64 t175, .int .i64 t176, .int .i64 t177, .int .i64 t178, .int .i64 t179, .int .i64 t180] (0, 0) _ rfl (by (with_reducible repeat (first | refine blk_drewN ?_ _ | refine blk_drew ?_ | refine blk_alloc ?_ _)); refine blk_put (cs := #[.int .i64 t172, .int .i64 t173, .int .i64 t174, .int .i64 t175, .int .i64 t176, .int .i64 t177, .int .i64 t178, .int .i64 t179, .int .i64 x166008_1]) ?_ 8 _ rfl; (with_reducible repeat (first | refine blk_drewN ?_ _ | refine blk_drew ?_ | refine blk_alloc ?_ _)); refine blk_put (cs := #[.int .i64 t172, .int .i64 t173, .int .i64 t174, .int .i64 t175, .int .i64 t176, .int .i64 t177, .int .i64 t178, .int .i64 x166007_1, .int .i64 x166008_1]) ?_ 7 _ rfl; (with_reducible repeat (first | refine blk_drewN ?_ _ | refine blk_drew ?_ | refine blk_alloc ?_ _)); refine blk_put (cs := #[.int .i64 t172, .int .i64 t173, .int .i64 t174, .int .i64 t175, .int .i64 t176, .int .i64 t177, .int .i64 x166006_1, .int .i64 x166007_1, .int .i64 x166008_1]) ?_ 6 _ rfl; (with_reducible repeat (first | refine blk_drewN ?_ _ | refine blk_drew ?_ | refine blk_alloc ?_ _)); refine blk_put (cs := #[.int .i64 t172, .int .i64 t173, .int .i64 t174, .int .i64 t175, .int .i64 t176, .int .i64 x166005_1, .int .i64 x166006_1, .int .i64 x166007_1, .int .i64 x166008_1]) ?_ 5 _ rfl; (with_reducible repeat (first | refine blk_drewN ?_ _ | refine blk_drew ?_ | refine blk_alloc ?_ _)); refine blk_put (cs := #[.int .i64 t172, .int .i64 t173, .int .i64 t174, .int .i64 t175, .int .i64 x166004_1, .int .i64 x166005_1, .int .i64 x166006_1, .int .i64 x166007_1, .int .i64 x166008_1]) ?_ 4 _ rfl; (with_reducible repeat (first | refine blk_drewN ?_ _ | refine blk_drew ?_ | refine blk_alloc ?_ _)); refine blk_put (cs := #[.int .i64 t172, .int .i64 t173, .int .i64 t174, .int .i64 x166003_1, .int .i64 x166004_1, .int .i64 x166005_1, .int .i64 x166006_1, .int .i64 x166007_1, .int .i64 x166008_1]) ?_ 3 _ rfl; (with_reducible repeat (first | refine blk_drewN ?_ _ | refine blk_drew ?_ | refine blk_alloc ?_ _)); refine blk_put (cs := #[.int .i64 t172, .int .i64 t173, .int .i64 x166002_1, .int .i64 x166003_1, .int .i64 x166004_1, .int .i64 x166005_1, .int .i64 x166006_1, .int .i64 x166007_1, .int .i64 x166008_1]) ?_ 2 _ rfl; (with_reducible repeat (first | refine blk_drewN ?_ _ | refine blk_drew ?_ | refine blk_alloc ?_ _)); refine blk_put (cs := #[.int .i64 t172, .int .i64 x166001_1, .int .i64 x166002_1, .int .i64 x166003_1, .int .i64 x166004_1, .int .i64 x166005_1, .int .i64 x166006_1, .int .i64 x166007_1, .int .i64 x166008_1]) ?_ 1 _ rfl; (with_reducible repeat (first | refine blk_drewN ?_ _ | refine blk_drew ?_ | refine blk_alloc ?_ _)); refine blk_put (cs := #[.int .i64 x166000_1, .int .i64 x166001_1, .int .i64 x166002_1, .int .i64 x166003_1, .int .i64 x166004_1, .int .i64 x166005_1, .int .i64 x166006_1, .int .i64 x166007_1, .int .i64 x166008_1]) ?_ 0 _ rfl; (with_reducible repeat (first | refine blk_drewN ?_ _ | refine blk_drew ?_ | refine blk_alloc ?_ _)); exact BK165.out) Try.underlying24 rfl (by kernel_rfl)) rfl ?_
          exact ⟨by first | rfl | (simp [errW_none, errW_some] <;> rfl) | (simp [*, errW_none, errW_some] <;> rfl), by repeat (first | (with_reducible first | exact HB.out | apply below_alloc | apply pw_below_drewN | apply below_drew1 | refine below_set ?_ GE165.out) | exact HB.out)⟩
        · rw [if_neg c11] at H
          have c11b0 : (x0_1.toList == ([] : List UInt8)) = false := beq_eq_false_iff_ne.mpr c11
          have c11b1 : (x0_1.toList != ([] : List UInt8)) = true := bne_iff_ne.mpr c11
          simp only [Option.some.injEq, Prod.mk.injEq] at H
          obtain ⟨rfl, rfl, rfl, rfl, rfl, rfl, rfl, rfl, rfl, rfl⟩ := H
          have hcz16_0 : wr.cell? ⟨gb165, 0, none⟩ = some (.int .i64 x166000_1) := (blk_cell BK165.out 0).trans rfl
          have hcz16_1 : wr.cell? ⟨gb165, 1, none⟩ = some (.int .i64 x166001_1) := (blk_cell BK165.out 1).trans rfl
          have hcz16_2 : wr.cell? ⟨gb165, 2, none⟩ = some (.int .i64 x166002_1) := (blk_cell BK165.out 2).trans rfl
          have hcz16_3 : wr.cell? ⟨gb165, 3, none⟩ = some (.int .i64 x166003_1) := (blk_cell BK165.out 3).trans rfl
          have hcz16_4 : wr.cell? ⟨gb165, 4, none⟩ = some (.int .i64 x166004_1) := (blk_cell BK165.out 4).trans rfl
          have hcz16_5 : wr.cell? ⟨gb165, 5, none⟩ = some (.int .i64 x166005_1) := (blk_cell BK165.out 5).trans rfl
          have hcz16_6 : wr.cell? ⟨gb165, 6, none⟩ = some (.int .i64 x166006_1) := (blk_cell BK165.out 6).trans rfl
          have hcz16_7 : wr.cell? ⟨gb165, 7, none⟩ = some (.int .i64 x166007_1) := (blk_cell BK165.out 7).trans rfl
          have hcz16_8 : wr.cell? ⟨gb165, 8, none⟩ = some (.int .i64 x166008_1) := (blk_cell BK165.out 8).trans rfl
          have hfz16_0 := blk_frozen BK165.out 0
          have hfz16_1 := blk_frozen BK165.out 1
          have hfz16_2 := blk_frozen BK165.out 2
          have hfz16_3 := blk_frozen BK165.out 3
          have hfz16_4 := blk_frozen BK165.out 4
          have hfz16_5 := blk_frozen BK165.out 5
          have hfz16_6 := blk_frozen BK165.out 6
          have hfz16_7 := blk_frozen BK165.out 7
          have hfz16_8 := blk_frozen BK165.out 8
          go_wp2
          refine bodyPost_ret (results_ct rfl _ _ gb165 24 #[.int .i64 0, .int .i64 0, .int .i64 0, .int .i64 0, .int .i64 0, .int .i64 0, .int .i64 0, .int .i64 0, .int .i64 0] (0, 0) _ rfl (by (with_reducible repeat (first | refine blk_drewN ?_ _ | refine blk_drew ?_ | refine blk_alloc ?_ _)); refine blk_put (cs := #[.int .i64 0, .int .i64 0, .int .i64 0, .int .i64 0, .int .i64 0, .int .i64 0, .int .i64 0, .int .i64 0, .int .i64 x166008_1]) ?_ 8 _ rfl; (with_reducible repeat (first | refine blk_drewN ?_ _ | refine blk_drew ?_ | refine blk_alloc ?_ _)); refine blk_put (cs := #[.int .i64 0, .int .i64 0, .int .i64 0, .int .i64 0, .int .i64 0, .int .i64 0, .int .i64 0, .int .i64 x166007_1, .int .i64 x166008_1]) ?_ 7 _ rfl; (with_reducible repeat (first | refine blk_drewN ?_ _ | refine blk_drew ?_ | refine blk_alloc ?_ _)); refine blk_put (cs := #[.int .i64 0, .int .i64 0, .int .i64 0, .int .i64 0, .int .i64 0, .int .i64 0, .int .i64 x166006_1, .int .i64 x166007_1, .int .i64 x166008_1]) ?_ 6 _ rfl; (with_reducible repeat (first | refine blk_drewN ?_ _ | refine blk_drew ?_ | refine blk_alloc ?_ _)); refine blk_put (cs := #[.int .i64 0, .int .i64 0, .int .i64 0, .int .i64 0, .int .i64 0, .int .i64 x166005_1, .int .i64 x166006_1, .int .i64 x166007_1, .int .i64 x166008_1]) ?_ 5 _ rfl; (with_reducible repeat (first | refine blk_drewN ?_ _ | refine blk_drew ?_ | refine blk_alloc ?_ _)); refine blk_put (cs := #[.int .i64 0, .int .i64 0, .int .i64 0, .int .i64 0, .int .i64 x166004_1, .int .i64 x166005_1, .int .i64 x166006_1, .int .i64 x166007_1, .int .i64 x166008_1]) ?_ 4 _ rfl; (with_reducible repeat (first | refine blk_drewN ?_ _ | refine blk_drew ?_ | refine blk_alloc ?_ _)); refine blk_put (cs := #[.int .i64 0, .int .i64 0, .int .i64 0, .int .i64 x166003_1, .int .i64 x166004_1, .int .i64 x166005_1, .int .i64 x166006_1, .int .i64 x166007_1, .int .i64 x166008_1]) ?_ 3 _ rfl; (with_reducible repeat (first | refine blk_drewN ?_ _ | refine blk_drew ?_ | refine blk_alloc ?_ _)); refine blk_put (cs := #[.int .i64 0, .int .i64 0, .int .i64 x166002_1, .int .i64 x166003_1, .int .i64 x166004_1, .int .i64 x166005_1, .int .i64 x166006_1, .int .i64 x166007_1, .int .i64 x166008_1]) ?_ 2 _ rfl; (with_reducible repeat (first | refine blk_drewN ?_ _ | refine blk_drew ?_ | refine blk_alloc ?_ _)); refine blk_put (cs := #[.int .i64 0, .int .i64 x166001_1, .int .i64 x166002_1, .int .i64 x166003_1, .int .i64 x166004_1, .int .i64 x166005_1, .int .i64 x166006_1, .int .i64 x166007_1, .int .i64 x166008_1]) ?_ 1 _ rfl; (with_reducible repeat (first | refine blk_drewN ?_ _ | refine blk_drew ?_ | refine blk_alloc ?_ _)); refine blk_put (cs := #[.int .i64 x166000_1, .int .i64 x166001_1, .int .i64 x166002_1, .int .i64 x166003_1, .int .i64 x166004_1, .int .i64 x166005_1, .int .i64 x166006_1, .int .i64 x166007_1, .int .i64 x166008_1]) ?_ 0 _ rfl; (with_reducible repeat (first | refine blk_drewN ?_ _ | refine blk_drew ?_ | refine blk_alloc ?_ _)); exact BK165.out) Try.underlying24 rfl (by kernel_rfl)) rfl ?_
          exact ⟨by first | rfl | (simp [errW_none, errW_some] <;> rfl) | (simp [*, errW_none, errW_some] <;> rfl), by repeat (first | (with_reducible first | exact HB.out | apply below_alloc | apply pw_below_drewN | apply below_drew1 | refine below_set ?_ GE165.out) | exact HB.out)⟩

end Go.Proofs.Ytdnhmlpjohojdaa.R
/-
  Arguments opened: a slice of structs or strings that came in, read as a list; how long its strings are.
-/
namespace Go.Proofs.Ytdnhmlpjohojdaa.Open
open Go.RowKit Go.ChangeShapes Go.WideShapes Go.Proofs.YtdnhmlpjohojdaaW.PrintWords
theorem len1 {α : Type} : ∀ {l : List α}, l.length = 1 → ∃ c0, l = [c0]
  | [c0], _ => ⟨c0, rfl⟩
theorem len2 {α : Type} : ∀ {l : List α}, l.length = 2 → ∃ c0 c1, l = [c0, c1]
  | [c0, c1], _ => ⟨c0, c1, rfl⟩
theorem len3 {α : Type} : ∀ {l : List α}, l.length = 3 → ∃ c0 c1 c2, l = [c0, c1, c2]
  | [c0, c1, c2], _ => ⟨c0, c1, c2, rfl⟩
theorem len4 {α : Type} : ∀ {l : List α}, l.length = 4 → ∃ c0 c1 c2 c3, l = [c0, c1, c2, c3]
  | [c0, c1, c2, c3], _ => ⟨c0, c1, c2, c3, rfl⟩
theorem len5 {α : Type} : ∀ {l : List α}, l.length = 5 → ∃ c0 c1 c2 c3 c4, l = [c0, c1, c2, c3, c4]
  | [c0, c1, c2, c3, c4], _ => ⟨c0, c1, c2, c3, c4, rfl⟩
theorem len12 {α : Type} : ∀ {l : List α}, l.length = 12 → ∃ c0 c1 c2 c3 c4 c5 c6 c7 c8 c9 c10 c11, l = [c0, c1, c2, c3, c4, c5, c6, c7, c8, c9, c10, c11]
  | [c0, c1, c2, c3, c4, c5, c6, c7, c8, c9, c10, c11], _ => ⟨c0, c1, c2, c3, c4, c5, c6, c7, c8, c9, c10, c11, rfl⟩
/-- All that a reading holds lies within the form's reach. -/
def Light {H : Type} (P : Program) (t : TypeId) (d : DataW H) : Prop := ∀ n ∈ d.weights P t, n ≤ 140737488351232
/-- Whatever reads as a datum of type t is, cell by cell, some a; and Q a. -/
def Opens (P : Program) (t : TypeId) {α : Type} (R : α → List Value → Prop) (Q : α → Prop) : Prop :=
  ∀ {H : Type} (enc : TypeId × Value → H) (w : World) (base : Nat) (sp : Nat → Bool) (held : Bool) (fuel : Nat) (cs : List Value) (x : DataW H × List MemPlace),
    DataW.trod enc P w base sp held fuel t cs = some x → Light P t x.1 → ∃ a, R a cs ∧ Q a
theorem light_of {H : Type} {P : Program} {ts : List TypeId} {ds : List (DataW H)} (h : (DataW.weightsEach P ts ds).all (· ≤ reachBytes) = true) {j : Nat} {t : TypeId} {d : DataW H} (ht : ts[j]? = some t) (hd : ds[j]? = some d) : Light P t d := fun n hn => by
  have := List.all_eq_true.1 h n (DataW.weights_mem_each ht hd n hn)
  exact of_decide_eq_true this
theorem opens_string {P : Program} {t : TypeId} (ht : P.underlying t = some .string) : Opens P t (fun (a : ByteArray) cs => cs = [.string a]) (fun a => a.size ≤ 140737488351232) := by
  intro H enc w base sp held fuel cs x h hl
  obtain ⟨s, rfl, rfl, _⟩ := DataW.trod_string ht h
  refine ⟨s, rfl, ?_⟩
  have := hl s.data.toList.length (by simp [DataW.weights])
  rwa [Array.length_toList] at this
theorem opens_int {P : Program} {t : TypeId} {k : IntKind} (ht : P.underlying t = some (.int k)) : Opens P t (fun (a : Int) cs => cs = [.int k a]) (fun a => (Lit.int k a).wf = true) := by
  intro H enc w base sp held fuel cs x h hl
  obtain ⟨n, rfl, rfl, hw⟩ := DataW.trod_int ht h
  exact ⟨n, rfl, hw⟩
theorem weights_all {H : Type} {P : Program} {e : TypeId} : ∀ {l : List (DataW H)} {d : DataW H}, d ∈ l → ∀ n ∈ d.weights P e, n ∈ DataW.weightsAll P e l
  | y :: r, d, hd, n, hn => by
    simp only [DataW.weightsAll, List.mem_append]
    rcases List.mem_cons.1 hd with rfl | hd
    · exact .inl hn
    · exact .inr (weights_all hd n hn)
/-- A slice that came in, read as a list. -/
theorem open_list {α : Type} [Inhabited α] {d : Kd α} {Q : α → Prop} {P : Program} {t e : TypeId} (ht : P.underlying t = some (.slice e)) (hc : P.cellsOf e = d.sz) (ho : Opens P e (fun a cs => ∀ w, d.K w a cs) Q)
    {H : Type} {enc : TypeId × Value → H} {W : World} {base : Nat} {sp : Nat → Bool} {held : Bool} {a : Option Addr} {len cap : Nat} {dat : DataW H} {ps : List MemPlace}
    (h : DataW.Trod enc P W base sp held t (.slice a len cap) dat ps) (hl : Light P t dat) :
    ∃ l : List α, l.length = len ∧ len ≤ cap ∧ d.C W a len l ∧ (∀ x ∈ l, Q x) ∧ len * P.bytesOf e ≤ 140737488351232 := by
  obtain ⟨fuel, hf⟩ := h
  rcases Deep.open_slice ht hf with ⟨hcs, hx⟩ | ⟨ad, len', cap', m, n, D, Pl, hcs, _, hlc, hcm, hm, hx, hel⟩
  · simp [Value.cells] at hcs
    obtain ⟨rfl, rfl, rfl⟩ := hcs
    exact ⟨[], rfl, Nat.le_refl _, ⟨rfl, by omega, fun h0 => absurd h0 (by omega)⟩, by simp, by simp⟩
  · simp [Value.cells] at hcs
    obtain ⟨rfl, rfl, rfl⟩ := hcs
    simp only [Prod.mk.injEq] at hx
    obtain ⟨rfl, rfl⟩ := hx
    have hlm : len ≤ m := by rw [hm]; split <;> omega
    have hch : ∀ i, i < len → ∃ x : α, Q x ∧ ∃ cs', W.cells? base (ad.add (i * P.cellsOf e)) (P.cellsOf e) = some cs' ∧ ∀ w, d.K w x cs' := by
      intro i hi
      obtain ⟨cs', h1, h2⟩ := hel i (by omega)
      obtain ⟨x, h3, h4⟩ := ho _ _ _ _ _ _ _ _ h2 (fun q hq => hl q (by
        simp only [DataW.weights, ht]
        refine List.mem_cons_of_mem _ (List.mem_append_left _ (weights_all (d := D i) (List.mem_map.2 ⟨i, List.mem_range.2 hi, rfl⟩) q hq))))
      exact ⟨x, h4, cs', h1, h3⟩
    obtain ⟨f, hfx⟩ := Deep.choose_lt hch
    have hmx : len ≤ 9223372036854775807 := by unfold maxLen at hcm; omega
    refine ⟨(List.range len).map f, by simp, hlc, ⟨by simp, hmx, fun _ => ⟨ad, rfl, fun j p hj => ?_⟩⟩, ?_, ?_⟩
    · have hjl : j < len := by have := (List.getElem?_eq_some_iff.1 hj).1; simpa using this
      have hp : f j = p := by simpa [hjl] using hj
      subst hp
      obtain ⟨_, cs', h1, h2⟩ := hfx j hjl
      obtain ⟨_, hlen, hcell⟩ := World.cells?_some h1
      refine ⟨cs', by rw [hlen, hc], h2 W, fun i u hu => ?_⟩
      have hi : i < cs'.length := (List.getElem?_eq_some_iff.1 hu).1
      have := hcell i (by omega)
      rw [Deep.add_add, hu, hc] at this
      exact this
    · intro x hx
      obtain ⟨i, hi, rfl⟩ := List.mem_map.1 hx
      exact (hfx i (List.mem_range.1 hi)).1
    · have := hl (len * P.bytesOf e + (m - len) * P.bytesOf e) (by
        simp only [DataW.weights, ht, List.length_map, List.length_range]
        rw [Nat.add_mul]
        exact List.mem_cons_self)
      omega
end Go.Proofs.Ytdnhmlpjohojdaa.Open
/-
  Orders that came in, opened.
-/
namespace Go.Proofs.Ytdnhmlpjohojdaa.Open
open Go.RowKit Go.ChangeShapes Go.WideShapes Go.ChangeAt Go.Proofs.Ytdnhmlpjohojdaa.Adm
theorem len9 {α : Type} : ∀ {l : List α}, l.length = 9 → ∃ c0 c1 c2 c3 c4 c5 c6 c7 c8, l = [c0, c1, c2, c3, c4, c5, c6, c7, c8]
  | [c0, c1, c2, c3, c4, c5, c6, c7, c8], _ => ⟨c0, c1, c2, c3, c4, c5, c6, c7, c8, rfl⟩
/-- Numbers of a configuration are of their kind. -/
def WfV (v : Fin 9 → Int) : Prop := ∀ x, (Lit.int .i64 (v x)).wf = true
def of9 (a0 a1 a2 a3 a4 a5 a6 a7 a8 : Int) (x : Fin 9) : Int :=
  match x with
  | 0 => a0 | 1 => a1 | 2 => a2 | 3 => a3 | 4 => a4 | 5 => a5 | 6 => a6 | 7 => a7 | 8 => a8
set_option maxRecDepth 100000 in
theorem opens_conf : Opens Try.prog 24 (fun (v : Fin 9 → Int) cs => cs = (cells9 v).toList) WfV := by
  intro H enc w base sp held fuel cs x h hl
  obtain ⟨xs, n, _, rfl, hlen, hxs, hf⟩ := DataW.trod_struct Try.underlying24 h
  obtain ⟨y0, y1, y2, y3, y4, y5, y6, y7, y8, rfl⟩ := len9 (show xs.length = 9 from hxs)
  rw [show Try.prog.cellsOf 24 = 9 by kernel_rfl] at hlen
  obtain ⟨c0, c1, c2, c3, c4, c5, c6, c7, c8, rfl⟩ := len9 hlen
  obtain ⟨a0, e0, _, w0⟩ := DataW.trod_int Try.underlying3 (hf 0 _ rfl)
  rw [show Try.prog.cellsOf _ = 1 by kernel_rfl] at e0
  obtain rfl : c0 = .int .i64 a0 := (List.cons.inj (show [c0] = [.int .i64 a0] from e0)).1
  obtain ⟨a1, e1, _, w1⟩ := DataW.trod_int Try.underlying3 (hf 1 _ rfl)
  rw [show Try.prog.cellsOf _ = 1 by kernel_rfl] at e1
  obtain rfl : c1 = .int .i64 a1 := (List.cons.inj (show [c1] = [.int .i64 a1] from e1)).1
  obtain ⟨a2, e2, _, w2⟩ := DataW.trod_int Try.underlying3 (hf 2 _ rfl)
  rw [show Try.prog.cellsOf _ = 1 by kernel_rfl] at e2
  obtain rfl : c2 = .int .i64 a2 := (List.cons.inj (show [c2] = [.int .i64 a2] from e2)).1
  obtain ⟨a3, e3, _, w3⟩ := DataW.trod_int Try.underlying3 (hf 3 _ rfl)
  rw [show Try.prog.cellsOf _ = 1 by kernel_rfl] at e3
  obtain rfl : c3 = .int .i64 a3 := (List.cons.inj (show [c3] = [.int .i64 a3] from e3)).1
  obtain ⟨a4, e4, _, w4⟩ := DataW.trod_int Try.underlying3 (hf 4 _ rfl)
  rw [show Try.prog.cellsOf _ = 1 by kernel_rfl] at e4
  obtain rfl : c4 = .int .i64 a4 := (List.cons.inj (show [c4] = [.int .i64 a4] from e4)).1
  obtain ⟨a5, e5, _, w5⟩ := DataW.trod_int Try.underlying3 (hf 5 _ rfl)
  rw [show Try.prog.cellsOf _ = 1 by kernel_rfl] at e5
  obtain rfl : c5 = .int .i64 a5 := (List.cons.inj (show [c5] = [.int .i64 a5] from e5)).1
  obtain ⟨a6, e6, _, w6⟩ := DataW.trod_int Try.underlying3 (hf 6 _ rfl)
  rw [show Try.prog.cellsOf _ = 1 by kernel_rfl] at e6
  obtain rfl : c6 = .int .i64 a6 := (List.cons.inj (show [c6] = [.int .i64 a6] from e6)).1
  obtain ⟨a7, e7, _, w7⟩ := DataW.trod_int Try.underlying3 (hf 7 _ rfl)
  rw [show Try.prog.cellsOf _ = 1 by kernel_rfl] at e7
  obtain rfl : c7 = .int .i64 a7 := (List.cons.inj (show [c7] = [.int .i64 a7] from e7)).1
  obtain ⟨a8, e8, _, w8⟩ := DataW.trod_int Try.underlying3 (hf 8 _ rfl)
  rw [show Try.prog.cellsOf _ = 1 by kernel_rfl] at e8
  obtain rfl : c8 = .int .i64 a8 := (List.cons.inj (show [c8] = [.int .i64 a8] from e8)).1
  refine ⟨of9 a0 a1 a2 a3 a4 a5 a6 a7 a8, rfl, fun x => ?_⟩
  match x with
  | 0 => exact w0
  | 1 => exact w1
  | 2 => exact w2
  | 3 => exact w3
  | 4 => exact w4
  | 5 => exact w5
  | 6 => exact w6
  | 7 => exact w7
  | 8 => exact w8
def WfO (o : Order) : Prop := (Lit.int .u64 o.id).wf = true ∧ (Lit.int .i64 o.op).wf = true ∧ (Lit.int .i64 o.owner).wf = true ∧ WfV o.v
set_option maxRecDepth 100000 in
theorem opens_order : Opens Try.prog 26 (fun (o : Order) cs => cs = (cells12 o).toList) WfO := by
  intro H enc w base sp held fuel cs x h hl
  obtain ⟨xs, n, _, rfl, hlen, hxs, hf⟩ := DataW.trod_struct Try.underlying26 h
  obtain ⟨y0, y1, y2, y3, rfl⟩ := len4 (show xs.length = 4 from hxs)
  rw [show Try.prog.cellsOf 26 = 12 by kernel_rfl] at hlen
  obtain ⟨c0, c1, c2, c3, c4, c5, c6, c7, c8, c9, c10, c11, rfl⟩ := len12 hlen
  have h0 := hf 0 _ rfl
  obtain ⟨s0, e0, hy0, w0⟩ := DataW.trod_int Try.underlying22 h0
  rw [show Try.prog.cellsOf _ = 1 by kernel_rfl] at e0
  obtain rfl : c0 = .int .u64 s0 := (List.cons.inj (show [c0] = [.int .u64 s0] from e0)).1
  have h1 := hf 1 _ rfl
  obtain ⟨s1, e1, hy1, w1⟩ := DataW.trod_int Try.underlying3 h1
  rw [show Try.prog.cellsOf _ = 1 by kernel_rfl] at e1
  obtain rfl : c1 = .int .i64 s1 := (List.cons.inj (show [c1] = [.int .i64 s1] from e1)).1
  have h2 := hf 2 _ rfl
  obtain ⟨s2, e2, hy2, w2⟩ := DataW.trod_int Try.underlying3 h2
  rw [show Try.prog.cellsOf _ = 1 by kernel_rfl] at e2
  obtain rfl : c2 = .int .i64 s2 := (List.cons.inj (show [c2] = [.int .i64 s2] from e2)).1
  have h3 := hf 3 _ rfl
  obtain ⟨v, e3, w3⟩ := opens_conf _ _ _ _ _ _ _ _ h3 (fun q hq => hl q (by
    simp only [DataW.weights, Try.underlying26]
    exact DataW.weights_mem_each (j := 3) rfl rfl q hq))
  rw [show Try.prog.cellsOf _ = 9 by kernel_rfl] at e3
  have e3' : [c3, c4, c5, c6, c7, c8, c9, c10, c11] = (cells9 v).toList := e3
  simp only [List.cons.injEq] at e3'
  obtain ⟨rfl, rfl, rfl, rfl, rfl, rfl, rfl, rfl, rfl, _⟩ := e3'
  exact ⟨⟨s0, s1, s2, v⟩, rfl, w0, w1, w2, w3⟩
theorem okWide_struct {P : Program} {w : World} {r : Reach} {base : Nat} {t : TypeId} {v : Value} {fs} (ht : P.underlying t = some (.struct fs)) (h : Value.okWide P w r base t v) : ∃ cs, v = .agg cs ∧ cs.size = P.cellsOf t := by
  simp only [Value.okWide, ht] at h
  obtain ⟨cs, h1, h2, _⟩ := h
  exact ⟨cs, h1, h2⟩
set_option maxRecDepth 100000 in
theorem open_order {H : Type} {enc : TypeId × Value → H} {W : World} {base : Nat} {sp : Nat → Bool} {held : Bool} {v : Value} {r : Reach} {b : Nat} {dat : DataW H} {ps : List MemPlace}
    (hv : Value.okWide Try.prog W r b 26 v) (h : DataW.Trod enc Try.prog W base sp held 26 v dat ps) (hl : Light Try.prog 26 dat) : ∃ o : Order, v = ordV o ∧ WfO o := by
  obtain ⟨cs, rfl, hsz⟩ := okWide_struct Try.underlying26 hv
  obtain ⟨fuel, hf⟩ := h
  obtain ⟨o, h1, h2⟩ := opens_order _ _ _ _ _ _ _ _ hf hl
  exact ⟨o, congrArg Value.agg (Array.toList_inj.1 h1), h2⟩
end Go.Proofs.Ytdnhmlpjohojdaa.Open
/-
  What the document's functions of orders' bytes answer: plain.
-/
namespace Go.Proofs.Ytdnhmlpjohojdaa.Rf
open Go.RowKit Go.Proofs.Ytdnhmlpjohojdaa.Tab Go.Proofs.Ytdnhmlpjohojdaa.Adm Go.Proofs.Ytdnhmlpjohojdaa.R Go.Proofs.Ytdnhmlpjohojdaa.Tk Go.Proofs.Ytdnhmlpjohojdaa.Span Go.Proofs.YtdnhmlpjohojdaaW.PrintWords Go.Proofs.YtdnhmlpjohojdaaW.PrintLast Go.Proofs.YtdnhmlpjohojdaaW.PrintMore
abbrev T10 := Int × Int × Int × Int × Int × Int × Int × Int × Int × Int
def tup (r : (Fin 9 → Int) × Int) : T10 := (r.1 0, r.1 1, r.1 2, r.1 3, r.1 4, r.1 5, r.1 6, r.1 7, r.1 8, r.2)
def vlist (v : Fin 9 → Int) : List Int := [v 0, v 1, v 2, v 3, v 4, v 5, v 6, v 7, v 8]
def mlist : List Int := [1048576, 1048576, 1048576, 1048576, 64, 64, 16, 1048576, 1048576]
theorem nine (j : Nat) (hj : j < 9) : j = 0 ∨ j = 1 ∨ j = 2 ∨ j = 3 ∨ j = 4 ∨ j = 5 ∨ j = 6 ∨ j = 7 ∨ j = 8 := by omega
theorem rd_v (v : Fin 9 → Int) (j : Fin 9) : rd (vlist v) (j.1 : Int) = v j := by
  obtain ⟨j, hj⟩ := j
  rcases nine j hj with rfl | rfl | rfl | rfl | rfl | rfl | rfl | rfl | rfl <;> rfl
theorem rd_m (j : Fin 9) : rd mlist (j.1 : Int) = most j.1 := by
  obtain ⟨j, hj⟩ := j
  rcases nine j hj with rfl | rfl | rfl | rfl | rfl | rfl | rfl | rfl | rfl <;> rfl
def fine (v : Fin 9 → Int) (j : Nat) : Prop := (∀ x : Fin 9, j ≤ x.1 → 0 ≤ v x ∧ v x ≤ most x.1) ∧ 1040 ≤ v 0
instance (v : Fin 9 → Int) (j : Nat) : Decidable (fine v j) := by unfold fine; infer_instance
theorem of_nine (v : Fin 9 → Int) (k : Nat) : concourseref37_Of.l0 (k + 1) (vlist v) mlist 9 = some (tup (if 1040 ≤ v 0 then (v, 0) else (nine0, 1))) := by
  have r0 : rd (vlist v) 0 = v 0 := rd_v v 0
  have r1 : rd (vlist v) 1 = v 1 := rd_v v 1
  have r2 : rd (vlist v) 2 = v 2 := rd_v v 2
  have r3 : rd (vlist v) 3 = v 3 := rd_v v 3
  have r4 : rd (vlist v) 4 = v 4 := rd_v v 4
  have r5 : rd (vlist v) 5 = v 5 := rd_v v 5
  have r6 : rd (vlist v) 6 = v 6 := rd_v v 6
  have r7 : rd (vlist v) 7 = v 7 := rd_v v 7
  have r8 : rd (vlist v) 8 = v 8 := rd_v v 8
  have hl : ((vlist v).length : Int) = 9 := rfl
  unfold concourseref37_Of.l0
  rw [hl, if_neg (by omega), if_pos (by omega), r0]
  by_cases h : v 0 < 1040
  · rw [if_pos h, if_neg (by omega)]
    rfl
  · rw [if_neg h, if_pos (by omega), if_pos (by omega), if_pos (by omega), if_pos (by omega), if_pos (by omega), if_pos (by omega), if_pos (by omega), if_pos (by omega), if_pos (by omega), r1, r2, r3, r4, r5, r6, r7, r8]
    rfl
theorem of_step (v : Fin 9 → Int) (k : Nat) (j : Fin 9) : concourseref37_Of.l0 (k + 1) (vlist v) mlist (j.1 : Int) = if 0 ≤ v j ∧ v j ≤ most j.1 then concourseref37_Of.l0 k (vlist v) mlist ((j.1 + 1 : Nat) : Int) else some (0, 0, 0, 0, 0, 0, 0, 0, 0, 1) := by
  have hv := rd_v v j
  have hm := rd_m j
  have hj := j.2
  have hl : ((vlist v).length : Int) = 9 := rfl
  have hl2 : (mlist.length : Int) = 9 := rfl
  have hw : wrap64 ((j.1 : Int) + 1) = ((j.1 + 1 : Nat) : Int) := by rw [IntWalk.wrap64_in _ (by omega)]; omega
  rw [concourseref37_Of.l0, hl, hl2, if_pos (by omega), if_pos (by omega), if_pos (by omega), hv, hm, hw]
  by_cases a : v j < 0
  · rw [if_pos a, if_neg (by omega)]
  · rw [if_neg a, if_pos (by omega)]
    by_cases b : v j > most j.1
    · rw [if_pos b, if_neg (by omega)]
    · rw [if_neg b, if_pos (by omega)]
theorem of_tail (v : Fin 9 → Int) : ∀ n j : Nat, j + n = 9 → ∀ k, n + 1 ≤ k → concourseref37_Of.l0 k (vlist v) mlist (j : Int) = some (tup (if fine v j then (v, 0) else (nine0, 1))) := by
  intro n
  induction n with
  | zero =>
    intro j hj k hk
    obtain ⟨k, rfl⟩ : ∃ k', k = k' + 1 := ⟨k - 1, by omega⟩
    have : j = 9 := by omega
    subst this
    have hiff : fine v 9 ↔ 1040 ≤ v 0 := ⟨fun h => h.2, fun h => ⟨fun x hx => absurd hx (by have := x.2; omega), h⟩⟩
    refine (of_nine v k).trans ?_
    by_cases c : 1040 ≤ v 0
    · rw [if_pos c, if_pos (hiff.2 c)]
    · rw [if_neg c, if_neg (fun h => c (hiff.1 h))]
  | succ n ih =>
    intro j hj k hk
    obtain ⟨k, rfl⟩ : ∃ k', k = k' + 1 := ⟨k - 1, by omega⟩
    have hs := of_step v k ⟨j, by omega⟩
    simp only at hs
    rw [hs]
    by_cases a : 0 ≤ v ⟨j, by omega⟩ ∧ v ⟨j, by omega⟩ ≤ most j
    · rw [if_pos a, ih (j + 1) (by omega) k (by omega)]
      have hiff : fine v (j + 1) ↔ fine v j := by
        constructor
        · rintro ⟨c, d⟩
          refine ⟨fun x hx => ?_, d⟩
          by_cases e : x.1 = j
          · obtain ⟨x, hx'⟩ := x
            simp only at e
            subst e
            exact a
          · exact c x (by omega)
        · rintro ⟨c, d⟩
          exact ⟨fun x hx => c x (by omega), d⟩
      by_cases c : fine v j
      · rw [if_pos c, if_pos (hiff.2 c)]
      · rw [if_neg c, if_neg (fun h => c (hiff.1 h))]
    · rw [if_neg a, if_neg (fun h => a (h.1 ⟨j, by omega⟩ (Nat.le_refl _)))]
      rfl
theorem fine_ok (v : Fin 9 → Int) : fine v 0 ↔ okB v = true := by
  unfold okB fine
  rw [decide_eq_true_eq]
  constructor
  · rintro ⟨a, b⟩ x
    have := a x (Nat.zero_le _)
    unfold in9 least
    split
    · rename_i h
      obtain ⟨x, hx⟩ := x
      simp only at h
      subst h
      exact ⟨b, this.2⟩
    · exact this
  · intro h
    have h0 := h 0
    refine ⟨fun x _ => ?_, by simpa [in9, least] using h0.1⟩
    have := h x
    unfold in9 least at this
    split at this
    · exact ⟨by omega, this.2⟩
    · exact this
/-- The document's Of. -/
theorem of_all (v : Fin 9 → Int) (k : Nat) (hk : 10 ≤ k) : concourseref37_Of.f k (vlist v) = some (tup (ofV v, errB (okB v))) := by
  unfold concourseref37_Of.f
  rw [if_pos (show ((vlist v).length : Int) = 9 from rfl)]
  refine (of_tail v 9 0 rfl k hk).trans ?_
  unfold ofV errB
  by_cases h : okB v = true
  · rw [if_pos ((fine_ok v).2 h), h]
    rfl
  · rw [if_neg (fun c => h ((fine_ok v).1 c)), if_neg h, if_neg h]
theorem check37 (v : Fin 9 → Int) (k : Nat) (hk : 10 ≤ k) : concourseref37_Check.f k (v 0) (v 1) (v 2) (v 3) (v 4) (v 5) (v 6) (v 7) (v 8) = some (errB (okB v)) := by
  unfold concourseref37_Check.f concourseref37_List.f
  rw [Option.bind_some, show ([v 0, v 1, v 2, v 3, v 4, v 5, v 6, v 7, v 8] : List Int) = vlist v from rfl, of_all v k hk]
  rfl
theorem form41 (o : Order) (k : Nat) (hk : 10 ≤ k) : concourseref41_Form.f k o.id o.op o.owner (o.v 0) (o.v 1) (o.v 2) (o.v 3) (o.v 4) (o.v 5) (o.v 6) (o.v 7) (o.v 8) = some (formB o) := by
  unfold concourseref41_Form.f formB inRange
  rw [check37 _ k hk]
  by_cases h1 : o.op < 1
  · rw [if_pos h1, decide_eq_false (by omega)]
  rw [if_neg h1]
  by_cases h2 : o.op > 6
  · rw [if_pos h2, decide_eq_false (by omega)]
  rw [if_neg h2]
  by_cases h3 : o.owner < 1
  · rw [if_pos h3, decide_eq_false (by omega)]
  rw [if_neg h3]
  by_cases h4 : o.owner > 8
  · rw [if_pos h4, decide_eq_false (by omega)]
  rw [if_neg h4]
  have hr : 1 ≤ o.op ∧ o.op ≤ 6 ∧ 1 ≤ o.owner ∧ o.owner ≤ 8 := by omega
  have hb : (errB (okB o.v) == 0) = okB o.v := by cases okB o.v <;> rfl
  by_cases h5 : o.op = 1
  · rw [if_pos h5, Option.bind_some, hb]
    congr 1
    cases h : okB o.v
    · exact (decide_eq_false (fun c => by have := c.2 (.inl h5); simp at this)).symm
    · exact (decide_eq_true ⟨hr, fun _ => rfl⟩).symm
  rw [if_neg h5]
  by_cases h6 : o.op = 6
  · rw [if_pos h6, Option.bind_some, hb]
    congr 1
    cases h : okB o.v
    · exact (decide_eq_false (fun c => by have := c.2 (.inr h6); simp at this)).symm
    · exact (decide_eq_true ⟨hr, fun _ => rfl⟩).symm
  rw [if_neg h6]
  congr 1
  exact (decide_eq_true ⟨hr, fun c => by rcases c with c | c <;> contradiction⟩).symm
/-! ### bytes of a number -/
theorem str_cons (x : Int) (l : List Int) : strOfNums [x] ++ strOfNums l = strOfNums (x :: l) := by
  apply bytes_ext
  simp [strOfNums]
theorem put_vl : ∀ (k m : Nat), m < 128 ^ (k + 1) → ∀ j, k + 1 ≤ j → m < 18446744073709551616 → k ≤ 9 → concourseref01_Put.f j (m : Int) = some (strOfNums (vl m))
  | k, m, h, j, hj, hm, hk => by
    obtain ⟨j, rfl⟩ : ∃ j', j = j' + 1 := ⟨j - 1, by omega⟩
    rw [concourseref01_Put.f]
    by_cases h1 : m < 128
    · have hw : wrap64 (m : Int) = (m : Int) := IntWalk.wrap64_in _ (by omega)
      rw [if_pos (by omega), vl_small h1, hw, concourseref01_Byte.f, Option.bind_some, Int.emod_eq_of_lt (by omega) (by omega)]
    · cases k with
      | zero => exact absurd h (by simp; omega)
      | succ k =>
        have e1 : Int.tmod (m : Int) 128 = ((m % 128 : Nat) : Int) := by rw [Int.tmod_eq_emod_of_nonneg (by omega)]; omega
        have e2 : Int.tdiv (m : Int) 128 = ((m / 128 : Nat) : Int) := by rw [Int.tdiv_eq_ediv_of_nonneg (by omega)]; omega
        have e3 : wrap64 ((m % 128 : Nat) : Int) = ((m % 128 : Nat) : Int) := IntWalk.wrap64_in _ (by omega)
        have e4 : wrap64 (((m % 128 : Nat) : Int) + 128) = ((m % 128 + 128 : Nat) : Int) := by rw [IntWalk.wrap64_in _ (by omega)]; omega
        have e5 : IntKind.u64.wrap ((m / 128 : Nat) : Int) = ((m / 128 : Nat) : Int) := by simp [IntKind.wrap, IntKind.signed, IntKind.bits]; omega
        have e6 : (((m % 128 + 128 : Nat) : Int)) % 256 = ((m % 128 + 128 : Nat) : Int) := Int.emod_eq_of_lt (by omega) (by omega)
        have hd : m / 128 < 128 ^ (k + 1) := Nat.div_lt_of_lt_mul (by rw [Nat.pow_succ] at h; omega)
        have ih := put_vl k (m / 128) hd j (by omega) (by omega) (by omega)
        have hl := vl_len k (m / 128) hd
        rw [if_neg (by omega), e1, e2, e3, e4, e5, concourseref01_Byte.f, Option.bind_some, e6, ih, Option.bind_some, vl_big h1, str_cons, if_pos]
        simp only [strOfNums_size, List.length_cons, List.length_nil]
        omega
theorem put01 (x : Int) (h : U64 x) (j : Nat) (hj : 10 ≤ j) : concourseref01_Put.f j x = some (numS x) := by
  obtain ⟨m, rfl⟩ := Int.eq_ofNat_of_zero_le h.1
  have hm : m < 18446744073709551616 := by have := h.2; omega
  unfold numS
  rw [Int.toNat_natCast]
  exact put_vl 9 m (Nat.lt_of_lt_of_le hm (by decide)) j (by omega) hm (by omega)
/-! ### a configuration's bytes -/
def confK (v : Fin 9 → Int) (k : Nat) : ByteArray := ⟨(confL v k).toArray⟩
theorem confK_succ (v : Fin 9 → Int) (x : Fin 9) : confK v (x.1 + 1) = confK v x.1 ++ numS (v x) := by
  apply bytes_ext
  rw [ByteArray.data_append]
  unfold confK
  rw [confL_succ]
  simp [bytesI]
theorem confK_size (v : Fin 9 → Int) (hv : ∀ x, in9 v x) (k : Nat) (hk : k ≤ 9) : (confK v k).size ≤ 10 * k := by
  have := confL_len v hv k hk
  show (confL v k).toArray.size ≤ _
  simpa using this
theorem put37_loop (v : Fin 9 → Int) (hv : ∀ x, in9 v x) : ∀ n j : Nat, j + n = 9 → ∀ k, n + 11 ≤ k → concourseref37_Put.l0 k (vlist v) (confK v j) (j : Int) = some (confK v 9, 0)
  | 0, j, hj, k, hk => by
    obtain ⟨k, rfl⟩ : ∃ k', k = k' + 1 := ⟨k - 1, by omega⟩
    obtain rfl : j = 9 := by omega
    rw [concourseref37_Put.l0, if_neg (by rw [show ((vlist v).length : Int) = 9 from rfl]; omega)]
  | n + 1, j, hj, k, hk => by
    obtain ⟨k, rfl⟩ : ∃ k', k = k' + 1 := ⟨k - 1, by omega⟩
    have hr := rd_v v ⟨j, by omega⟩
    simp only at hr
    have hb := in9_bd (hv ⟨j, by omega⟩)
    have hu := U64_small hb.1 (by omega : v ⟨j, by omega⟩ ≤ 2097152)
    have hw : IntKind.u64.wrap (v ⟨j, by omega⟩) = v ⟨j, by omega⟩ := by simp [IntKind.wrap, IntKind.signed, IntKind.bits]; omega
    have h1 := confK_size v hv j (by omega)
    have h2 := numS_size _ hu
    have hs := confK_succ v ⟨j, by omega⟩
    simp only at hs
    have hj1 : wrap64 ((j : Int) + 1) = ((j + 1 : Nat) : Int) := by rw [IntWalk.wrap64_in _ (by omega)]; omega
    rw [concourseref37_Put.l0, if_pos (by rw [show ((vlist v).length : Int) = 9 from rfl]; omega), if_pos (by omega), hr, hw, put01 _ hu k (by omega), Option.bind_some, if_pos (by omega), hj1, ← hs]
    exact put37_loop v hv n (j + 1) (by omega) k (by omega)
theorem put37 (v : Fin 9 → Int) (k : Nat) (hk : 20 ≤ k) : concourseref37_Put.f k (v 0) (v 1) (v 2) (v 3) (v 4) (v 5) (v 6) (v 7) (v 8) = some (confPutS v, errB (okB v)) := by
  unfold concourseref37_Put.f confPutS
  rw [check37 v k (by omega), Option.bind_some]
  cases h : okB v
  · rw [if_neg (by decide)]
    rfl
  · rw [if_pos rfl, concourseref37_List.f, Option.bind_some]
    have := put37_loop v (of_decide_eq_true h) 9 0 rfl k (by omega)
    exact this
/-! ### an order's bytes -/
theorem put41 (o : Order) (hid : U64 o.id) (k : Nat) (hk : 20 ≤ k) : concourseref41_Put.f k o.id o.op o.owner (o.v 0) (o.v 1) (o.v 2) (o.v 3) (o.v 4) (o.v 5) (o.v 6) (o.v 7) (o.v 8) = some (putS o, errB (formB o)) := by
  unfold concourseref41_Put.f putS
  rw [form41 o k (by omega), Option.bind_some]
  cases h : formB o
  · rw [if_neg (by decide)]
    rfl
  · have hf := of_decide_eq_true h
    obtain ⟨⟨h1, h2, h3, h4⟩, h5⟩ := hf
    have hw1 : IntKind.u64.wrap o.op = o.op := by simp [IntKind.wrap, IntKind.signed, IntKind.bits]; omega
    have hw2 : IntKind.u64.wrap o.owner = o.owner := by simp [IntKind.wrap, IntKind.signed, IntKind.bits]; omega
    have u1 := U64_small (x := o.op) (by omega) (by omega)
    have u2 := U64_small (x := o.owner) (by omega) (by omega)
    have z0 := numS_size o.id hid
    have z1 := numS_size o.op u1
    have z2 := numS_size o.owner u2
    rw [if_pos rfl, put01 _ hid k (by omega), Option.bind_some, hw1, put01 _ u1 k (by omega), Option.bind_some, if_pos (by omega), hw2, put01 _ u2 k (by omega), Option.bind_some, if_pos (by rw [ByteArray.size_append]; omega), if_pos rfl]
    by_cases c1 : o.op = 1
    · have hk := h5 (.inl c1)
      have hz := confS_size o.v hk
      rw [if_pos c1, put37 _ k (by omega), Option.bind_some]
      unfold confPutS
      rw [if_pos hk, if_pos (by simp only [ByteArray.size_append]; omega), if_pos (.inl c1), hk]
      rfl
    · rw [if_neg c1]
      by_cases c2 : o.op = 6
      · have hk := h5 (.inr c2)
        have hz := confS_size o.v hk
        rw [if_pos c2, put37 _ k (by omega), Option.bind_some]
        unfold confPutS
        rw [if_pos hk, if_pos (by simp only [ByteArray.size_append]; omega), if_pos (.inr c2), hk]
        rfl
      · rw [if_neg c2, if_neg (by rintro (c | c) <;> contradiction), append_nil]
        rfl
/-! ### a number that is not too great -/
def i2 (m : Int) (t : Int × Int × Int) : Int × Int × Int := if t.2.2 = 0 then (if m < t.1 then (0, 0, 3) else (wrap64 t.1, t.2.1, 0)) else (0, 0, t.2.2)
theorem int02 (s : ByteArray) (m : Int) (h0 : 0 ≤ m) (h1 : m ≤ 1048576) (k : Nat) (hk : 32 ≤ k) : concourseref02_Int.f k s m = some (i2 m (tk s)) := by
  have hw : IntKind.u64.wrap m = m := by simp [IntKind.wrap, IntKind.signed, IntKind.bits]; omega
  unfold concourseref02_Int.f i2
  rw [ref_tk s k hk, Option.bind_some, if_neg (by omega : ¬ m < 0), hw]
  split
  · split
    · rename_i h
      first | rfl | rw [if_pos (by omega)]
    · rename_i h
      first | rfl | rw [if_neg (by omega)]
  · rfl
theorem i2_err (m : Int) (t : Int × Int × Int) : (i2 m t).2.2 = ie m t := by
  unfold i2 ie
  split
  · split <;> rfl
  · rfl
theorem i2_ok {m : Int} {t : Int × Int × Int} (h : ie m t = 0) : i2 m t = (wrap64 t.1, t.2.1, 0) := by
  unfold ie at h
  unfold i2
  split at h
  · rename_i h0
    rw [if_pos h0]
    split at h
    · cases h
    · rename_i h1
      rw [if_neg h1]
  · rename_i h0
    exact absurd h h0
/-! ### a configuration of bytes -/
theorem ext_ext (b : ByteArray) (i k : Nat) : (b.extract i b.size).extract k (b.extract i b.size).size = b.extract (i + k) b.size := by
  apply bytes_ext
  rw [ext_list, ext_list, ext_list, List.drop_drop]
theorem ext_empty {b : ByteArray} {i : Nat} (hi : i ≤ b.size) : (b.extract i b.size).toList = ([] : List UInt8) ↔ ¬ i < b.size := by
  have e : (b.extract i b.size).toList = b.data.toList.drop i := by rw [← ext_list]; exact ByteArray.toList_eq _
  rw [e, List.drop_eq_nil_iff, ← size_list]
  omega
theorem err_stays (b : ByteArray) (j : Nat) (h : (rounds b j).2.2 ≠ 0) : ∀ n, (rounds b (j + n)).2.2 ≠ 0
  | 0 => h
  | n + 1 => by
    have ih := err_stays b j h n
    show (stI b 1048576 (rounds b (j + n)).2.1 (rounds b (j + n)).2.2).2.2 ≠ 0
    unfold stI
    rw [if_neg ih]
    exact ih
theorem confT_err {b : ByteArray} {j n : Nat} (hj : j + n = 9) (h : (rounds b j).2.2 ≠ 0) : confT b = (nine0, 1) := by
  have := err_stays b j h n
  rw [hj] at this
  unfold confT dn
  rw [if_neg this, if_neg this]
theorem vlist_of (l : List Int) (h : l.length = 9) : l = vlist (vOf l) := by
  obtain ⟨a0, a1, a2, a3, a4, a5, a6, a7, a8, rfl⟩ := Go.Proofs.Ytdnhmlpjohojdaa.Open.len9 h
  rfl
theorem take37_step {b : ByteArray} {i j k : Nat} {l : List Int} {t : Int × Int × Int} {ct : (Fin 9 → Int) × Int} (hj9 : (j : Int) < 9) (hj1 : wrap64 ((j : Int) + 1) = ((j + 1 : Nat) : Int)) (hl : l.length < 17592186044416)
    (hint : concourseref02_Int.f k (b.extract i b.size) 1048576 = some (i2 1048576 t)) (hz : (b.extract i b.size).size = b.size - i) (hr : 0 ≤ t.1 ∧ t.1 < 18446744073709551616 ∧ 0 ≤ t.2.1 ∧ t.2.1 ≤ (b.extract i b.size).size)
    (hxx : ∀ m, (b.extract i b.size).extract m (b.extract i b.size).size = b.extract (i + m) b.size)
    (ih : (l ++ [(if ie 1048576 t = 0 then (wrap64 t.1, i + t.2.1.toNat, 0) else ((0 : Int), i, ie 1048576 t)).1], (if ie 1048576 t = 0 then (wrap64 t.1, i + t.2.1.toNat, 0) else ((0 : Int), i, ie 1048576 t)).2.1, (if ie 1048576 t = 0 then (wrap64 t.1, i + t.2.1.toNat, 0) else ((0 : Int), i, ie 1048576 t)).2.2).2.2 = (0 : Int) →
      concourseref37_Take.l0 k (b.extract (l ++ [(if ie 1048576 t = 0 then (wrap64 t.1, i + t.2.1.toNat, 0) else ((0 : Int), i, ie 1048576 t)).1], (if ie 1048576 t = 0 then (wrap64 t.1, i + t.2.1.toNat, 0) else ((0 : Int), i, ie 1048576 t)).2.1, (if ie 1048576 t = 0 then (wrap64 t.1, i + t.2.1.toNat, 0) else ((0 : Int), i, ie 1048576 t)).2.2).2.1 b.size) (l ++ [(if ie 1048576 t = 0 then (wrap64 t.1, i + t.2.1.toNat, 0) else ((0 : Int), i, ie 1048576 t)).1], (if ie 1048576 t = 0 then (wrap64 t.1, i + t.2.1.toNat, 0) else ((0 : Int), i, ie 1048576 t)).2.1, (if ie 1048576 t = 0 then (wrap64 t.1, i + t.2.1.toNat, 0) else ((0 : Int), i, ie 1048576 t)).2.2).1 ((j + 1 : Nat) : Int) = some (tup ct))
    (herr : (l ++ [(if ie 1048576 t = 0 then (wrap64 t.1, i + t.2.1.toNat, 0) else ((0 : Int), i, ie 1048576 t)).1], (if ie 1048576 t = 0 then (wrap64 t.1, i + t.2.1.toNat, 0) else ((0 : Int), i, ie 1048576 t)).2.1, (if ie 1048576 t = 0 then (wrap64 t.1, i + t.2.1.toNat, 0) else ((0 : Int), i, ie 1048576 t)).2.2).2.2 ≠ (0 : Int) → ct = (nine0, 1)) :
    concourseref37_Take.l0 (k + 1) (b.extract i b.size) l (j : Int) = some (tup ct) := by
  rw [concourseref37_Take.l0, if_pos hj9, hint, Option.bind_some]
  obtain ⟨t1, t2, t3⟩ := t
  simp only at hr ih herr ⊢
  by_cases h : ie 1048576 (t1, t2, t3) = 0
  · rw [i2_ok h]
    simp only [if_pos h] at ih
    rw [if_pos hl, if_pos hr.2.2.1, if_pos hr.2.2.2, hxx, hj1]
    exact ih trivial
  · have h2 := i2_err 1048576 (t1, t2, t3)
    rw [if_neg (by rw [h2]; exact h)]
    rw [if_neg h] at herr
    rw [herr h]
    rfl
theorem take37_loop (b : ByteArray) : ∀ n j : Nat, j + n = 9 → ∀ k, n + 41 ≤ k → (rounds b j).2.2 = 0 → concourseref37_Take.l0 k (b.extract (rounds b j).2.1 b.size) (rounds b j).1 (j : Int) = some (tup (confT b))
  | 0, j, hj, k, hk, he => by
    obtain ⟨k, rfl⟩ : ∃ k', k = k' + 1 := ⟨k - 1, by omega⟩
    obtain rfl : j = 9 := by omega
    have hl := rounds_len b 9
    have hi := rounds_le b 9
    rw [concourseref37_Take.l0, if_neg (by omega)]
    unfold confT dn
    rw [if_pos he]
    by_cases h : (rounds b 9).2.1 < b.size
    · rw [if_neg (fun c => (ext_empty hi).1 c h), if_pos h, if_neg (by decide)]
      rfl
    · rw [if_pos ((ext_empty hi).2 h), if_neg h, if_pos rfl, vlist_of _ hl, of_all _ k (by omega), Option.bind_some]
      rfl
  | n + 1, j, hj, k, hk, he => by
    obtain ⟨k, rfl⟩ : ∃ k', k = k' + 1 := ⟨k - 1, by omega⟩
    have hl := rounds_len b j
    have hi := rounds_le b j
    have hl44 : (rounds b j).1.length < 17592186044416 := by omega
    have hj9 : (j : Int) < 9 := by omega
    have hk1 : n + 41 ≤ k := by omega
    have hn1 : j + 1 + n = 9 := by omega
    have hk32 : 32 ≤ k := by omega
    have hj1 : wrap64 ((j : Int) + 1) = ((j + 1 : Nat) : Int) := by rw [IntWalk.wrap64_in _ (by omega)]; omega
    have hs : rounds b (j + 1) = ((rounds b j).1 ++ [(stI b 1048576 (rounds b j).2.1 (rounds b j).2.2).1], (stI b 1048576 (rounds b j).2.1 (rounds b j).2.2).2.1, (stI b 1048576 (rounds b j).2.1 (rounds b j).2.2).2.2) := rfl
    have ih := take37_loop b n (j + 1) hn1 k hk1
    have herr := confT_err (b := b) (j := j + 1) (n := n) hn1
    have hz := ext_size b (rounds b j).2.1 hi
    have hr := tk_range (b.extract (rounds b j).2.1 b.size)
    have hint := int02 (b.extract (rounds b j).2.1 b.size) 1048576 (by decide) (by decide) k hk32
    have hxx := ext_ext b (rounds b j).2.1
    rw [he] at hs
    unfold stI at hs
    rw [if_pos rfl] at hs
    rw [hs] at ih herr
    clear hs
    exact take37_step hj9 hj1 hl44 hint hz hr hxx ih herr
theorem take37 (b : ByteArray) (k : Nat) (hk : 50 ≤ k) : concourseref37_Take.f k b = some (tup (confT b)) := by
  have := take37_loop b 9 0 rfl k (by omega) rfl
  have e : b.extract 0 b.size = b := by
    apply bytes_ext
    rw [ext_list]
    rfl
  unfold concourseref37_Take.f
  have h2 : concourseref37_Take.l0 k (b.extract 0 b.size) ([] : List Int) 0 = some (tup (confT b)) := this
  rw [e] at h2
  exact h2
end Go.Proofs.Ytdnhmlpjohojdaa.Rf
/-
  Orders' bytes: what is taken is put so, and what is put is taken. Plain.
-/
namespace Go.Proofs.Ytdnhmlpjohojdaa.Rf
open Go.RowKit Go.Proofs.Ytdnhmlpjohojdaa.Tab Go.Proofs.Ytdnhmlpjohojdaa.Adm Go.Proofs.Ytdnhmlpjohojdaa.R Go.Proofs.Ytdnhmlpjohojdaa.Tk Go.Proofs.Ytdnhmlpjohojdaa.Span Go.Proofs.YtdnhmlpjohojdaaW.PrintWords Go.Proofs.YtdnhmlpjohojdaaW.PrintLast Go.Proofs.YtdnhmlpjohojdaaW.PrintMore
abbrev ls (s : ByteArray) : List UInt8 := s.data.toList
theorem ls_append (a b : ByteArray) : ls (a ++ b) = ls a ++ ls b := by
  show (a ++ b).data.toList = _
  rw [ByteArray.data_append, Array.toList_append]
theorem ext0 (b : ByteArray) : b.extract 0 b.size = b := by
  apply bytes_ext
  rw [ext_list]
  rfl
theorem num_pos (x : Int) : 0 < (numS x).size := by
  unfold numS
  rw [strOfNums_size]
  by_cases h : x.toNat < 128
  · rw [vl_small h]; simp
  · rw [vl_big h]; simp
/-! ### one number -/
/-- Behind i the bytes of n stand. -/
def Stands (b : ByteArray) (i : Nat) (n : Int) (i' : Nat) : Prop := i' = i + (numS n).size ∧ (ls b).drop i = ls (numS n) ++ (ls b).drop i'
theorem stands_of {b : ByteArray} {i : Nat} (h : (tk (b.extract i b.size)).2.2 = 0) : U64 (tk (b.extract i b.size)).1 ∧ Stands b i (tk (b.extract i b.size)).1 (i + (tk (b.extract i b.size)).2.1.toNat) := by
  obtain ⟨m, e1, e2, e3, e4⟩ := tk_ok (s := b.extract i b.size) (v := (tk (b.extract i b.size)).1) (k := (tk (b.extract i b.size)).2.1) (Prod.ext rfl (Prod.ext rfl h))
  rw [e1, e3, Int.toNat_natCast]
  rw [ext_list, List.drop_drop] at e4
  exact ⟨⟨by omega, by omega⟩, rfl, e4⟩
theorem stN_ok {b : ByteArray} {i : Nat} {e : Int} (h : (stN b i e).2.2 = 0) : e = 0 ∧ U64 (stN b i e).1 ∧ Stands b i (stN b i e).1 (stN b i e).2.1 := by
  unfold stN at h ⊢
  by_cases he : e = 0
  · rw [if_pos he] at h ⊢
    by_cases ht : (tk (b.extract i b.size)).2.2 = 0
    · rw [if_pos ht]
      exact ⟨he, stands_of ht⟩
    · rw [if_neg ht] at h
      exact absurd h ht
  · rw [if_neg he] at h
    exact absurd h he
theorem wrap_small {n : Int} (h0 : 0 ≤ n) (h1 : n ≤ 1048576) : wrap64 n = n := IntWalk.wrap64_in _ (by omega)
theorem stI_ok {b : ByteArray} {m : Int} {i : Nat} {e : Int} (hm : m ≤ 1048576) (h : (stI b m i e).2.2 = 0) : e = 0 ∧ 0 ≤ (stI b m i e).1 ∧ (stI b m i e).1 ≤ m ∧ Stands b i (stI b m i e).1 (stI b m i e).2.1 := by
  unfold stI at h ⊢
  by_cases he : e = 0
  · rw [if_pos he] at h ⊢
    by_cases ht : ie m (tk (b.extract i b.size)) = 0
    · rw [if_pos ht]
      have hr := tk_range (b.extract i b.size)
      unfold ie at ht
      by_cases h0 : (tk (b.extract i b.size)).2.2 = 0
      · rw [if_pos h0] at ht
        have hs := stands_of h0
        by_cases hn : m < (tk (b.extract i b.size)).1
        · rw [if_pos hn] at ht
          cases ht
        · have hw := wrap_small hr.1 (by omega : (tk (b.extract i b.size)).1 ≤ 1048576)
          simp only [hw]
          exact ⟨he, hr.1, by omega, hs.2⟩
      · rw [if_neg h0] at ht
        exact absurd ht h0
    · rw [if_neg ht] at h
      exact absurd h ht
  · rw [if_neg he] at h
    exact absurd h he
theorem tk_stands {b : ByteArray} {i i' : Nat} {n : Int} (hu : U64 n) (h : Stands b i n i') : tk (b.extract i b.size) = (n, ((numS n).size : Int), 0) := by
  obtain ⟨m, rfl⟩ := Int.eq_ofNat_of_zero_le hu.1
  have hm : m < 18446744073709551616 := by have := hu.2; omega
  exact tk_put hm (by rw [ext_list]; exact h.2)
theorem stN_put {b : ByteArray} {i i' : Nat} {n : Int} (hu : U64 n) (h : Stands b i n i') : stN b i 0 = (n, i', 0) := by
  unfold stN
  rw [if_pos rfl, tk_stands hu h, if_pos rfl, h.1]
  rfl
theorem stI_put {b : ByteArray} {m : Int} {i i' : Nat} {n : Int} (h0 : 0 ≤ n) (h1 : n ≤ m) (hm : m ≤ 1048576) (h : Stands b i n i') : stI b m i 0 = (n, i', 0) := by
  unfold stI ie
  have hn : ¬ m < n := by omega
  rw [if_pos rfl, tk_stands (U64_small h0 (by omega)) h]
  simp only [hn, if_false, if_true]
  rw [wrap_small h0 (by omega), h.1]
  rfl
/-! ### a configuration -/
def numsL (l : List Int) : List UInt8 := l.flatMap bytesI
theorem rounds_ok (b : ByteArray) : ∀ j, (rounds b j).2.2 = 0 → ls b = numsL (rounds b j).1 ++ (ls b).drop (rounds b j).2.1 ∧ ∀ x ∈ (rounds b j).1, 0 ≤ x ∧ x ≤ 1048576
  | 0, _ => ⟨rfl, fun x hx => by cases hx⟩
  | j + 1, h => by
    obtain ⟨he, h1, h2, h3⟩ := stI_ok (b := b) (m := 1048576) (i := (rounds b j).2.1) (e := (rounds b j).2.2) (by omega) h
    obtain ⟨ih, hx⟩ := rounds_ok b j he
    refine ⟨?_, fun x hx' => ?_⟩
    · show ls b = numsL ((rounds b j).1 ++ [_]) ++ (ls b).drop (stI b 1048576 (rounds b j).2.1 (rounds b j).2.2).2.1
      unfold numsL
      rw [List.flatMap_append, List.append_assoc]
      refine ih.trans ?_
      rw [h3.2]
      simp [numsL, bytesI, ls]
    · rcases List.mem_append.1 hx' with h' | h'
      · exact hx x h'
      · rcases List.mem_cons.1 h' with rfl | h'
        · exact ⟨h1, h2⟩
        · cases h'
theorem numsL_v (v : Fin 9 → Int) : numsL (vlist v) = confL v 9 := by
  unfold numsL confL upto9
  simp [vlist, List.finRange]
theorem confT_ok {b : ByteArray} (h : (confT b).2 = 0) : okB (confT b).1 = true ∧ b = confS (confT b).1 := by
  unfold confT at h ⊢
  by_cases hd : dn b (rounds b 9).2.1 (rounds b 9).2.2 = 0
  · rw [if_pos hd] at h ⊢
    simp only at h ⊢
    have hk : okB (vOf (rounds b 9).1) = true := by
      unfold errB at h
      by_cases c : okB (vOf (rounds b 9).1) = true
      · exact c
      · rw [if_neg c] at h
        cases h
    unfold ofV
    rw [if_pos hk]
    refine ⟨hk, ?_⟩
    unfold dn at hd
    by_cases he : (rounds b 9).2.2 = 0
    · rw [if_pos he] at hd
      have hi : ¬ (rounds b 9).2.1 < b.size := fun c => by rw [if_pos c] at hd; cases hd
      obtain ⟨h1, _⟩ := rounds_ok b 9 he
      rw [List.drop_of_length_le (by rw [← size_list]; omega), List.append_nil, vlist_of _ (rounds_len b 9), numsL_v] at h1
      apply bytes_ext
      exact h1
    · rw [if_neg he] at hd
      exact absurd hd he
  · rw [if_neg hd] at h
    cases h
theorem confL_split (v : Fin 9 → Int) : ∀ n j : Nat, j + n = 9 → confL v 9 = confL v j ++ (confL v 9).drop (confL v j).length
  | 0, j, hj => by
    obtain rfl : j = 9 := by omega
    rw [List.drop_length, List.append_nil]
  | n + 1, j, hj => by
    have ih := confL_split v n (j + 1) (by omega)
    have hs := confL_succ v ⟨j, by omega⟩
    simp only at hs
    rw [hs, List.append_assoc] at ih
    conv => rhs; rw [ih]
    rw [List.drop_left]
    exact ih
theorem rounds_put (v : Fin 9 → Int) (hv : ∀ x, in9 v x) : ∀ j, j ≤ 9 → rounds (confS v) j = ((upto9 j).map v, (confL v j).length, 0)
  | 0, _ => by simp [rounds, upto9, confL]
  | j + 1, hj => by
    have ih := rounds_put v hv j (by omega)
    have hb := in9_bd (hv ⟨j, by omega⟩)
    have hs := confL_succ v ⟨j, by omega⟩
    simp only at hs
    have h1 := confL_split v (9 - j) j (by omega)
    have h2 := confL_split v (9 - (j + 1)) (j + 1) (by omega)
    have hst : Stands (confS v) (confL v j).length (v ⟨j, by omega⟩) (confL v (j + 1)).length := by
      have hz : (numS (v ⟨j, by omega⟩)).size = (bytesI (v ⟨j, by omega⟩)).length := size_list _
      refine ⟨by rw [hs, List.length_append, hz], ?_⟩
      show (confL v 9).drop _ = bytesI _ ++ (confL v 9).drop _
      conv => lhs; rw [h2, hs, List.append_assoc]
      rw [List.drop_left, ← hs]
    show ((rounds (confS v) j).1 ++ [(stI (confS v) 1048576 (rounds (confS v) j).2.1 (rounds (confS v) j).2.2).1], (stI (confS v) 1048576 (rounds (confS v) j).2.1 (rounds (confS v) j).2.2).2.1, (stI (confS v) 1048576 (rounds (confS v) j).2.1 (rounds (confS v) j).2.2).2.2) = _
    rw [ih]
    simp only
    rw [stI_put hb.1 hb.2 (by omega) hst]
    have hu := upto9_succ ⟨j, by omega⟩
    simp only at hu
    rw [hu, List.map_append]
    rfl
theorem confT_put (v : Fin 9 → Int) (h : okB v = true) : confT (confS v) = (v, 0) := by
  have hv : ∀ x, in9 v x := of_decide_eq_true h
  have hr := rounds_put v hv 9 (by omega)
  have hvo : vOf ((upto9 9).map v) = v := by
    funext x
    unfold vOf upto9
    obtain ⟨x, hx⟩ := x
    rcases nine x hx with rfl | rfl | rfl | rfl | rfl | rfl | rfl | rfl | rfl <;> rfl
  have hz : (confS v).size = (confL v 9).length := size_list _
  unfold confT
  rw [hr]
  simp only
  unfold dn
  rw [if_pos rfl, if_neg (show ¬ (confL v 9).length < (confS v).size by omega), if_pos rfl, hvo]
  unfold ofV errB
  rw [h]
  rfl
/-! ### an order -/
theorem s4_ok {b : ByteArray} (h : (s3 b).2.2 = 0) : s4 b = (b.extract (s3 b).2.1 b.size, b.size, 0) ∧ dn b (s4 b).2.1 (s4 b).2.2 = 0 := by
  have e : s4 b = (b.extract (s3 b).2.1 b.size, b.size, 0) := by
    unfold s4 stR
    rw [if_pos h]
  rw [e]
  refine ⟨rfl, ?_⟩
  unfold dn
  rw [if_pos rfl, if_neg (Nat.lt_irrefl _)]
theorem s4_bad {b : ByteArray} (h : (s3 b).2.2 ≠ 0) : dn b (s4 b).2.1 (s4 b).2.2 ≠ 0 := by
  have e : s4 b = (⟨#[]⟩, (s3 b).2.1, (s3 b).2.2) := by
    unfold s4 stR
    rw [if_neg h]
  rw [e]
  unfold dn
  rw [if_neg h]
  exact h
theorem takeO_bad {b : ByteArray} (h : (s3 b).2.2 ≠ 0) : takeO b = (zeroO, 1) := by
  unfold takeO takeAt
  rw [if_neg (s4_bad h)]
theorem s3_bad1 {b : ByteArray} (h : (s1 b).2.2 ≠ 0) : (s3 b).2.2 ≠ 0 := fun c => h (stI_ok (by omega) (stI_ok (by omega) c).1).1
theorem s3_bad2 {b : ByteArray} (h : (s2 b).2.2 ≠ 0) : (s3 b).2.2 ≠ 0 := fun c => h (stI_ok (by omega) c).1
def head3 (b : ByteArray) : ByteArray := numS (s1 b).1 ++ numS (s2 b).1 ++ numS (s3 b).1
theorem split3 {b : ByteArray} (h : (s3 b).2.2 = 0) : U64 (s1 b).1 ∧ (0 ≤ (s2 b).1 ∧ (s2 b).1 ≤ 6) ∧ (0 ≤ (s3 b).1 ∧ (s3 b).1 ≤ 8) ∧ b = head3 b ++ (s4 b).1 := by
  obtain ⟨e2, a3, b3, c3⟩ := stI_ok (by omega : (8 : Int) ≤ 1048576) h
  obtain ⟨e1, a2, b2, c2⟩ := stI_ok (by omega : (6 : Int) ≤ 1048576) e2
  obtain ⟨_, u1, c1⟩ := stN_ok e1
  refine ⟨u1, ⟨a2, b2⟩, ⟨a3, b3⟩, ?_⟩
  apply bytes_ext
  show ls b = ls (head3 b ++ (s4 b).1)
  unfold head3
  rw [ls_append, ls_append, ls_append, (s4_ok h).1]
  have q1 : ls b = ls (numS (s1 b).1) ++ (ls b).drop (s1 b).2.1 := c1.2
  have q2 : (ls b).drop (s1 b).2.1 = ls (numS (s2 b).1) ++ (ls b).drop (s2 b).2.1 := c2.2
  have q3 : (ls b).drop (s2 b).2.1 = ls (numS (s3 b).1) ++ (ls b).drop (s3 b).2.1 := c3.2
  have q4 : ls (b.extract (s3 b).2.1 b.size) = (ls b).drop (s3 b).2.1 := ext_list _ _
  rw [q4, List.append_assoc, List.append_assoc, ← q3, ← q2]
  exact q1
theorem takeO_eq {b : ByteArray} (h : (s3 b).2.2 = 0) : takeO b = if (s2 b).1 = 1 ∨ (s2 b).1 = 6 then (if (confT (s4 b).1).2 = 0 then finO ⟨(s1 b).1, (s2 b).1, (s3 b).1, (confT (s4 b).1).1⟩ else (zeroO, 1)) else if (s4 b).1.toList = ([] : List UInt8) then finO ⟨(s1 b).1, (s2 b).1, (s3 b).1, nine0⟩ else (zeroO, 1) := by
  unfold takeO takeAt
  rw [if_pos (s4_ok h).2]
theorem put_conf {b : ByteArray} (h : (s3 b).2.2 = 0) (hop : (s2 b).1 = 1 ∨ (s2 b).1 = 6) (hc : (confT (s4 b).1).2 = 0) (hf : formB ⟨(s1 b).1, (s2 b).1, (s3 b).1, (confT (s4 b).1).1⟩ = true) : putS ⟨(s1 b).1, (s2 b).1, (s3 b).1, (confT (s4 b).1).1⟩ = b := by
  obtain ⟨_, _, _, hs⟩ := split3 h
  unfold putS
  rw [hf, if_pos rfl]
  simp only
  rw [if_pos hop, ← (confT_ok hc).2]
  exact hs.symm
theorem put_bare {b : ByteArray} (h : (s3 b).2.2 = 0) (hop : ¬ ((s2 b).1 = 1 ∨ (s2 b).1 = 6)) (hf : formB ⟨(s1 b).1, (s2 b).1, (s3 b).1, nine0⟩ = true) : putS ⟨(s1 b).1, (s2 b).1, (s3 b).1, nine0⟩ = b ↔ (s4 b).1.toList = ([] : List UInt8) := by
  obtain ⟨_, _, _, hs⟩ := split3 h
  have e : putS ⟨(s1 b).1, (s2 b).1, (s3 b).1, nine0⟩ = head3 b := by
    unfold putS
    rw [hf, if_pos rfl]
    simp only
    rw [if_neg hop, append_nil]
    rfl
  rw [e]
  have hz : b.size = (head3 b).size + (s4 b).1.size := by conv => lhs; rw [hs]
                                                          exact ByteArray.size_append
  have ht : (s4 b).1.toList = (s4 b).1.data.toList := ByteArray.toList_eq _
  constructor
  · intro hb
    rw [hb] at hz
    rw [ht]
    have := size_list (s4 b).1
    exact List.length_eq_zero_iff.1 (by omega)
  · intro hn
    have : (s4 b).1 = ⟨#[]⟩ := bytes_ext (by rw [← ht, hn])
    rw [this, append_nil] at hs
    exact hs.symm
/-- An order of whose bytes a configuration is left out. -/
def norm (o : Order) : Order := if o.op = 1 ∨ o.op = 6 then o else ⟨o.id, o.op, o.owner, nine0⟩
theorem takeO_ok {b : ByteArray} (h : (takeO b).2 = 0) : formB (takeO b).1 = true ∧ U64 (takeO b).1.id ∧ putS (takeO b).1 = b := by
  by_cases h3 : (s3 b).2.2 = 0
  · obtain ⟨u1, _, _, _⟩ := split3 h3
    rw [takeO_eq h3] at h ⊢
    by_cases hop : (s2 b).1 = 1 ∨ (s2 b).1 = 6
    · rw [if_pos hop] at h ⊢
      by_cases hc : (confT (s4 b).1).2 = 0
      · rw [if_pos hc] at h ⊢
        unfold finO at h ⊢
        by_cases hf : formB ⟨(s1 b).1, (s2 b).1, (s3 b).1, (confT (s4 b).1).1⟩ = true
        · rw [if_pos hf]
          exact ⟨hf, u1, put_conf h3 hop hc hf⟩
        · rw [if_neg hf] at h
          cases h
      · rw [if_neg hc] at h
        cases h
    · rw [if_neg hop] at h ⊢
      by_cases hn : (s4 b).1.toList = ([] : List UInt8)
      · rw [if_pos hn] at h ⊢
        unfold finO at h ⊢
        by_cases hf : formB ⟨(s1 b).1, (s2 b).1, (s3 b).1, nine0⟩ = true
        · rw [if_pos hf]
          exact ⟨hf, u1, (put_bare h3 hop hf).2 hn⟩
        · rw [if_neg hf] at h
          cases h
      · rw [if_neg hn] at h
        cases h
  · rw [takeO_bad h3] at h
    cases h
theorem takeO_err {b : ByteArray} (h : (takeO b).2 ≠ 0) : takeO b = (zeroO, 1) := by
  by_cases h3 : (s3 b).2.2 = 0
  · rw [takeO_eq h3] at h ⊢
    unfold finO at h ⊢
    split at h
    · split at h
      · split at h
        · exact absurd rfl h
        · rename_i a c d
          rw [if_pos a, if_pos c, if_neg d]
      · rename_i a c
        rw [if_pos a, if_neg c]
    · split at h
      · split at h
        · exact absurd rfl h
        · rename_i a c d
          rw [if_neg a, if_pos c, if_neg d]
      · rename_i a c
        rw [if_neg a, if_neg c]
  · exact takeO_bad h3
theorem takeO_empty : takeO ⟨#[]⟩ = (zeroO, 1) := by
  apply takeO_bad
  apply s3_bad1
  have : tk ((⟨#[]⟩ : ByteArray).extract 0 (⟨#[]⟩ : ByteArray).size) = (0, 0, 2) := by rw [ext0]; rfl
  unfold s1 stN
  rw [if_pos rfl, this]
  decide
theorem takeO_put (o : Order) (hid : U64 o.id) (hf : formB o = true) : takeO (putS o) = (norm o, 0) := by
  obtain ⟨⟨h1, h2, h3, h4⟩, h5⟩ := of_decide_eq_true hf
  obtain ⟨rest, hrest⟩ : ∃ r : ByteArray, r = if o.op = 1 ∨ o.op = 6 then confS o.v else ⟨#[]⟩ := ⟨_, rfl⟩
  have hp : putS o = numS o.id ++ numS o.op ++ numS o.owner ++ rest := by
    unfold putS
    rw [hf, if_pos rfl, hrest]
  generalize hb : putS o = b at *
  have hl : ls b = ls (numS o.id) ++ (ls (numS o.op) ++ (ls (numS o.owner) ++ ls rest)) := by
    rw [hp, ls_append, ls_append, ls_append, List.append_assoc, List.append_assoc]
  have z : ∀ x, (ls (numS x)).length = (numS x).size := fun x => (size_list _).symm
  have d1 : (ls b).drop (numS o.id).size = ls (numS o.op) ++ (ls (numS o.owner) ++ ls rest) := by
    rw [hl, ← z, List.drop_left]
  have d2 : (ls b).drop ((numS o.id).size + (numS o.op).size) = ls (numS o.owner) ++ ls rest := by
    rw [← List.drop_drop, d1, ← z o.op, List.drop_left]
  have d3 : (ls b).drop ((numS o.id).size + (numS o.op).size + (numS o.owner).size) = ls rest := by
    rw [← List.drop_drop, d2, ← z o.owner, List.drop_left]
  have e1 : s1 b = (o.id, (numS o.id).size, 0) := stN_put hid ⟨by omega, by rw [d1]; exact hl⟩
  have e2 : s2 b = (o.op, (numS o.id).size + (numS o.op).size, 0) := by
    unfold s2
    rw [e1]
    exact stI_put (by omega) (by omega) (by omega) ⟨rfl, by rw [d1, d2]⟩
  have e3 : s3 b = (o.owner, (numS o.id).size + (numS o.op).size + (numS o.owner).size, 0) := by
    unfold s3
    rw [e2]
    exact stI_put (by omega) (by omega) (by omega) ⟨rfl, by rw [d2, d3]⟩
  have e4 : (s4 b).1 = rest := by
    rw [(s4_ok (by rw [e3])).1, e3]
    apply bytes_ext
    rw [ext_list]
    exact d3
  rw [takeO_eq (by rw [e3]), e4, e1, e2, e3]
  simp only
  unfold norm
  by_cases hop : o.op = 1 ∨ o.op = 6
  · rw [if_pos hop] at hrest ⊢
    rw [hrest, confT_put o.v (h5 hop)]
    simp only
    rw [if_pos trivial, if_pos hop]
    unfold finO
    rw [if_pos hf]
  · rw [if_neg hop] at hrest ⊢
    rw [if_neg hop, hrest, if_pos (by rw [ByteArray.toList_eq])]
    unfold finO
    rw [if_pos]
    exact decide_eq_true ⟨⟨h1, h2, h3, h4⟩, fun c => absurd c hop⟩
theorem zeroO_size : putS zeroO = ⟨#[]⟩ := by
  unfold putS
  rw [show formB zeroO = false from decide_eq_false (fun h => absurd h.1.1 (by decide))]
  rfl
end Go.Proofs.Ytdnhmlpjohojdaa.Rf
/-
  The document's Take of chapter 41, by its contract.
-/
namespace Go.Proofs.Ytdnhmlpjohojdaa.Rf
open Go.RowKit Go.Proofs.Ytdnhmlpjohojdaa.Tab Go.Proofs.Ytdnhmlpjohojdaa.Adm Go.Proofs.Ytdnhmlpjohojdaa.R Go.Proofs.Ytdnhmlpjohojdaa.Tk Go.Proofs.Ytdnhmlpjohojdaa.Span Go.Proofs.YtdnhmlpjohojdaaW.PrintWords Go.Proofs.YtdnhmlpjohojdaaW.PrintLast Go.Proofs.YtdnhmlpjohojdaaW.PrintMore
/-- Blocks of the walk's own. -/
structure Ow (w W : World) (bl : List Bk1) : Prop where
  below : Below w.heap.size w W
  keep : ∀ x ∈ bl, W.heap[x.1]? = some (.cells x.2.1 x.2.2 (0, 0)) ∧ w.heap.size ≤ x.1
section
variable {w W W' : World} {bl bl' : List Bk1}
theorem Ow.move (h : Ow w W bl) (hb : Below W.heap.size W W') : Ow w W' bl :=
  ⟨h.below.trans (hb.mono h.below.size), fun x hx => ⟨blk_below (h.keep x hx).1 hb, (h.keep x hx).2⟩⟩
theorem Ow.push (h : Ow w W bl) (cs : Array Value) (t : TypeId) : Ow w (W.alloc (.cells cs t)) ((W.heap.size, cs, t) :: bl) := by
  have h' := h.move ((Below.refl _ _).alloc (Nat.le_refl _) (.cells cs t))
  refine ⟨h'.below, fun x hx => ?_⟩
  rcases List.mem_cons.1 hx with rfl | hx
  · exact ⟨heap_alloc_last _ _, h.below.size⟩
  · exact h'.keep x hx
theorem Ow.put (h : Ow w W bl) {q : Nat} {cs cs' : Array Value} {t : TypeId} (hm : (q, cs, t) ∈ bl) (hq : W'.heap[q]? = some (.cells cs' t (0, 0))) (g : W.grownBy W' (some q)) (hs : ∀ x ∈ bl', x ∈ bl ∧ x.1 ≠ q) : Ow w W' ((q, cs', t) :: bl') := by
  have hk := h.keep _ hm
  refine ⟨h.below.grown g h.below.size (fun k e => by injection e with e; have := hk.2; simp only at this; omega), fun x hx => ?_⟩
  rcases List.mem_cons.1 hx with rfl | hx
  · exact ⟨hq, hk.2⟩
  · exact ⟨blk_grown (h.keep x (hs x hx).1).1 g (fun e => (hs x hx).2 (Option.some.inj e)), (h.keep x (hs x hx).1).2⟩
end
theorem inf26' : (Try.prog.info? 26).map (·.size) = some 12 := by kernel_rfl
theorem t1_ok {b : ByteArray} (h : (s1 b).2.2 = 0) : tk b = ((s1 b).1, ((s1 b).2.1 : Int), 0) := by
  have hr := tk_range b
  unfold s1 stN at h ⊢
  rw [if_pos rfl, ext0] at h ⊢
  by_cases ht : (tk b).2.2 = 0
  · rw [if_pos ht]
    refine Prod.ext rfl (Prod.ext ?_ ht)
    show _ = ((0 + (tk b).2.1.toNat : Nat) : Int)
    omega
  · rw [if_neg ht] at h
    exact absurd h ht
theorem t1_bad {b : ByteArray} (h : (s1 b).2.2 ≠ 0) : (tk b).2.2 ≠ 0 := by
  intro c
  apply h
  unfold s1 stN
  rw [if_pos rfl, ext0, if_pos c]
theorem stI_i2 {b : ByteArray} {m : Int} {i : Nat} {e : Int} (he : e = 0) (h : (stI b m i e).2.2 = 0) : i2 m (tk (b.extract i b.size)) = ((stI b m i e).1, (((stI b m i e).2.1 - i : Nat) : Int), 0) ∧ i ≤ (stI b m i e).2.1 := by
  have hr := tk_range (b.extract i b.size)
  unfold stI at h ⊢
  rw [if_pos he] at h ⊢
  by_cases ht : ie m (tk (b.extract i b.size)) = 0
  · rw [if_pos ht, i2_ok ht]
    refine ⟨Prod.ext rfl (Prod.ext ?_ rfl), Nat.le_add_right _ _⟩
    show (tk (b.extract i b.size)).2.1 = ((i + (tk (b.extract i b.size)).2.1.toNat - i : Nat) : Int)
    omega
  · rw [if_neg ht] at h
    exact absurd h ht
theorem stI_i2_bad {b : ByteArray} {m : Int} {i : Nat} {e : Int} (he : e = 0) (h : (stI b m i e).2.2 ≠ 0) : (i2 m (tk (b.extract i b.size))).2.2 ≠ 0 := by
  intro c
  apply h
  rw [i2_err] at c
  unfold stI
  rw [if_pos he, if_pos c]
theorem R38_ (s : ByteArray) (w : World) (r : Int × Int × Int) (h : tk s = r) : Calls Try.prog 38 #[.string s] w fun e w' => e = .returned (.tuple #[.int .u64 r.1, .int .i64 r.2.1, .int .i64 r.2.2]) ∧ Below w.heap.size w w' :=
  (concourseref01_Take.calls 32 s _ _ _ w ((ref_tk s 32 (Nat.le_refl _)).trans (by rw [h]))).mono fun e w' ⟨he, n, hn⟩ => ⟨he, hn ▸ pw_below_drewN (Below.refl _ _) n⟩
theorem R39_ (s : ByteArray) (m : Int) (h0 : 0 ≤ m) (h1 : m ≤ 1048576) (w : World) (r : Int × Int × Int) (h : i2 m (tk s) = r) : Calls Try.prog 39 #[.string s, .int .i64 m] w fun e w' => e = .returned (.tuple #[.int .i64 r.1, .int .i64 r.2.1, .int .i64 r.2.2]) ∧ Below w.heap.size w w' :=
  (concourseref02_Int.calls 32 s m _ _ _ w ((int02 s m h0 h1 32 (Nat.le_refl _)).trans (by rw [h]))).mono fun e w' ⟨he, n, hn⟩ => ⟨he, hn ▸ pw_below_drewN (Below.refl _ _) n⟩
theorem R40_ (s : ByteArray) (w : World) : Calls Try.prog 40 #[.string s] w fun e w' => e = .returned (.tuple #[.agg (cells9 (confT s).1), .int .i64 (confT s).2]) ∧ Below w.heap.size w w' :=
  concourseref37_Take.calls 50 s _ _ _ _ _ _ _ _ _ _ w (take37 s 50 (Nat.le_refl _))
theorem R10_ (o : Order) (hid : U64 o.id) (w : World) : Calls Try.prog 10 #[ordV o] w fun e w' => e = .returned (.tuple #[.string (putS o), .int .i64 (errB (formB o))]) ∧ Below w.heap.size w w' :=
  concourseref41_Put.calls 20 _ _ _ _ _ _ _ _ _ _ _ _ _ _ w (put41 o hid 20 (Nat.le_refl _))
set_option maxRecDepth 100000 in
set_option maxHeartbeats 4000000 in
theorem Take_e1 (b : ByteArray) (hm : b.size ≤ 9223372036854775807) (h : (s1 b).2.2 ≠ 0) (w : World) : Calls Try.prog 12 #[.string b] w fun e w' => e = .returned (.tuple #[ordV (takeO b).1, .int .i64 (takeO b).2]) ∧ Below w.heap.size w w' := by
  rw [takeO_bad (s3_bad1 h)]
  have h1 := t1_bad h
  have HT := Lib.hid (fun w => R38_ b w (tk b) rfl)
  clear h hm
  generalize tk b = t at *
  obtain ⟨x, y, e⟩ := t
  simp only at h1 HT
  have k1 : (e != 0) = true := bne_iff_ne.2 h1
  have k2 : (e == 0) = false := beq_eq_false_iff_ne.2 h1
  have k3 : decide (e = 0) = false := decide_eq_false h1
  clear h1

  go_enter Try.func12, Try.ntmps12
  go_wp2_with fail
  have hO : Ow w (w.alloc (.cells zs12 26)) [(w.heap.size, zs12, 26)] := Ow.push (bl := []) ⟨Below.refl _ _, fun x hx => by cases hx⟩ zs12 26
  simp only [zs12] at hO
  generalize w.alloc (.cells #[.int .u64 0, .int .i64 0, .int .i64 0, .int .i64 0, .int .i64 0, .int .i64 0, .int .i64 0, .int .i64 0, .int .i64 0, .int .i64 0, .int .i64 0, .int .i64 0] 26) = W0 at *
  obtain ⟨g, hge⟩ : ∃ g, g = w.heap.size := ⟨_, rfl⟩
  rw [← hge] at hO ⊢
  have HGE := Lib.hid hge
  have HA : Hid (Ow w W0 [(g, zs12, 26)]) := Lib.hid hO
  clear hge hO
  refine (HT.out _).mono ?_
  rintro e w1 ⟨rfl, hb⟩
  replace HA := Lib.hid (HA.out.move hb)
  clear hb
  go_wp2_with (first
    | (refine Line.Stop.at none (.store 26 (.tmp 2) (.tmp 23)) ?_))
  constructor
  refine Line.put_own rfl rfl 26 (.tmp 2) (.tmp 23) rfl g 0 rfl (ordV zeroO) rfl zs12 (cells12 zeroO) 26 (HA.out.keep _ (.head _)).1 (by simp [zs12, Value.cells]) inf26' (by simp [Value.cells, Value.oneCell']) (by simp [Value.cells, zs12]) ?_
  intro w20 h20 g20
  have HB20 := Lib.hid (HA.out.below.grown g20 HA.out.below.size (fun k e => by injection e with e; have := HGE.out; omega))
  have H20 := Lib.hid h20
  clear h20 g20
  go_wp2_with fail
  exact bodyPost_ret (results_ct rfl _ _ g 26 (cells12 zeroO) (0, 0) _ rfl H20.out Try.underlying26 rfl inf26') rfl ⟨rfl, HB20.out⟩
set_option maxRecDepth 100000 in
set_option maxHeartbeats 4000000 in
theorem Take_e2 (b : ByteArray) (hm : b.size ≤ 9223372036854775807) (h1 : (s1 b).2.2 = 0) (h : (s2 b).2.2 ≠ 0) (w : World) : Calls Try.prog 12 #[.string b] w fun e w' => e = .returned (.tuple #[ordV (takeO b).1, .int .i64 (takeO b).2]) ∧ Below w.heap.size w w' := by
  rw [takeO_bad (s3_bad2 h)]
  have hq1 : (s1 b).2.1 ≤ b.size := stN_le (Nat.zero_le _)
  have HT := Lib.hid (fun w => R38_ b w _ (t1_ok h1))
  have hb2 := stI_i2_bad h1 h
  have HI := Lib.hid (fun w => R39_ (b.extract (s1 b).2.1 b.size) 6 (by omega) (by omega) w _ rfl)
  clear h h1
  generalize s1 b = q1 at *
  obtain ⟨n1, i1, e1⟩ := q1
  simp only at HT HI hb2 hq1
  generalize i2 6 (tk (b.extract i1 b.size)) = t at *
  obtain ⟨x, y, e⟩ := t
  simp only at hb2 HI
  have k1 : (e != 0) = true := bne_iff_ne.2 hb2
  have k2 : (e == 0) = false := beq_eq_false_iff_ne.2 hb2
  have k3 : decide (e = 0) = false := decide_eq_false hb2
  clear hb2
  have z0 : (0 : Int) ≤ (i1 : Int) := by omega
  have z1 : (i1 : Int) ≤ (b.size : Int) := by omega
  clear hm

  go_enter Try.func12, Try.ntmps12
  go_wp2_with fail
  have hO : Ow w (w.alloc (.cells zs12 26)) [(w.heap.size, zs12, 26)] := Ow.push (bl := []) ⟨Below.refl _ _, fun x hx => by cases hx⟩ zs12 26
  simp only [zs12] at hO
  generalize w.alloc (.cells #[.int .u64 0, .int .i64 0, .int .i64 0, .int .i64 0, .int .i64 0, .int .i64 0, .int .i64 0, .int .i64 0, .int .i64 0, .int .i64 0, .int .i64 0, .int .i64 0] 26) = W0 at *
  obtain ⟨g, hge⟩ : ∃ g, g = w.heap.size := ⟨_, rfl⟩
  rw [← hge] at hO ⊢
  have HGE := Lib.hid hge
  have HA : Hid (Ow w W0 [(g, zs12, 26)]) := Lib.hid hO
  clear hge hO
  refine (HT.out _).mono ?_
  rintro e w1 ⟨rfl, hb⟩
  replace HA := Lib.hid (HA.out.move hb)
  clear hb
  go_wp2_with fail
  refine (HI.out _).mono ?_
  rintro e w2 ⟨rfl, hb⟩
  replace HA := Lib.hid (HA.out.move hb)
  clear hb
  go_wp2_with (first
    | (refine Line.Stop.at none (.store 26 (.tmp 2) (.tmp 34)) ?_))
  constructor
  refine Line.put_own rfl rfl 26 (.tmp 2) (.tmp 34) rfl g 0 rfl (ordV zeroO) rfl zs12 (cells12 zeroO) 26 (HA.out.keep _ (.head _)).1 (by simp [zs12, Value.cells]) inf26' (by simp [Value.cells, Value.oneCell']) (by simp [Value.cells, zs12]) ?_
  intro w20 h20 g20
  have HB20 := Lib.hid (HA.out.below.grown g20 HA.out.below.size (fun k e => by injection e with e; have := HGE.out; omega))
  have H20 := Lib.hid h20
  clear h20 g20
  go_wp2_with fail
  exact bodyPost_ret (results_ct rfl _ _ g 26 (cells12 zeroO) (0, 0) _ rfl H20.out Try.underlying26 rfl inf26') rfl ⟨rfl, HB20.out⟩
set_option maxRecDepth 100000 in
set_option maxHeartbeats 4000000 in
theorem Take_e3 (b : ByteArray) (hm : b.size ≤ 9223372036854775807) (h1 : (s1 b).2.2 = 0) (h2 : (s2 b).2.2 = 0) (h : (s3 b).2.2 ≠ 0) (w : World) : Calls Try.prog 12 #[.string b] w fun e w' => e = .returned (.tuple #[ordV (takeO b).1, .int .i64 (takeO b).2]) ∧ Below w.heap.size w w' := by
  rw [takeO_bad h]
  have hq1 : (s1 b).2.1 ≤ b.size := stN_le (Nat.zero_le _)
  have hq2 : (s2 b).2.1 ≤ b.size := stI_le hq1
  have HT := Lib.hid (fun w => R38_ b w _ (t1_ok h1))
  obtain ⟨hi2, hle⟩ := stI_i2 h1 (h2 : (stI b 6 (s1 b).2.1 (s1 b).2.2).2.2 = 0)
  have HI := Lib.hid (fun w => R39_ (b.extract (s1 b).2.1 b.size) 6 (by omega) (by omega) w _ hi2)
  have hb2 := stI_i2_bad h2 h
  have HJ := Lib.hid (fun w => R39_ (b.extract (s2 b).2.1 b.size) 8 (by omega) (by omega) w _ rfl)
  change (s1 b).2.1 ≤ (s2 b).2.1 at hle
  change Hid (∀ w, Calls _ _ _ _ fun e w' => e = .returned (.tuple #[.int .i64 (s2 b).1, .int .i64 (((s2 b).2.1 - (s1 b).2.1 : Nat) : Int), .int .i64 0]) ∧ _) at HI
  clear h h1 h2 hi2
  generalize s1 b = q1 at *
  generalize s2 b = q2 at *
  obtain ⟨n1, i1, e1⟩ := q1
  obtain ⟨n2, j2, e2⟩ := q2
  simp only at HT HI HJ hb2 hq1 hq2 hle
  obtain ⟨d2, rfl⟩ : ∃ d, j2 = i1 + d := ⟨j2 - i1, by omega⟩
  rw [Nat.add_sub_cancel_left] at HI
  generalize i2 8 (tk (b.extract (i1 + d2) b.size)) = t at *
  obtain ⟨x, y, e⟩ := t
  simp only at hb2 HJ
  have k1 : (e != 0) = true := bne_iff_ne.2 hb2
  have k2 : (e == 0) = false := beq_eq_false_iff_ne.2 hb2
  have k3 : decide (e = 0) = false := decide_eq_false hb2
  clear hb2
  have z0 : (0 : Int) ≤ (i1 : Int) := by omega
  have z1 : (i1 : Int) ≤ (b.size : Int) := by omega
  have z2 : (0 : Int) ≤ (d2 : Int) := by omega
  have z3 : (i1 : Int) + (d2 : Int) ≤ (b.size : Int) := by omega
  have z4 : (b.size : Int) ≤ 9223372036854775807 := by omega
  have z5 : ((i1 : Int) + (d2 : Int)).toNat = i1 + d2 := by omega
  clear hm hq1 hq2 hle

  go_enter Try.func12, Try.ntmps12
  go_wp2_with fail
  have hO : Ow w (w.alloc (.cells zs12 26)) [(w.heap.size, zs12, 26)] := Ow.push (bl := []) ⟨Below.refl _ _, fun x hx => by cases hx⟩ zs12 26
  simp only [zs12] at hO
  generalize w.alloc (.cells #[.int .u64 0, .int .i64 0, .int .i64 0, .int .i64 0, .int .i64 0, .int .i64 0, .int .i64 0, .int .i64 0, .int .i64 0, .int .i64 0, .int .i64 0, .int .i64 0] 26) = W0 at *
  obtain ⟨g, hge⟩ : ∃ g, g = w.heap.size := ⟨_, rfl⟩
  rw [← hge] at hO ⊢
  have HGE := Lib.hid hge
  have HA : Hid (Ow w W0 [(g, zs12, 26)]) := Lib.hid hO
  clear hge hO
  refine (HT.out _).mono ?_
  rintro e w1 ⟨rfl, hb⟩
  replace HA := Lib.hid (HA.out.move hb)
  clear hb
  go_wp2_with fail
  refine (HI.out _).mono ?_
  rintro e w2 ⟨rfl, hb⟩
  replace HA := Lib.hid (HA.out.move hb)
  clear hb
  go_wp2_with fail
  refine (HJ.out _).mono ?_
  rintro e w3 ⟨rfl, hb⟩
  replace HA := Lib.hid (HA.out.move hb)
  clear hb
  go_wp2_with (first
    | (refine Line.Stop.at none (.store 26 (.tmp 2) (.tmp 47)) ?_))
  constructor
  refine Line.put_own rfl rfl 26 (.tmp 2) (.tmp 47) rfl g 0 rfl (ordV zeroO) rfl zs12 (cells12 zeroO) 26 (HA.out.keep _ (.head _)).1 (by simp [zs12, Value.cells]) inf26' (by simp [Value.cells, Value.oneCell']) (by simp [Value.cells, zs12]) ?_
  intro w20 h20 g20
  have HB20 := Lib.hid (HA.out.below.grown g20 HA.out.below.size (fun k e => by injection e with e; have := HGE.out; omega))
  have H20 := Lib.hid h20
  clear h20 g20
  go_wp2_with fail
  exact bodyPost_ret (results_ct rfl _ _ g 26 (cells12 zeroO) (0, 0) _ rfl H20.out Try.underlying26 rfl inf26') rfl ⟨rfl, HB20.out⟩
set_option maxRecDepth 100000 in
set_option maxHeartbeats 4000000 in
theorem Take_ok (b : ByteArray) (hm : b.size ≤ 9223372036854775807) (h1 : (s1 b).2.2 = 0) (h2 : (s2 b).2.2 = 0) (h3 : (s3 b).2.2 = 0) (w : World) : Calls Try.prog 12 #[.string b] w fun e w' => e = .returned (.tuple #[ordV (takeO b).1, .int .i64 (takeO b).2]) ∧ Below w.heap.size w w' := by
  obtain ⟨rs, hrs⟩ : ∃ rs, takeO b = rs := ⟨_, rfl⟩
  rw [hrs]
  rw [takeO_eq h3] at hrs
  have hq1 : (s1 b).2.1 ≤ b.size := stN_le (Nat.zero_le _)
  have hq2 : (s2 b).2.1 ≤ b.size := stI_le hq1
  have hq3 : (s3 b).2.1 ≤ b.size := stI_le hq2
  have hu := (split3 h3).1
  have HPC := Lib.hid (put_conf h3)
  have HPB := Lib.hid (put_bare h3)
  have h4 := (s4_ok h3).1
  have HT := Lib.hid (fun w => R38_ b w _ (t1_ok h1))
  obtain ⟨hi2, hle⟩ := stI_i2 h1 (h2 : (stI b 6 (s1 b).2.1 (s1 b).2.2).2.2 = 0)
  obtain ⟨hi3, hle3⟩ := stI_i2 h2 (h3 : (stI b 8 (s2 b).2.1 (s2 b).2.2).2.2 = 0)
  have HI := Lib.hid (fun w => R39_ (b.extract (s1 b).2.1 b.size) 6 (by omega) (by omega) w _ hi2)
  have HJ := Lib.hid (fun w => R39_ (b.extract (s2 b).2.1 b.size) 8 (by omega) (by omega) w _ hi3)
  have HK := Lib.hid (fun w => R40_ (b.extract (s3 b).2.1 b.size) w)
  have HP := Lib.hid (fun v w => R10_ ⟨(s1 b).1, (s2 b).1, (s3 b).1, v⟩ hu w)
  change (s1 b).2.1 ≤ (s2 b).2.1 at hle
  change (s2 b).2.1 ≤ (s3 b).2.1 at hle3
  change Hid (∀ w, Calls _ _ _ _ fun e w' => e = .returned (.tuple #[.int .i64 (s2 b).1, .int .i64 (((s2 b).2.1 - (s1 b).2.1 : Nat) : Int), .int .i64 0]) ∧ _) at HI
  change Hid (∀ w, Calls _ _ _ _ fun e w' => e = .returned (.tuple #[.int .i64 (s3 b).1, .int .i64 (((s3 b).2.1 - (s2 b).2.1 : Nat) : Int), .int .i64 0]) ∧ _) at HJ
  rw [h4] at hrs HPC HPB
  clear h1 h2 h3 hi2 hi3 h4 hu
  generalize s1 b = q1 at *
  generalize s2 b = q2 at *
  generalize s3 b = q3 at *
  obtain ⟨n1, i1, e1⟩ := q1
  obtain ⟨n2, j2, e2⟩ := q2
  obtain ⟨n3, j3, e3⟩ := q3
  simp only at HT HI HJ HK HP hq1 hq2 hq3 hle hle3 hrs HPC HPB
  obtain ⟨d2, rfl⟩ : ∃ d, j2 = i1 + d := ⟨j2 - i1, by omega⟩
  obtain ⟨d3, rfl⟩ : ∃ d, j3 = i1 + d2 + d := ⟨j3 - (i1 + d2), by omega⟩
  rw [Nat.add_sub_cancel_left] at HI HJ
  have HRS := Lib.hid hrs
  clear hrs
  have z0 : (0 : Int) ≤ (i1 : Int) := by omega
  have z1 : (i1 : Int) ≤ (b.size : Int) := by omega
  have z2 : (0 : Int) ≤ (d2 : Int) := by omega
  have z3 : (i1 : Int) + (d2 : Int) ≤ (b.size : Int) := by omega
  have z4 : (b.size : Int) ≤ 9223372036854775807 := by omega
  have z5 : ((i1 : Int) + (d2 : Int)).toNat = i1 + d2 := by omega
  have z6 : (0 : Int) ≤ (d3 : Int) := by omega
  have z7 : (i1 : Int) + (d2 : Int) + (d3 : Int) ≤ (b.size : Int) := by omega
  have z8 : ((i1 : Int) + (d2 : Int) + (d3 : Int)).toNat = i1 + d2 + d3 := by omega
  clear hm hq1 hq2 hle hq3 hle3
  generalize hrest : b.extract (i1 + d2 + d3) b.size = rest at *
  have HRT := Lib.hid hrest
  clear hrest
  generalize hct : confT rest = ct at *
  clear hct
  obtain ⟨cv, ce⟩ := ct
  simp only [cells12, ordV] at HP
  simp only at HK HRS HPC HPB
  rw [← HRT.out] at HK
  clear HRT
  go_enter Try.func12, Try.ntmps12
  go_wp2_with fail
  have hO : Ow w (w.alloc (.cells zs12 26)) [(w.heap.size, zs12, 26)] := Ow.push (bl := []) ⟨Below.refl _ _, fun x hx => by cases hx⟩ zs12 26
  simp only [zs12] at hO
  generalize w.alloc (.cells #[.int .u64 0, .int .i64 0, .int .i64 0, .int .i64 0, .int .i64 0, .int .i64 0, .int .i64 0, .int .i64 0, .int .i64 0, .int .i64 0, .int .i64 0, .int .i64 0] 26) = W0 at *
  obtain ⟨g, hge⟩ : ∃ g, g = w.heap.size := ⟨_, rfl⟩
  rw [← hge] at hO ⊢
  have HGE := Lib.hid hge
  have HA : Hid (Ow w W0 [(g, zs12, 26)]) := Lib.hid hO
  clear hge hO
  refine (HT.out _).mono ?_
  rintro e w1 ⟨rfl, hb⟩
  replace HA := Lib.hid (HA.out.move hb)
  clear hb
  go_wp2_with fail
  refine (HI.out _).mono ?_
  rintro e w2 ⟨rfl, hb⟩
  replace HA := Lib.hid (HA.out.move hb)
  clear hb
  go_wp2_with fail
  refine (HJ.out _).mono ?_
  rintro e w3 ⟨rfl, hb⟩
  replace HA := Lib.hid (HA.out.move hb)
  clear hb
  go_wp2_with (first
    | (refine Line.Stop.at none (.store 26 (.tmp 11) (.tmp 51)) ?_))
  constructor
  have hA := HA.out.push zs12 26
  have hlt := blk_lt (HA.out.keep _ (.head _)).1
  refine Line.put_own rfl rfl 26 (.tmp 11) (.tmp 51) rfl w3.heap.size 0 rfl (ordV ⟨n1, n2, n3, nine0⟩) rfl zs12 (cells12 ⟨n1, n2, n3, nine0⟩) 26 (heap_alloc_last _ _) (by simp [zs12, Value.cells]) inf26' (by simp [Value.cells, Value.oneCell']) (by simp [Value.cells, zs12]) ?_
  intro w5 h5 g5
  have hA5 := hA.put (bl' := [(g, zs12, 26)]) (.head _) h5 g5 (fun x hx => by
    rcases List.mem_cons.1 hx with rfl | hx
    · exact ⟨.tail _ (.head _), by show g ≠ w3.heap.size; simp only at hlt; omega⟩
    · cases hx)
  have hgk : g ≠ w3.heap.size := by simp only at hlt; omega
  generalize w3.heap.size = k5 at *
  have HGK := Lib.hid hgk
  replace HA := Lib.hid hA5
  clear h5 g5 hA hA5 hlt hgk HT HI HJ
  by_cases hop : n2 = 1 ∨ n2 = 6
  · replace HRS := Lib.hid ((if_pos hop).symm.trans HRS.out)
    replace HPC := Lib.hid (HPC.out hop)
    clear HPB
    have hcfg : ((n2 == 1) || (n2 == 6)) = true := by rcases hop with h | h <;> simp [h]
    rcases hop with h | h
    · subst h
      go_wp2_with fail
      refine (HK.out _).mono ?_
      rintro e w8 ⟨rfl, hb⟩
      replace HA := Lib.hid (HA.out.move hb)
      clear hb HK
      go_wp2_with (first
        | (refine Line.Stop.at none (.store 24 (.tmp 12) (.tmp 67)) ?_))
      constructor
      have hA := HA.out.push zs9 24
      have hlt8 := blk_lt (HA.out.keep _ (.head _)).1
      have hlt9 := blk_lt (HA.out.keep _ (.tail _ (.head _))).1
      refine Line.put_own rfl rfl 24 (.tmp 12) (.tmp 67) rfl w8.heap.size 0 rfl (.agg (cells9 cv)) rfl zs9 (cells9 cv) 24 (heap_alloc_last _ _) (by simp [zs9, Value.cells]) inf24' (by simp [Value.cells, Value.oneCell']) (by simp [Value.cells, zs9]) ?_
      intro w9 h9 g9
      have hA9 := hA.put (bl' := [(k5, cells12 ⟨n1, 1, n3, nine0⟩, 26), (g, zs12, 26)]) (.head _) h9 g9 (fun x hx => by
        rcases List.mem_cons.1 hx with rfl | hx
        · exact ⟨.tail _ (.head _), by show k5 ≠ w8.heap.size; simp only at hlt8; omega⟩
        · rcases List.mem_cons.1 hx with rfl | hx
          · exact ⟨.tail _ (.tail _ (.head _)), by show g ≠ w8.heap.size; simp only at hlt9; omega⟩
          · cases hx)
      generalize w8.heap.size = k7 at *
      replace HA := Lib.hid hA9
      clear hA hA9 h9 g9 hlt8 hlt9
      by_cases hce : ce = 0
      · subst hce
        replace HRS := Lib.hid ((if_pos rfl).symm.trans HRS.out)
        replace HPC := Lib.hid (HPC.out rfl)
        have c7 : ∀ k, w9.cell? ⟨k7, k, none⟩ = (cells9 cv)[k]? := fun k => blk_cell (HA.out.keep _ (.head _)).1 k
        simp only [cells9] at c7
        go_wp2_with (first
          | (refine Line.Stop.at none (.store 24 (.tmp 73) (.tmp 72)) ?_))
        constructor
        refine Line.put_own rfl rfl 24 (.tmp 73) (.tmp 72) rfl k5 3 rfl (.agg (cells9 cv)) rfl (cells12 ⟨n1, 1, n3, nine0⟩) (cells12 ⟨n1, 1, n3, cv⟩) 26 (HA.out.keep _ (.tail _ (.head _))).1 (by simp [Value.cells]) inf24' (by simp [Value.cells, Value.oneCell']) (by simp [Value.cells]) ?_
        intro w10 h10 g10
        have hA10 := HA.out.put (bl' := [(g, zs12, 26)]) (.tail _ (.head _)) h10 g10 (fun x hx => by
          rcases List.mem_cons.1 hx with rfl | hx
          · exact ⟨.tail _ (.tail _ (.head _)), by show g ≠ k5; exact HGK.out⟩
          · cases hx)
        replace HA := Lib.hid hA10
        clear hA10 h10 g10 c7
        have c5 : ∀ k, w10.cell? ⟨k5, k, none⟩ = (cells12 ⟨n1, 1, n3, cv⟩)[k]? := fun k => blk_cell (HA.out.keep _ (.head _)).1 k
        simp only [cells12] at c5
        have HPX := Lib.hid (HP.out cv)
        clear HP
        cases hf : formB ⟨n1, 1, n3, cv⟩
        · have hfin : finO ⟨n1, 1, n3, cv⟩ = (zeroO, 1) := by unfold finO; rw [hf]; rfl
          rw [hfin] at HRS
          clear hfin HPC
          rw [hf] at HPX
          clear hf
          unfold errB at HPX
          go_wp2_with fail
          refine (HPX.out _).mono ?_
          rintro e w19 ⟨rfl, hb⟩
          replace HA := Lib.hid (HA.out.move hb)
          clear hb HPX c5
          go_wp2_with (first
            | (refine Line.Stop.at none (.store 26 (.tmp 2) (.tmp 86)) ?_))
          constructor
          refine Line.put_own rfl rfl 26 (.tmp 2) (.tmp 86) rfl g 0 rfl (ordV zeroO) rfl zs12 (cells12 zeroO) 26 (HA.out.keep _ (.tail _ (.head _))).1 (by simp [zs12, Value.cells]) inf26' (by simp [Value.cells, Value.oneCell']) (by simp [Value.cells, zs12]) ?_
          intro w20 h20 g20
          have HB20 := Lib.hid (HA.out.below.grown g20 HA.out.below.size (fun k e => by injection e with e; have := HGE.out; omega))
          have H20 := Lib.hid h20
          clear h20 g20
          go_wp2_with fail
          exact bodyPost_ret (results_ct rfl _ _ g 26 (cells12 zeroO) (0, 0) _ rfl H20.out Try.underlying26 rfl inf26') rfl ⟨by rw [HRS.out.symm]; rfl, HB20.out⟩
        · have hfin : finO ⟨n1, 1, n3, cv⟩ = (⟨n1, 1, n3, cv⟩, 0) := by unfold finO; rw [hf]; rfl
          rw [hfin] at HRS
          have hbe := HPC.out hf
          rw [hf, hbe] at HPX
          clear hfin HPC hf hbe
          unfold errB at HPX
          have k4 : (b.toList == b.toList) = true := beq_self_eq_true _
          go_wp2_with fail
          refine (HPX.out _).mono ?_
          rintro e w19 ⟨rfl, hb⟩
          replace HA := Lib.hid (HA.out.move hb)
          have c6 : ∀ k, w19.cell? ⟨k5, k, none⟩ = (cells12 ⟨n1, 1, n3, cv⟩)[k]? := fun k => blk_cell (HA.out.keep _ (.head _)).1 k
          simp only [cells12] at c6
          clear hb HPX c5
          go_wp2_with (first
            | (refine Line.Stop.at none (.store 26 (.tmp 2) (.tmp 87)) ?_))
          constructor
          refine Line.put_own rfl rfl 26 (.tmp 2) (.tmp 87) rfl g 0 rfl (ordV ⟨n1, 1, n3, cv⟩) rfl zs12 (cells12 ⟨n1, 1, n3, cv⟩) 26 (HA.out.keep _ (.tail _ (.head _))).1 (by simp [zs12, Value.cells]) inf26' (by simp [Value.cells, Value.oneCell']) (by simp [Value.cells, zs12]) ?_
          intro w20 h20 g20
          have HB20 := Lib.hid (HA.out.below.grown g20 HA.out.below.size (fun k e => by injection e with e; have := HGE.out; omega))
          have H20 := Lib.hid h20
          clear h20 g20
          go_wp2_with fail
          exact bodyPost_ret (results_ct rfl _ _ g 26 (cells12 ⟨n1, 1, n3, cv⟩) (0, 0) _ rfl H20.out Try.underlying26 rfl inf26') rfl ⟨by rw [HRS.out.symm]; rfl, HB20.out⟩
      · have k1 : (ce != 0) = true := bne_iff_ne.2 hce
        have k2 : (ce == 0) = false := beq_eq_false_iff_ne.2 hce
        have k3 : decide (ce = 0) = false := decide_eq_false hce
        replace HRS := Lib.hid ((if_neg hce).symm.trans HRS.out)
        clear HPC
        go_wp2_with (first
          | (refine Line.Stop.at none (.store 26 (.tmp 2) (.tmp 71)) ?_))
        constructor
        refine Line.put_own rfl rfl 26 (.tmp 2) (.tmp 71) rfl g 0 rfl (ordV zeroO) rfl zs12 (cells12 zeroO) 26 (HA.out.keep _ (.tail _ (.tail _ (.head _)))).1 (by simp [zs12, Value.cells]) inf26' (by simp [Value.cells, Value.oneCell']) (by simp [Value.cells, zs12]) ?_
        intro w20 h20 g20
        have HB20 := Lib.hid (HA.out.below.grown g20 HA.out.below.size (fun k e => by injection e with e; have := HGE.out; omega))
        have H20 := Lib.hid h20
        clear h20 g20
        go_wp2_with fail
        exact bodyPost_ret (results_ct rfl _ _ g 26 (cells12 zeroO) (0, 0) _ rfl H20.out Try.underlying26 rfl inf26') rfl ⟨by rw [HRS.out.symm]; rfl, HB20.out⟩
    · subst h
      go_wp2_with fail
      refine (HK.out _).mono ?_
      rintro e w8 ⟨rfl, hb⟩
      replace HA := Lib.hid (HA.out.move hb)
      clear hb HK
      go_wp2_with (first
        | (refine Line.Stop.at none (.store 24 (.tmp 12) (.tmp 67)) ?_))
      constructor
      have hA := HA.out.push zs9 24
      have hlt8 := blk_lt (HA.out.keep _ (.head _)).1
      have hlt9 := blk_lt (HA.out.keep _ (.tail _ (.head _))).1
      refine Line.put_own rfl rfl 24 (.tmp 12) (.tmp 67) rfl w8.heap.size 0 rfl (.agg (cells9 cv)) rfl zs9 (cells9 cv) 24 (heap_alloc_last _ _) (by simp [zs9, Value.cells]) inf24' (by simp [Value.cells, Value.oneCell']) (by simp [Value.cells, zs9]) ?_
      intro w9 h9 g9
      have hA9 := hA.put (bl' := [(k5, cells12 ⟨n1, 6, n3, nine0⟩, 26), (g, zs12, 26)]) (.head _) h9 g9 (fun x hx => by
        rcases List.mem_cons.1 hx with rfl | hx
        · exact ⟨.tail _ (.head _), by show k5 ≠ w8.heap.size; simp only at hlt8; omega⟩
        · rcases List.mem_cons.1 hx with rfl | hx
          · exact ⟨.tail _ (.tail _ (.head _)), by show g ≠ w8.heap.size; simp only at hlt9; omega⟩
          · cases hx)
      generalize w8.heap.size = k7 at *
      replace HA := Lib.hid hA9
      clear hA hA9 h9 g9 hlt8 hlt9
      by_cases hce : ce = 0
      · subst hce
        replace HRS := Lib.hid ((if_pos rfl).symm.trans HRS.out)
        replace HPC := Lib.hid (HPC.out rfl)
        have c7 : ∀ k, w9.cell? ⟨k7, k, none⟩ = (cells9 cv)[k]? := fun k => blk_cell (HA.out.keep _ (.head _)).1 k
        simp only [cells9] at c7
        go_wp2_with (first
          | (refine Line.Stop.at none (.store 24 (.tmp 73) (.tmp 72)) ?_))
        constructor
        refine Line.put_own rfl rfl 24 (.tmp 73) (.tmp 72) rfl k5 3 rfl (.agg (cells9 cv)) rfl (cells12 ⟨n1, 6, n3, nine0⟩) (cells12 ⟨n1, 6, n3, cv⟩) 26 (HA.out.keep _ (.tail _ (.head _))).1 (by simp [Value.cells]) inf24' (by simp [Value.cells, Value.oneCell']) (by simp [Value.cells]) ?_
        intro w10 h10 g10
        have hA10 := HA.out.put (bl' := [(g, zs12, 26)]) (.tail _ (.head _)) h10 g10 (fun x hx => by
          rcases List.mem_cons.1 hx with rfl | hx
          · exact ⟨.tail _ (.tail _ (.head _)), by show g ≠ k5; exact HGK.out⟩
          · cases hx)
        replace HA := Lib.hid hA10
        clear hA10 h10 g10 c7
        have c5 : ∀ k, w10.cell? ⟨k5, k, none⟩ = (cells12 ⟨n1, 6, n3, cv⟩)[k]? := fun k => blk_cell (HA.out.keep _ (.head _)).1 k
        simp only [cells12] at c5
        have HPX := Lib.hid (HP.out cv)
        clear HP
        cases hf : formB ⟨n1, 6, n3, cv⟩
        · have hfin : finO ⟨n1, 6, n3, cv⟩ = (zeroO, 1) := by unfold finO; rw [hf]; rfl
          rw [hfin] at HRS
          clear hfin HPC
          rw [hf] at HPX
          clear hf
          unfold errB at HPX
          go_wp2_with fail
          refine (HPX.out _).mono ?_
          rintro e w19 ⟨rfl, hb⟩
          replace HA := Lib.hid (HA.out.move hb)
          clear hb HPX c5
          go_wp2_with (first
            | (refine Line.Stop.at none (.store 26 (.tmp 2) (.tmp 86)) ?_))
          constructor
          refine Line.put_own rfl rfl 26 (.tmp 2) (.tmp 86) rfl g 0 rfl (ordV zeroO) rfl zs12 (cells12 zeroO) 26 (HA.out.keep _ (.tail _ (.head _))).1 (by simp [zs12, Value.cells]) inf26' (by simp [Value.cells, Value.oneCell']) (by simp [Value.cells, zs12]) ?_
          intro w20 h20 g20
          have HB20 := Lib.hid (HA.out.below.grown g20 HA.out.below.size (fun k e => by injection e with e; have := HGE.out; omega))
          have H20 := Lib.hid h20
          clear h20 g20
          go_wp2_with fail
          exact bodyPost_ret (results_ct rfl _ _ g 26 (cells12 zeroO) (0, 0) _ rfl H20.out Try.underlying26 rfl inf26') rfl ⟨by rw [HRS.out.symm]; rfl, HB20.out⟩
        · have hfin : finO ⟨n1, 6, n3, cv⟩ = (⟨n1, 6, n3, cv⟩, 0) := by unfold finO; rw [hf]; rfl
          rw [hfin] at HRS
          have hbe := HPC.out hf
          rw [hf, hbe] at HPX
          clear hfin HPC hf hbe
          unfold errB at HPX
          have k4 : (b.toList == b.toList) = true := beq_self_eq_true _
          go_wp2_with fail
          refine (HPX.out _).mono ?_
          rintro e w19 ⟨rfl, hb⟩
          replace HA := Lib.hid (HA.out.move hb)
          have c6 : ∀ k, w19.cell? ⟨k5, k, none⟩ = (cells12 ⟨n1, 6, n3, cv⟩)[k]? := fun k => blk_cell (HA.out.keep _ (.head _)).1 k
          simp only [cells12] at c6
          clear hb HPX c5
          go_wp2_with (first
            | (refine Line.Stop.at none (.store 26 (.tmp 2) (.tmp 87)) ?_))
          constructor
          refine Line.put_own rfl rfl 26 (.tmp 2) (.tmp 87) rfl g 0 rfl (ordV ⟨n1, 6, n3, cv⟩) rfl zs12 (cells12 ⟨n1, 6, n3, cv⟩) 26 (HA.out.keep _ (.tail _ (.head _))).1 (by simp [zs12, Value.cells]) inf26' (by simp [Value.cells, Value.oneCell']) (by simp [Value.cells, zs12]) ?_
          intro w20 h20 g20
          have HB20 := Lib.hid (HA.out.below.grown g20 HA.out.below.size (fun k e => by injection e with e; have := HGE.out; omega))
          have H20 := Lib.hid h20
          clear h20 g20
          go_wp2_with fail
          exact bodyPost_ret (results_ct rfl _ _ g 26 (cells12 ⟨n1, 6, n3, cv⟩) (0, 0) _ rfl H20.out Try.underlying26 rfl inf26') rfl ⟨by rw [HRS.out.symm]; rfl, HB20.out⟩
      · have k1 : (ce != 0) = true := bne_iff_ne.2 hce
        have k2 : (ce == 0) = false := beq_eq_false_iff_ne.2 hce
        have k3 : decide (ce = 0) = false := decide_eq_false hce
        replace HRS := Lib.hid ((if_neg hce).symm.trans HRS.out)
        clear HPC
        go_wp2_with (first
          | (refine Line.Stop.at none (.store 26 (.tmp 2) (.tmp 71)) ?_))
        constructor
        refine Line.put_own rfl rfl 26 (.tmp 2) (.tmp 71) rfl g 0 rfl (ordV zeroO) rfl zs12 (cells12 zeroO) 26 (HA.out.keep _ (.tail _ (.tail _ (.head _)))).1 (by simp [zs12, Value.cells]) inf26' (by simp [Value.cells, Value.oneCell']) (by simp [Value.cells, zs12]) ?_
        intro w20 h20 g20
        have HB20 := Lib.hid (HA.out.below.grown g20 HA.out.below.size (fun k e => by injection e with e; have := HGE.out; omega))
        have H20 := Lib.hid h20
        clear h20 g20
        go_wp2_with fail
        exact bodyPost_ret (results_ct rfl _ _ g 26 (cells12 zeroO) (0, 0) _ rfl H20.out Try.underlying26 rfl inf26') rfl ⟨by rw [HRS.out.symm]; rfl, HB20.out⟩
  · replace HRS := Lib.hid ((if_neg hop).symm.trans HRS.out)
    replace HPB := Lib.hid (HPB.out hop)
    have k1 : (n2 == 1) = false := beq_eq_false_iff_ne.2 (fun h => hop (.inl h))
    have k2 : (n2 == 6) = false := beq_eq_false_iff_ne.2 (fun h => hop (.inr h))
    clear hop HPC HK
    have c5 : ∀ k, w5.cell? ⟨k5, k, none⟩ = (cells12 ⟨n1, n2, n3, nine0⟩)[k]? := fun k => blk_cell (HA.out.keep _ (.head _)).1 k
    simp only [cells12] at c5
    have HPX := Lib.hid (HP.out nine0)
    simp only [nine0] at HPX
    clear HP
    cases hf : formB ⟨n1, n2, n3, nine0⟩
    · have hfin : finO ⟨n1, n2, n3, nine0⟩ = (zeroO, 1) := by unfold finO; rw [hf]; rfl
      have HRS2 : Hid ((zeroO, (1 : Int)) = rs) := Lib.hid (by rw [← HRS.out]; split; exact hfin.symm; rfl)
      clear hfin HPB HRS
      have HRS := HRS2
      clear HRS2
      rw [hf] at HPX
      clear hf
      unfold errB at HPX
      go_wp2_with fail
      refine (HPX.out _).mono ?_
      rintro e w19 ⟨rfl, hb⟩
      replace HA := Lib.hid (HA.out.move hb)
      clear hb HPX c5
      go_wp2_with (first
        | (refine Line.Stop.at none (.store 26 (.tmp 2) (.tmp 86)) ?_))
      constructor
      refine Line.put_own rfl rfl 26 (.tmp 2) (.tmp 86) rfl g 0 rfl (ordV zeroO) rfl zs12 (cells12 zeroO) 26 (HA.out.keep _ (.tail _ (.head _))).1 (by simp [zs12, Value.cells]) inf26' (by simp [Value.cells, Value.oneCell']) (by simp [Value.cells, zs12]) ?_
      intro w20 h20 g20
      have HB20 := Lib.hid (HA.out.below.grown g20 HA.out.below.size (fun k e => by injection e with e; have := HGE.out; omega))
      have H20 := Lib.hid h20
      clear h20 g20
      go_wp2_with fail
      exact bodyPost_ret (results_ct rfl _ _ g 26 (cells12 zeroO) (0, 0) _ rfl H20.out Try.underlying26 rfl inf26') rfl ⟨by rw [HRS.out.symm]; rfl, HB20.out⟩
    · have hfin : finO ⟨n1, n2, n3, nine0⟩ = (⟨n1, n2, n3, nine0⟩, 0) := by unfold finO; rw [hf]; rfl
      have hiff := HPB.out hf
      by_cases hre : rest.toList = ([] : List UInt8)
      · have hbe := hiff.2 hre
        replace HRS := Lib.hid ((if_pos hre).symm.trans HRS.out)
        rw [hfin] at HRS
        rw [hf, hbe] at HPX
        clear hfin HPB hf hbe hiff hre
        unfold errB at HPX
        have k4 : (b.toList == b.toList) = true := beq_self_eq_true _
        go_wp2_with fail
        refine (HPX.out _).mono ?_
        rintro e w19 ⟨rfl, hb⟩
        replace HA := Lib.hid (HA.out.move hb)
        have c6 : ∀ k, w19.cell? ⟨k5, k, none⟩ = (cells12 ⟨n1, n2, n3, nine0⟩)[k]? := fun k => blk_cell (HA.out.keep _ (.head _)).1 k
        simp only [cells12, nine0] at c6
        clear hb HPX c5
        go_wp2_with (first
          | (refine Line.Stop.at none (.store 26 (.tmp 2) (.tmp 87)) ?_))
        constructor
        refine Line.put_own rfl rfl 26 (.tmp 2) (.tmp 87) rfl g 0 rfl (ordV ⟨n1, n2, n3, nine0⟩) rfl zs12 (cells12 ⟨n1, n2, n3, nine0⟩) 26 (HA.out.keep _ (.tail _ (.head _))).1 (by simp [zs12, Value.cells]) inf26' (by simp [Value.cells, Value.oneCell']) (by simp [Value.cells, zs12]) ?_
        intro w20 h20 g20
        have HB20 := Lib.hid (HA.out.below.grown g20 HA.out.below.size (fun k e => by injection e with e; have := HGE.out; omega))
        have H20 := Lib.hid h20
        clear h20 g20
        go_wp2_with fail
        exact bodyPost_ret (results_ct rfl _ _ g 26 (cells12 ⟨n1, n2, n3, nine0⟩) (0, 0) _ rfl H20.out Try.underlying26 rfl inf26') rfl ⟨by rw [HRS.out.symm]; rfl, HB20.out⟩
      · have hne : ¬ putS ⟨n1, n2, n3, nine0⟩ = b := fun h => hre (hiff.1 h)
        replace HRS := Lib.hid ((if_neg hre).symm.trans HRS.out)
        obtain ⟨ps, hps⟩ : ∃ ps, putS ⟨n1, n2, n3, nine0⟩ = ps := ⟨_, rfl⟩
        rw [hps] at hne
        rw [hf, hps] at HPX
        have hne2 : ps.toList ≠ b.toList := fun h => hne (bytes_ext (by rw [← ByteArray.toList_eq, ← ByteArray.toList_eq]; exact h))
        have k4 : (ps.toList == b.toList) = false := beq_eq_false_iff_ne.2 hne2
        have k5' : (ps.toList != b.toList) = true := bne_iff_ne.2 hne2
        clear hfin HPB hf hiff hre hne hne2 hps
        unfold errB at HPX
        go_wp2_with fail
        refine (HPX.out _).mono ?_
        rintro e w19 ⟨rfl, hb⟩
        replace HA := Lib.hid (HA.out.move hb)
        clear hb HPX c5
        go_wp2_with (first
          | (refine Line.Stop.at none (.store 26 (.tmp 2) (.tmp 86)) ?_))
        constructor
        refine Line.put_own rfl rfl 26 (.tmp 2) (.tmp 86) rfl g 0 rfl (ordV zeroO) rfl zs12 (cells12 zeroO) 26 (HA.out.keep _ (.tail _ (.head _))).1 (by simp [zs12, Value.cells]) inf26' (by simp [Value.cells, Value.oneCell']) (by simp [Value.cells, zs12]) ?_
        intro w20 h20 g20
        have HB20 := Lib.hid (HA.out.below.grown g20 HA.out.below.size (fun k e => by injection e with e; have := HGE.out; omega))
        have H20 := Lib.hid h20
        clear h20 g20
        go_wp2_with fail
        exact bodyPost_ret (results_ct rfl _ _ g 26 (cells12 zeroO) (0, 0) _ rfl H20.out Try.underlying26 rfl inf26') rfl ⟨by rw [HRS.out.symm]; rfl, HB20.out⟩
end Go.Proofs.Ytdnhmlpjohojdaa.Rf
/-
  More of Tab: a size and an entry written, without a draw; an entry taken out.
-/
namespace Go.Proofs.Ytdnhmlpjohojdaa.Tab
open Go.RowKit Go.Maps Go.ChangeMaps
section
variable {κ α : Type} {ke : κ → Lit} {ve : α → Value} {P : Program} {K : TypeId} {w w1 w2 : World} {bs off b n n' : Nat} {M M' : List (κ × α)} {sz sz' : Int}
theorem Turn.ofDrew {S : Nat → Prop} (h : Turn w.drew w1 bs off S) : Turn w w1 bs off S := ⟨h.os, h.tape, h.output, h.size, h.block, h.cell, h.frozen, h.typ⟩
theorem TabAt.wrote (h : TabAt ke ve P K w bs off (some b) n M sz) (hg : (w.setCell ⟨bs, off + 1, none⟩ (.int .i64 sz')).grownBy w1 (some b)) (hm : MapAt ke ve P K w1 (some b) n' M') :
    TabAt ke ve P K w1 bs off (some b) n' M' sz' ∧ Turn w w1 bs off (fun k => k = b) := by
  refine ⟨(h.sized sz').stored hg hm, ?_⟩
  have T : Turn w (w.setCell ⟨bs, off + 1, none⟩ (.int .i64 sz')) bs off (fun k => k = b) := Turn.setCell w bs off _ (.inr rfl) _
  exact T.trans (Turn.grownBy (off := off) (S := fun k => k = b) (by have := h.lt; simpa [World.setCell] using this) hg (fun e => h.ne e.symm) (fun k _ e => by simpa using e)) (fun _ _ h => h)
theorem TabAt.started (h : TabAt ke ve P K w bs off none n M sz) (hg : (((w.setCell ⟨bs, off + 1, none⟩ (.int .i64 sz')).setCell ⟨bs, off, none⟩ (.map (some w.heap.size))).alloc (.map #[] 0)).grownBy w1 (some w.heap.size)) (hm : MapAt ke ve P K w1 (some w.heap.size) n' M') :
    TabAt ke ve P K w1 bs off (some w.heap.size) n' M' sz' ∧ Turn w w1 bs off (fun k => k = w.heap.size) := by
  have hlt := h.lt
  refine ⟨(h.made sz').stored hg hm, ?_⟩
  have T : Turn w (((w.setCell ⟨bs, off + 1, none⟩ (.int .i64 sz')).setCell ⟨bs, off, none⟩ (.map (some w.heap.size))).alloc (.map #[] 0)) bs off (fun k => k = w.heap.size) :=
    ((Turn.setCell w bs off _ (.inr rfl) _).trans (Turn.setCell _ bs off _ (.inl rfl) _) (fun _ _ h => h)).trans (Turn.alloc (S := fun k => k = w.heap.size) (by simpa [World.setCell] using hlt) _) (fun _ _ h => h)
  exact T.trans (Turn.grownBy (off := off) (S := fun k => k = w.heap.size) (by have := T.size; omega) hg (fun e => by injection e; omega) (fun k _ e => by simpa using e)) (fun _ _ h => h)
theorem TabAt.lost (h : TabAt ke ve P K w bs off none n M sz) (sz' : Int) : TabAt ke ve P K (w.setCell ⟨bs, off + 1, none⟩ (.int .i64 sz')) bs off none n M sz' ∧ Turn w (w.setCell ⟨bs, off + 1, none⟩ (.int .i64 sz')) bs off (fun _ => False) := by
  refine ⟨⟨?_, cell_setCell_same h.c1, by rw [World.frozen?_setCell]; exact h.f0, by rw [World.frozen?_setCell]; exact h.f1, h.map⟩, Turn.setCell w bs off _ (.inr rfl) _⟩
  exact (World.cell?_setCell_other _ _ _ _ (fun e => by injection e; omega)).trans h.c0
end
end Go.Proofs.Ytdnhmlpjohojdaa.Tab
/-
  admin.Book: who lives, by a map; its methods by their contracts.
-/
namespace Go.Proofs.Ytdnhmlpjohojdaa.Adm
open Go.RowKit Go.Maps Go.WideMaps Go.Proofs.Ytdnhmlpjohojdaa.Tab
attribute [local go_sem ↓] Go.wp_at_zero Go.wp_at_succ
/-- A tenant. -/
structure Ten where
  v : Fin 9 → Int
  rests : Bool
abbrev cells10 (t : Ten) : Array Value := #[.int .i64 (t.v 0), .int .i64 (t.v 1), .int .i64 (t.v 2), .int .i64 (t.v 3), .int .i64 (t.v 4), .int .i64 (t.v 5), .int .i64 (t.v 6), .int .i64 (t.v 7), .int .i64 (t.v 8), .bool t.rests]
abbrev tenV (t : Ten) : Value := .agg (cells10 t)
abbrev ki (x : Int) : Lit := .int .i64 x
def zeroC : Fin 9 → Int := fun _ => 0
def zeroT : Ten := ⟨zeroC, false⟩
theorem lawB : Keyed Try.prog 3 := int_keyed Try.underlying3
theorem zeroB (w : World) : (zeroValue 78).run Try.prog w = .ok (tenV zeroT) w := by kernel_rfl
abbrev Mp := List (Int × Ten)
structure BookAt (w : World) (bs : Nat) (mb : Option Nat) (n : Nat) (M : Mp) : Prop where
  box : w.heap[bs]? = some (.cells #[.map mb] 54 (0, 0))
  map : MapAt ki tenV Try.prog 3 w mb n M
theorem BookAt.c0 {w : World} {bs n : Nat} {mb : Option Nat} {M : Mp} (h : BookAt w bs mb n M) : w.cell? ⟨bs, 0, none⟩ = some (.map mb) := cell_of_cells h.box 0
theorem BookAt.f0 {w : World} {bs n : Nat} {mb : Option Nat} {M : Mp} (h : BookAt w bs mb n M) : w.frozen? ⟨bs, 0, none⟩ = false := by simp [World.frozen?, h.box]
theorem BookAt.lt {w : World} {bs n : Nat} {mb : Option Nat} {M : Mp} (h : BookAt w bs mb n M) : bs < w.heap.size := (Array.getElem?_eq_some_iff.1 h.box).1
theorem BookAt.below {w w' : World} {bs n : Nat} {mb : Option Nat} {M : Mp} (h : BookAt w bs mb n M) (hb : Below w.heap.size w w') : BookAt w' bs mb n M :=
  ⟨(hb.block _ h.lt).trans h.box, h.map.move (fun b e => by subst e; exact hb.block b h.map.lt)⟩
theorem BookAt.drew {w : World} {bs n : Nat} {mb : Option Nat} {M : Mp} (h : BookAt w bs mb n M) : BookAt w.drew bs mb n M := ⟨h.box, h.map.move (fun _ _ => rfl)⟩
def ten (M : Mp) (x : Int) : Ten := (tlook ki M x).getD zeroT
def lives (M : Mp) (x : Int) : Bool := (tlook ki M x).isSome
theorem ten_get (M : Mp) (x : Int) : ((tlook ki M x).map tenV).getD (tenV zeroT) = tenV (ten M x) := by
  unfold ten
  cases tlook ki M x <;> rfl
theorem New_ (w : World) : Calls Try.prog 14 #[] w fun e w' => e = .returned (.pointer (some ⟨w.heap.size, 0, none⟩)) ∧ w' = w.alloc (.cells #[.map none] 54) := by
  go_enter Try.func14, Try.ntmps14
  go_wp2
  go_ret
  exact ⟨rfl, rfl⟩
theorem info24 : (Try.prog.info? 24).map (·.size) = some 9 := by kernel_rfl
theorem below_row {B g : Nat} {w0 w : World} (hb : Below B w0 w) (hBg : B ≤ g) (cs : Array Value) : Below B w0 (w.setRow g cs) :=
  ⟨hb.os, hb.tape, hb.output, by simpa using hb.size, fun k hk => (setRow_other _ _ _ _ (by omega)).trans (hb.block k hk)⟩
theorem new_at (w : World) (n : Nat) : BookAt (w.alloc (.cells #[.map none] 54)) w.heap.size none n [] := ⟨heap_alloc_last _ _, rfl⟩
set_option maxRecDepth 100000 in
theorem find_nil (x : Int) (w : World) : Calls Try.prog 42 #[.pointer none, .int .i64 x] w fun e w' => e = .returned (.tuple #[tenV zeroT, .bool false]) ∧ Below w.heap.size w w' := by
  go_enter Try.func42, Try.ntmps42
  go_wp2
  exact bodyPost_ret (v := .tuple #[tenV zeroT, .bool false]) (by simp [results, Try.results42, go_sem, zeroT, zeroC]) rfl ⟨rfl, (Below.refl _ _).alloc (Nat.le_refl _) _⟩
set_option maxRecDepth 100000 in
set_option maxHeartbeats 1000000 in
theorem find_ {w : World} {bs n : Nat} {mb : Option Nat} {M : Mp} (h : BookAt w bs mb n M) (x : Int) (hx : (Lit.int .i64 x).wf = true) :
    Calls Try.prog 42 #[.pointer (some ⟨bs, 0, none⟩), .int .i64 x] w fun e w' => e = .returned (.tuple #[tenV (ten M x), .bool (lives M x)]) ∧ Below w.heap.size w w' := by
  have h1 := h.below ((Below.refl _ _).alloc (Nat.le_refl _) (.cells #[.int .i64 0, .int .i64 0, .int .i64 0, .int .i64 0, .int .i64 0, .int .i64 0, .int .i64 0, .int .i64 0, .int .i64 0, .bool false] 78))
  have c0 := h.c0
  have hl := h1.map.run_look true lawB Try.underlying52 (zeroB _) x (keyOf_int_mk Try.underlying3 hx)
  simp only [if_true, ten_get] at hl
  rw [show (tlook ki M x).isSome = lives M x from rfl] at hl
  generalize ten M x = t at *
  generalize lives M x = l at *
  obtain ⟨v, r⟩ := t
  have hlt := h.lt
  clear h h1 hx
  go_enter Try.func42, Try.ntmps42
  go_wp2_with fail
  exact bodyPost_ret (v := .tuple #[.agg #[.int .i64 (v 0), .int .i64 (v 1), .int .i64 (v 2), .int .i64 (v 3), .int .i64 (v 4), .int .i64 (v 5), .int .i64 (v 6), .int .i64 (v 7), .int .i64 (v 8), .bool r], .bool l]) (by simp [results, Try.results42, go_sem]) rfl ⟨rfl, ((Below.refl _ _).alloc (Nat.le_refl _) _).alloc (by simp) _⟩
set_option maxRecDepth 100000 in
theorem Lives_nil (x : Int) (w : World) : Calls Try.prog 21 #[.pointer none, .int .i64 x] w fun e w' => e = .returned (.bool false) ∧ Below w.heap.size w w' := by
  have HN := Lib.hid (find_nil x)
  go_enter Try.func21, Try.ntmps21
  go_wp2_with (first
    | (go_at_call 42; refine (HN.out _).mono ?_; simp only [tenV, cells10, zeroT, zeroC]; rintro e w1 ⟨rfl, hb⟩; have HB := Lib.hid hb; clear hb))
  go_ret
  exact ⟨rfl, HB.out.alloc (HB.out.size) _⟩
set_option maxRecDepth 100000 in
set_option maxHeartbeats 1000000 in
theorem Lives_ {w : World} {bs n : Nat} {mb : Option Nat} {M : Mp} (h : BookAt w bs mb n M) (x : Int) (hx : (Lit.int .i64 x).wf = true) :
    Calls Try.prog 21 #[.pointer (some ⟨bs, 0, none⟩), .int .i64 x] w fun e w' => e = .returned (.bool (lives M x)) ∧ Below w.heap.size w w' := by
  have HN := Lib.hid (find_ h x hx)
  generalize ten M x = t at *
  generalize lives M x = l at *
  obtain ⟨v, r⟩ := t
  clear h hx
  go_enter Try.func21, Try.ntmps21
  go_wp2_with (first
    | (go_at_call 42; refine HN.out.mono ?_; rintro e w1 ⟨rfl, hb⟩; have HB := Lib.hid hb; clear hb))
  go_ret
  exact ⟨rfl, HB.out.alloc (HB.out.size) _⟩
set_option maxRecDepth 100000 in
theorem Rests_nil (x : Int) (w : World) : Calls Try.prog 22 #[.pointer none, .int .i64 x] w fun e w' => e = .returned (.bool false) ∧ Below w.heap.size w w' := by
  have HN := Lib.hid (find_nil x)
  go_enter Try.func22, Try.ntmps22
  go_wp2_with (first
    | (go_at_call 42; refine (HN.out _).mono ?_; simp only [tenV, cells10, zeroT, zeroC]; rintro e w1 ⟨rfl, hb⟩; have HB := Lib.hid hb; clear hb))
  go_ret
  exact ⟨rfl, HB.out.alloc (HB.out.size) _⟩
set_option maxRecDepth 100000 in
set_option maxHeartbeats 1000000 in
theorem Rests_ {w : World} {bs n : Nat} {mb : Option Nat} {M : Mp} (h : BookAt w bs mb n M) (x : Int) (hx : (Lit.int .i64 x).wf = true) :
    Calls Try.prog 22 #[.pointer (some ⟨bs, 0, none⟩), .int .i64 x] w fun e w' => e = .returned (.bool (ten M x).rests) ∧ Below w.heap.size w w' := by
  have HN := Lib.hid (find_ h x hx)
  generalize ten M x = t at *
  generalize lives M x = l at *
  obtain ⟨v, r⟩ := t
  clear h hx
  go_enter Try.func22, Try.ntmps22
  go_wp2_with (first
    | (go_at_call 42; refine HN.out.mono ?_; rintro e w1 ⟨rfl, hb⟩; have HB := Lib.hid hb; clear hb))
  go_ret
  exact ⟨rfl, HB.out.alloc (HB.out.size) _⟩
set_option maxRecDepth 100000 in
theorem Conf_nil (x : Int) (w : World) : Calls Try.prog 23 #[.pointer none, .int .i64 x] w fun e w' => e = .returned (.agg (cells9 zeroC)) ∧ Below w.heap.size w w' := by
  have HN := Lib.hid (find_nil x)
  go_enter Try.func23, Try.ntmps23
  go_wp2_with (first
    | (go_at_call 42; refine (HN.out _).mono ?_; simp only [tenV, cells10, zeroT, zeroC]; rintro e w1 ⟨rfl, hb⟩; have HB := Lib.hid hb; clear hb)
    | (refine Line.Stop.at none (.store 24 (.tmp 4) (.tmp 14)) ?_))
  constructor
  have hg : (w1.alloc (.cells #[.int .i64 0, .int .i64 0, .int .i64 0, .int .i64 0, .int .i64 0, .int .i64 0, .int .i64 0, .int .i64 0, .int .i64 0, .bool false] 78)).heap[w.heap.size]? = some (.cells #[.int .i64 0, .int .i64 0, .int .i64 0, .int .i64 0, .int .i64 0, .int .i64 0, .int .i64 0, .int .i64 0, .int .i64 0] 24 (0, 0)) := (Below.heap_alloc _ _ _ (Nat.lt_of_lt_of_le (by simp) HB.out.size)).trans ((HB.out.block _ (by simp)).trans (heap_alloc_last _ _))
  have HG := Lib.hid hg
  refine wpList_store_row rfl 24 (.tmp 4) (.tmp 14) rfl w.heap.size #[.int .i64 0, .int .i64 0, .int .i64 0, .int .i64 0, .int .i64 0, .int .i64 0, .int .i64 0, .int .i64 0, .int .i64 0] rfl rfl 24 #[.int .i64 0, .int .i64 0, .int .i64 0, .int .i64 0, .int .i64 0, .int .i64 0, .int .i64 0, .int .i64 0, .int .i64 0] hg info24 rfl (by kernel_rfl) ?_
  clear hg
  go_wp2_with fail
  refine bodyPost_ret (results_cell_row rfl _ _ w.heap.size 24 #[.int .i64 0, .int .i64 0, .int .i64 0, .int .i64 0, .int .i64 0, .int .i64 0, .int .i64 0, .int .i64 0, .int .i64 0] (0, 0) _ rfl (setRow_heap _ _ _ _ _ _ HG.out) Try.underlying24 rfl (by kernel_rfl)) rfl ?_
  exact ⟨rfl, below_row (((Below.refl _ _).alloc (Nat.le_refl _) _).trans (HB.out.mono (by simp)) |>.alloc (Nat.le_trans (by simp) HB.out.size) _) (Nat.le_refl _) _⟩
set_option maxRecDepth 100000 in
set_option maxHeartbeats 1000000 in
theorem Conf_ {w : World} {bs n : Nat} {mb : Option Nat} {M : Mp} (h : BookAt w bs mb n M) (x : Int) (hx : (Lit.int .i64 x).wf = true) :
    Calls Try.prog 23 #[.pointer (some ⟨bs, 0, none⟩), .int .i64 x] w fun e w' => e = .returned (.agg (cells9 (ten M x).v)) ∧ Below w.heap.size w w' := by
  have HN := Lib.hid (find_ (h.below ((Below.refl _ _).alloc (Nat.le_refl _) (.cells #[.int .i64 0, .int .i64 0, .int .i64 0, .int .i64 0, .int .i64 0, .int .i64 0, .int .i64 0, .int .i64 0, .int .i64 0] 24))) x hx)
  generalize ten M x = t at *
  generalize lives M x = l at *
  obtain ⟨v, r⟩ := t
  clear h hx
  go_enter Try.func23, Try.ntmps23
  go_wp2_with (first
    | (go_at_call 42; refine HN.out.mono ?_; rintro e w1 ⟨rfl, hb⟩; have HB := Lib.hid hb; clear hb)
    | (refine Line.Stop.at none (.store 24 (.tmp 4) (.tmp 14)) ?_))
  constructor
  have hg : (w1.alloc (.cells #[.int .i64 (v 0), .int .i64 (v 1), .int .i64 (v 2), .int .i64 (v 3), .int .i64 (v 4), .int .i64 (v 5), .int .i64 (v 6), .int .i64 (v 7), .int .i64 (v 8), .bool r] 78)).heap[w.heap.size]? = some (.cells #[.int .i64 0, .int .i64 0, .int .i64 0, .int .i64 0, .int .i64 0, .int .i64 0, .int .i64 0, .int .i64 0, .int .i64 0] 24 (0, 0)) := (Below.heap_alloc _ _ _ (Nat.lt_of_lt_of_le (by simp) HB.out.size)).trans ((HB.out.block _ (by simp)).trans (heap_alloc_last _ _))
  have HG := Lib.hid hg
  refine wpList_store_row rfl 24 (.tmp 4) (.tmp 14) rfl w.heap.size #[.int .i64 (v 0), .int .i64 (v 1), .int .i64 (v 2), .int .i64 (v 3), .int .i64 (v 4), .int .i64 (v 5), .int .i64 (v 6), .int .i64 (v 7), .int .i64 (v 8)] rfl rfl 24 #[.int .i64 0, .int .i64 0, .int .i64 0, .int .i64 0, .int .i64 0, .int .i64 0, .int .i64 0, .int .i64 0, .int .i64 0] hg info24 rfl (by kernel_rfl) ?_
  clear hg
  go_wp2_with fail
  refine bodyPost_ret (results_cell_row rfl _ _ w.heap.size 24 #[.int .i64 (v 0), .int .i64 (v 1), .int .i64 (v 2), .int .i64 (v 3), .int .i64 (v 4), .int .i64 (v 5), .int .i64 (v 6), .int .i64 (v 7), .int .i64 (v 8)] (0, 0) _ rfl (setRow_heap _ _ _ _ _ _ HG.out) Try.underlying24 rfl (by kernel_rfl)) rfl ?_
  exact ⟨rfl, below_row (((Below.refl _ _).alloc (Nat.le_refl _) _).trans (HB.out.mono (by simp)) |>.alloc (Nat.le_trans (by simp) HB.out.size) _) (Nat.le_refl _) _⟩
end Go.Proofs.Ytdnhmlpjohojdaa.Adm
/-
  admin.Book's Check, and All of a book that is not there: by their contracts.
-/
namespace Go.Proofs.Ytdnhmlpjohojdaa.Adm.Bk
open Go.RowKit Go.Maps Go.WideMaps Go.Proofs.Ytdnhmlpjohojdaa.Tab Go.Proofs.Ytdnhmlpjohojdaa.Adm
theorem All_nil (w : World) : Calls Try.prog 24 #[.pointer none] w fun e w' => e = .returned (.slice none 0 0) ∧ w = w' := by
  go_enter Try.func24, Try.ntmps24
  go_wp2
  go_ret
  exact ⟨rfl, rfl⟩
/-- Why an order can't be done: of whether it is formed rightly, whether its owner lives, and rests, and of the operation. -/
def whyB (f l r : Bool) (op : Int) : Int :=
  if f = false then 1 else if op = 1 then (if l then 7 else 0) else if l = false then 12 else if op = 2 then (if r then 17 else 0) else if op = 3 then (if r then 0 else 17) else 0
def why (M : Mp) (o : Order) : Int := whyB (formB o) (lives M o.owner) (ten M o.owner).rests o.op
theorem cellsOf_alloc (w : World) (C : Array Value) (t : TypeId) (i : Nat) : (w.alloc (.cells C t)).cell? ⟨w.heap.size, i, none⟩ = C[i]? := World.cell?_alloc_at _ _ _ _ rfl
theorem formB_range {o : Order} (h : formB o = true) : inRange o := (of_decide_eq_true h).1
set_option maxRecDepth 100000 in
set_option maxHeartbeats 1000000 in
theorem Check_nil (o : Order) (w : World) : Calls Try.prog 17 #[.pointer none, ordV o] w fun e w' => e = .returned (.int .i64 17) ∧ Below w.heap.size w w' := by
  have hB : Below w.heap.size w (w.alloc (.cells (cells12 o) 30)) := (Below.refl _ _).alloc (Nat.le_refl _) _
  have HB := Lib.hid hB
  have HN := Lib.hid (find_nil o.owner)
  clear hB
  obtain ⟨id, op, owner, v⟩ := o
  simp only at HN
  go_enter Try.func17, Try.ntmps17
  go_wp2_with (first
    | (go_at_call 42; refine (HN.out _).mono ?_; simp only [tenV, cells10, zeroT, zeroC]; rintro e w1 ⟨rfl, hb⟩; have HB1 := Lib.hid (HB.out.trans (hb.mono (by simp))); clear hb))
  go_ret
  exact ⟨rfl, HB1.out.alloc HB1.out.size _⟩
set_option maxRecDepth 100000 in
set_option maxHeartbeats 4000000 in
theorem Check_k {w : World} {bs n : Nat} {mb : Option Nat} {M : Mp} (h : BookAt w bs mb n M) (o : Order) (hx : (Lit.int .i64 o.owner).wf = true) :
    Calls Try.prog 17 #[.pointer (some ⟨bs, 0, none⟩), ordV o] w fun e w' => e = .returned (.int .i64 (why M o)) ∧ Below w.heap.size w w' := by
  have hB : Below w.heap.size w (w.alloc (.cells (cells12 o) 30)) := (Below.refl _ _).alloc (Nat.le_refl _) _
  have HB := Lib.hid hB
  have HN := Lib.hid (find_ (h.below hB) o.owner hx)
  have HF := Lib.hid (form_ o)
  have HR := Lib.hid (fun h' => formB_range (o := o) h')
  unfold why
  clear hB
  generalize formB o = f at *
  generalize ten M o.owner = t at *
  generalize lives M o.owner = l at *
  have hl := h.lt
  obtain ⟨tv, r⟩ := t
  clear h hx
  obtain ⟨id, op, owner, v⟩ := o
  simp only at HN HF ⊢
  cases f
  · go_enter Try.func17, Try.ntmps17
    go_wp2_with (first
      | (go_at_call 42; refine HN.out.mono ?_; rintro e w1 ⟨rfl, hb⟩; have HB1 := Lib.hid (HB.out.trans (hb.mono (by simp))); have hq := fun i => (hb.cell (p := ⟨w.heap.size, i, none⟩) (by simp)).trans (cellsOf_alloc w _ _ i); have hz : w.heap.size < w1.heap.size := Nat.lt_of_lt_of_le (by simp) hb.size; clear hb)
      | (go_at_call 25; refine (HF.out _).mono ?_; unfold errB; rintro e w2 ⟨rfl, hb⟩; have HB2 := Lib.hid ((HB1.out.alloc HB1.out.size _).trans (hb.mono (by simp; omega))); have hq2 := fun i => (hb.cell (p := ⟨w.heap.size, i, none⟩) (by simp; omega)).trans ((World.cell?_alloc_past _ _ i hz).trans (hq i)); have ht2 := fun i => (hb.cell (p := ⟨w1.heap.size, i, none⟩) (by simp)).trans (cellsOf_alloc w1 _ _ i); clear hb))
    go_ret
    exact ⟨rfl, HB2.out⟩
  · have hop := HR.out rfl
    have h1 := hop.1
    have h2 := hop.2.1
    simp only at h1 h2
    have h3 : op = 1 ∨ op = 2 ∨ op = 3 ∨ op = 4 ∨ op = 5 ∨ op = 6 := by omega
    clear HR hop h1 h2
    rcases h3 with rfl | rfl | rfl | rfl | rfl | rfl
    all_goals
      cases l <;> cases r
      all_goals
        go_enter Try.func17, Try.ntmps17
        go_wp2_with (first
          | (go_at_call 42; refine HN.out.mono ?_; rintro e w1 ⟨rfl, hb⟩; have HB1 := Lib.hid (HB.out.trans (hb.mono (by simp))); have hq := fun i => (hb.cell (p := ⟨w.heap.size, i, none⟩) (by simp)).trans (cellsOf_alloc w _ _ i); have hz : w.heap.size < w1.heap.size := Nat.lt_of_lt_of_le (by simp) hb.size; clear hb)
          | (go_at_call 25; refine (HF.out _).mono ?_; unfold errB; rintro e w2 ⟨rfl, hb⟩; have HB2 := Lib.hid ((HB1.out.alloc HB1.out.size _).trans (hb.mono (by simp; omega))); have hq2 := fun i => (hb.cell (p := ⟨w.heap.size, i, none⟩) (by simp; omega)).trans ((World.cell?_alloc_past _ _ i hz).trans (hq i)); have ht2 := fun i => (hb.cell (p := ⟨w1.heap.size, i, none⟩) (by simp)).trans (cellsOf_alloc w1 _ _ i); clear hb))
        go_ret
        exact ⟨rfl, HB2.out⟩
end Go.Proofs.Ytdnhmlpjohojdaa.Adm.Bk
/-
  admin.Book's Do: by its contracts.
-/
namespace Go.Proofs.Ytdnhmlpjohojdaa.Adm.Bk
open Go.RowKit Go.Maps Go.WideMaps Go.Proofs.Ytdnhmlpjohojdaa.Tab Go.Proofs.Ytdnhmlpjohojdaa.Adm
attribute [local go_sem ↓] Go.wp_at_zero Go.wp_at_succ
/-- What stands under the owner behind an order that was done (but for a deletion). -/
def newT (t : Ten) (o : Order) : Ten :=
  ⟨if o.op = 1 ∨ o.op = 6 then o.v else t.v, if o.op = 1 then false else if o.op = 2 then true else if o.op = 3 then false else t.rests⟩
def doM (M : Mp) (o : Order) : Mp := if o.op = 4 then tdel ki M o.owner else tput ki M o.owner (newT (ten M o.owner) o)
set_option maxRecDepth 100000 in
set_option maxHeartbeats 1000000 in
theorem Do_nil (o : Order) (w : World) : Calls Try.prog 20 #[.pointer none, ordV o] w fun e w' => e = .returned (.int .i64 17) ∧ Below w.heap.size w w' := by
  have hB : Below w.heap.size w (w.alloc (.cells (cells12 o) 30)) := (Below.refl _ _).alloc (Nat.le_refl _) _
  have HB := Lib.hid hB
  have HN := Lib.hid (Check_nil o)
  clear hB
  obtain ⟨id, op, owner, v⟩ := o
  go_enter Try.func20, Try.ntmps20
  go_wp2_with (first
    | (go_at_call 17; refine (HN.out _).mono ?_; rintro e w1 ⟨rfl, hb⟩; have HB1 := Lib.hid (HB.out.trans (hb.mono (by simp))); clear hb))
  go_ret
  exact ⟨rfl, HB1.out⟩
set_option maxRecDepth 100000 in
set_option maxHeartbeats 1000000 in
theorem Do_bad {w : World} {bs n : Nat} {mb : Option Nat} {M : Mp} (h : BookAt w bs mb n M) (o : Order) (hx : (Lit.int .i64 o.owner).wf = true) (hw : why M o ≠ 0) :
    Calls Try.prog 20 #[.pointer (some ⟨bs, 0, none⟩), ordV o] w fun e w' => e = .returned (.int .i64 (why M o)) ∧ Below w.heap.size w w' := by
  have hB : Below w.heap.size w (w.alloc (.cells (cells12 o) 30)) := (Below.refl _ _).alloc (Nat.le_refl _) _
  have HB := Lib.hid hB
  have HN := Lib.hid (Check_k (h.below hB) o hx)
  have hne : (why M o == 0) = false := beq_eq_false_iff_ne.2 hw
  have hne2 : (why M o != 0) = true := by rw [bne_iff_ne]; exact hw
  generalize why M o = y at *
  clear hB h hx hw
  obtain ⟨id, op, owner, v⟩ := o
  go_enter Try.func20, Try.ntmps20
  go_wp2_with (first
    | (go_at_call 17; refine HN.out.mono ?_; rintro e w1 ⟨rfl, hb⟩; have HB1 := Lib.hid (HB.out.trans (hb.mono (by simp))); clear hb))
  go_ret
  exact ⟨rfl, HB1.out⟩
theorem done_put {w w2 : World} {C : Array Value} {t : TypeId} {bs b n n' : Nat} {M M1 M' : Mp} (h : BookAt w bs (some b) n M) (hm : MapAt ki tenV Try.prog 3 w2 (some b) n' M1) (hg : (w.alloc (.cells C t)).drew.drew.grownBy w2 (some b)) (e : M' = M1) : BookAt w2 bs (some b) n' M' := by
  subst e
  have hb : b ≠ bs := by
    rintro rfl
    obtain ⟨es, clock, hb⟩ := h.map.isMap
    rw [h.box] at hb
    cases hb
  have h1 := (Below.heap_alloc w (.cells C t) bs h.lt).trans h.box
  exact ⟨(hg.block bs (Nat.lt_of_lt_of_le h.lt (by rw [show (w.alloc (.cells C t)).drew.drew.heap.size = (w.alloc (.cells C t)).heap.size from rfl, World.size_alloc]; omega)) (fun e => hb (by injection e with e; exact e.symm))).trans h1, hm⟩
theorem below_grown {w w1 w2 : World} {C : Array Value} {t : TypeId} {b : Nat} (hb : Below w.heap.size w w1) (hg : (w1.alloc (.cells C t)).drew.drew.grownBy w2 (some b)) : w.grownBy w2 (some b) := by
  have h1 := hb.trans (((Below.refl _ _).alloc hb.size (.cells C t)).drew.drew)
  exact ⟨hg.os.trans h1.os, hg.tape.trans h1.tape, hg.output.trans h1.output, Nat.le_trans h1.size hg.size, fun k hk hne => (hg.block k (Nat.lt_of_lt_of_le hk h1.size) hne).trans (h1.block k hk)⟩
set_option maxRecDepth 100000 in
set_option maxHeartbeats 4000000 in
theorem Do_some {w : World} {bs n b : Nat} {M : Mp} (h : BookAt w bs (some b) n M) (o : Order) (hx : (Lit.int .i64 o.owner).wf = true) (hw : why M o = 0) (hn : n < maxLen) (hr : inRange o) :
    Calls Try.prog 20 #[.pointer (some ⟨bs, 0, none⟩), ordV o] w fun e w' => e = .returned (.int .i64 0) ∧ BookAt w' bs (some b) (n + 1) (doM M o) ∧ w.grownBy w' (some b) := by
  have hB : Below w.heap.size w (w.alloc (.cells (cells12 o) 30)) := (Below.refl _ _).alloc (Nat.le_refl _) _
  have HB := Lib.hid hB
  have HN := Lib.hid (Check_k (h.below hB) o hx)
  rw [hw] at HN
  have hkey := keyOf_int_mk Try.underlying3 hx
  have H := Lib.hid h
  have hbs := h.lt
  have hm := fun (W : World) (r : Option Nat) => run_eql_map_nil (P := Try.prog) W 52 3 78 r Try.underlying52
  have hl0 := fun (W : World) (hW : BookAt W bs (some b) n M) => hW.map.run_look false lawB Try.underlying52 (zeroB _) o.owner hkey
  simp only [Bool.false_eq_true, if_false, ten_get] at hl0
  have HL := Lib.hid hl0
  have HD := Lib.hid (show ∀ a, doM M o = a ↔ (if o.op = 4 then tdel ki M o.owner else tput ki M o.owner (newT (ten M o.owner) o)) = a from fun _ => Iff.rfl)
  generalize doM M o = M' at *
  generalize ten M o.owner = t at *
  obtain ⟨tv, r⟩ := t
  obtain ⟨h1, h2, _, _⟩ := hr
  have h3 : o.op = 1 ∨ o.op = 2 ∨ o.op = 3 ∨ o.op = 4 ∨ o.op = 5 ∨ o.op = 6 := by omega
  clear hB h hx hw hl0 h1 h2
  obtain ⟨id, op, owner, v⟩ := o
  simp only at HN HL HD h3 hkey ⊢
  have HKey := Lib.hid hkey
  clear hkey
  go_enter Try.func20, Try.ntmps20
  go_wp2_with (first
    | (go_at_call 17; refine HN.out.mono ?_; rintro e w1 ⟨rfl, hb⟩; have HB1 := Lib.hid (HB.out.trans (hb.mono (by simp))); have hq := fun i => (hb.cell (p := ⟨w.heap.size, i, none⟩) (by simp)).trans (cellsOf_alloc w _ _ i); have hz : w.heap.size < w1.heap.size := Nat.lt_of_lt_of_le (by simp) hb.size; have c0 : w1.cell? ⟨bs, 0, none⟩ = some (.map (some b)) := (H.out.below HB1.out).c0; clear hb))
  have q2 : w1.cell? ⟨w.heap.size, 2, none⟩ = some (.int .i64 owner) := hq 2
  have hl1 := HL.out w1.drew (H.out.below HB1.out).drew
  have hl2 := HL.out ((w1.alloc (.cells #[.int .i64 0, .int .i64 0, .int .i64 0, .int .i64 0, .int .i64 0, .int .i64 0, .int .i64 0, .int .i64 0, .int .i64 0, .bool false] 78)).drew) (((H.out.below HB1.out).below ((Below.refl _ _).alloc (Nat.le_refl _) _)).drew)
  have hz2 : w1.heap.size ≠ w.heap.size := by omega
  have hz3 : w1.heap.size ≠ bs := by omega
  go_region_held3 (fun w' => w'.cell? ⟨bs, 0, none⟩ = some (.map (some b)) ∧ w'.cell? ⟨w.heap.size, 2, none⟩ = some (.int .i64 owner)) (first | exact ⟨c0, q2⟩ | go_keep) (fail)
  all_goals clear hl1 hl2 hz2 hm
  all_goals have hbs1 : bs < w1.heap.size := by omega
  all_goals
    rcases h3 with rfl | rfl | rfl | rfl | rfl | rfl
    · go_wp2_with fail
      refine Line.still_tail 7 (by kernel_rfl) (by kernel_rfl) ?_
      simp only [List.take_succ_cons, List.take_zero, List.drop_succ_cons, List.drop_zero]
      iterate 7 still_step
      refine wpStill_nil ?_
      go_wp2_with (first
        | (at_mapUpdate; refine wpList_store (ke := ki) (ve := tenV) (M := M) (n := n) rfl _ _ _ 52 rfl 78 lawB Try.underlying52 b rfl ?m2 hn (.int .i64 owner) rfl owner HKey.out (newT ⟨tv, r⟩ ⟨id, 1, owner, v⟩) rfl ?_; (case m2 => exact (((H.out.below HB1.out).below ((Below.refl _ _).alloc (Nat.le_refl _) _)).drew.drew).map); intro w2 hM hG; have HM := Lib.hid hM; have HG := Lib.hid hG; clear hM hG))
      go_ret
      exact ⟨rfl, done_put (H.out.below HB1.out) HM.out HG.out ((HD.out _).2 (if_neg (by decide))), below_grown HB1.out HG.out⟩
    · go_wp2_with fail
      refine Line.still_tail 7 (by kernel_rfl) (by kernel_rfl) ?_
      simp only [List.take_succ_cons, List.take_zero, List.drop_succ_cons, List.drop_zero]
      iterate 7 still_step
      refine wpStill_nil ?_
      go_wp2_with (first
        | (at_mapUpdate; refine wpList_store (ke := ki) (ve := tenV) (M := M) (n := n) rfl _ _ _ 52 rfl 78 lawB Try.underlying52 b rfl ?m2 hn (.int .i64 owner) rfl owner HKey.out (newT ⟨tv, r⟩ ⟨id, 2, owner, v⟩) rfl ?_; (case m2 => exact (((H.out.below HB1.out).below ((Below.refl _ _).alloc (Nat.le_refl _) _)).drew.drew).map); intro w2 hM hG; have HM := Lib.hid hM; have HG := Lib.hid hG; clear hM hG))
      go_ret
      exact ⟨rfl, done_put (H.out.below HB1.out) HM.out HG.out ((HD.out _).2 (if_neg (by decide))), below_grown HB1.out HG.out⟩
    · go_wp2_with fail
      refine Line.still_tail 7 (by kernel_rfl) (by kernel_rfl) ?_
      simp only [List.take_succ_cons, List.take_zero, List.drop_succ_cons, List.drop_zero]
      iterate 7 still_step
      refine wpStill_nil ?_
      go_wp2_with (first
        | (at_mapUpdate; refine wpList_store (ke := ki) (ve := tenV) (M := M) (n := n) rfl _ _ _ 52 rfl 78 lawB Try.underlying52 b rfl ?m2 hn (.int .i64 owner) rfl owner HKey.out (newT ⟨tv, r⟩ ⟨id, 3, owner, v⟩) rfl ?_; (case m2 => exact (((H.out.below HB1.out).below ((Below.refl _ _).alloc (Nat.le_refl _) _)).drew.drew).map); intro w2 hM hG; have HM := Lib.hid hM; have HG := Lib.hid hG; clear hM hG))
      go_ret
      exact ⟨rfl, done_put (H.out.below HB1.out) HM.out HG.out ((HD.out _).2 (if_neg (by decide))), below_grown HB1.out HG.out⟩
    · go_wp2_with fail
      refine Line.still_tail 6 (by kernel_rfl) (by kernel_rfl) ?_
      simp only [List.take_succ_cons, List.take_zero, List.drop_succ_cons, List.drop_zero]
      iterate 6 still_step
      refine wpStill_nil ?_
      go_wp2_with (first
        | (at_delete; refine wpList_drop (ke := ki) (ve := tenV) (M := M) (n := n) rfl _ _ 52 rfl 78 lawB Try.underlying52 b rfl ?m2 (.int .i64 owner) rfl owner HKey.out ?_; (case m2 => exact (((H.out.below HB1.out).below ((Below.refl _ _).alloc (Nat.le_refl _) _)).drew.drew).map); intro w2 hM hG; have HM := Lib.hid (MapAt.mono hM (Nat.le_succ _)); have HG := Lib.hid hG; clear hM hG))
      go_ret
      exact ⟨rfl, done_put (H.out.below HB1.out) HM.out HG.out ((HD.out _).2 (by simp)), below_grown HB1.out HG.out⟩
    · go_wp2_with fail
      refine Line.still_tail 7 (by kernel_rfl) (by kernel_rfl) ?_
      simp only [List.take_succ_cons, List.take_zero, List.drop_succ_cons, List.drop_zero]
      iterate 7 still_step
      refine wpStill_nil ?_
      go_wp2_with (first
        | (at_mapUpdate; refine wpList_store (ke := ki) (ve := tenV) (M := M) (n := n) rfl _ _ _ 52 rfl 78 lawB Try.underlying52 b rfl ?m2 hn (.int .i64 owner) rfl owner HKey.out (newT ⟨tv, r⟩ ⟨id, 5, owner, v⟩) rfl ?_; (case m2 => exact (((H.out.below HB1.out).below ((Below.refl _ _).alloc (Nat.le_refl _) _)).drew.drew).map); intro w2 hM hG; have HM := Lib.hid hM; have HG := Lib.hid hG; clear hM hG))
      go_ret
      exact ⟨rfl, done_put (H.out.below HB1.out) HM.out HG.out ((HD.out _).2 (if_neg (by decide))), below_grown HB1.out HG.out⟩
    · go_wp2_with fail
      refine Line.still_tail 7 (by kernel_rfl) (by kernel_rfl) ?_
      simp only [List.take_succ_cons, List.take_zero, List.drop_succ_cons, List.drop_zero]
      iterate 7 still_step
      refine wpStill_nil ?_
      go_wp2_with (first
        | (at_mapUpdate; refine wpList_store (ke := ki) (ve := tenV) (M := M) (n := n) rfl _ _ _ 52 rfl 78 lawB Try.underlying52 b rfl ?m2 hn (.int .i64 owner) rfl owner HKey.out (newT ⟨tv, r⟩ ⟨id, 6, owner, v⟩) rfl ?_; (case m2 => exact (((H.out.below HB1.out).below ((Below.refl _ _).alloc (Nat.le_refl _) _)).drew.drew).map); intro w2 hM hG; have HM := Lib.hid hM; have HG := Lib.hid hG; clear hM hG))
      go_ret
      exact ⟨rfl, done_put (H.out.below HB1.out) HM.out HG.out ((HD.out _).2 (if_neg (by decide))), below_grown HB1.out HG.out⟩
end Go.Proofs.Ytdnhmlpjohojdaa.Adm.Bk
/-
  admin.Book's Do where nobody has lived yet, and Do in all cases: by its contract.
-/
namespace Go.Proofs.Ytdnhmlpjohojdaa.Adm.Bk
open Go.RowKit Go.Maps Go.WideMaps Go.Proofs.Ytdnhmlpjohojdaa.Tab Go.Proofs.Ytdnhmlpjohojdaa.Adm
attribute [local go_sem ↓] Go.wp_at_zero Go.wp_at_succ
theorem made_at {w : World} {bs n : Nat} {M : Mp} (h : BookAt w bs none n M) : BookAt ((w.setCell ⟨bs, 0, none⟩ (.map (some w.heap.size))).alloc (.map #[] 0)) bs (some w.heap.size) 0 M := by
  have hM : M = [] := h.map
  subst hM
  have hz : (w.setCell ⟨bs, 0, none⟩ (.map (some w.heap.size))).heap.size = w.heap.size := by simp [World.setCell]
  have hb : Boxed w bs 54 (.map none) := h.box
  have hmap := World.ownsMap_made (H := Value) (w.setCell ⟨bs, 0, none⟩ (.map (some w.heap.size))) Try.prog 3 heldR
  rw [hz] at hmap
  exact ⟨(Below.heap_alloc _ _ _ (by rw [hz]; exact h.lt)).trans (hb.set _), hmap⟩
theorem made_grown {w w1 w2 : World} {C : Array Value} {t : TypeId} {bs b : Nat} {v : Value} (hb : Below w.heap.size w w1) (hbs : bs < w.heap.size) (hw : w.heap.size ≤ b) (hg : (((w1.setCell ⟨bs, 0, none⟩ v).alloc (.map #[] 0)).alloc (.cells C t)).drew.drew.grownBy w2 (some b)) : w.grownBy w2 (some bs) := by
  have hz : (w1.setCell ⟨bs, 0, none⟩ v).heap.size = w1.heap.size := by simp [World.setCell]
  have hz2 : (((w1.setCell ⟨bs, 0, none⟩ v).alloc (.map #[] 0)).alloc (.cells C t)).drew.drew.heap.size = w1.heap.size + 2 := by
    show (((w1.setCell ⟨bs, 0, none⟩ v).alloc (.map #[] 0)).alloc (.cells C t)).heap.size = _
    rw [World.size_alloc, World.size_alloc, hz]
  have h1 := hb.size
  have hg1 := hg.size
  rw [hz2] at hg1
  refine ⟨hg.os.trans hb.os, hg.tape.trans hb.tape, hg.output.trans hb.output, by omega, fun k hk hne => ?_⟩
  have hk1 : k ≠ bs := fun e => hne (by rw [e])
  have hk2 : k ≠ b := by omega
  refine (hg.block k (by rw [hz2]; omega) (fun e => hk2 (by injection e))).trans ?_
  refine (Below.heap_alloc _ _ k (by rw [World.size_alloc, hz]; omega)).trans ?_
  refine (Below.heap_alloc _ _ k (by rw [hz]; omega)).trans ?_
  exact (Below.heap_setCell _ _ _ _ hk1).trans (hb.block k hk)
theorem done_made {w w2 : World} {C : Array Value} {t : TypeId} {bs n n' : Nat} {M M1 M' : Mp} (h : BookAt w bs none n M) (hm : MapAt ki tenV Try.prog 3 w2 (some w.heap.size) n' M1) (hg : (((w.setCell ⟨bs, 0, none⟩ (.map (some w.heap.size))).alloc (.map #[] 0)).alloc (.cells C t)).drew.drew.grownBy w2 (some w.heap.size)) (e : M' = M1) : BookAt w2 bs (some w.heap.size) n' M' := by
  subst e
  have h1 := (made_at h)
  have h2 := h1.below ((Below.refl _ _).alloc (Nat.le_refl _) (.cells C t))
  have hlt := h.lt
  exact ⟨(hg.block bs (Nat.lt_of_lt_of_le h2.lt (Nat.le_refl _)) (fun e => by injection e with e; omega)).trans h2.box, hm⟩
set_option maxRecDepth 100000 in
set_option maxHeartbeats 4000000 in
theorem Do_none {w : World} {bs n : Nat} {M : Mp} (h : BookAt w bs none n M) (o : Order) (hx : (Lit.int .i64 o.owner).wf = true) (hw : why M o = 0) (ho : o.op = 1) :
    Calls Try.prog 20 #[.pointer (some ⟨bs, 0, none⟩), ordV o] w fun e w' => e = .returned (.int .i64 0) ∧ ∃ b, w.heap.size ≤ b ∧ BookAt w' bs (some b) 1 (doM M o) ∧ w.grownBy w' (some bs) := by
  have hB : Below w.heap.size w (w.alloc (.cells (cells12 o) 30)) := (Below.refl _ _).alloc (Nat.le_refl _) _
  have HB := Lib.hid hB
  have HN := Lib.hid (Check_k (h.below hB) o hx)
  rw [hw] at HN
  have hkey := keyOf_int_mk Try.underlying3 hx
  have H := Lib.hid h
  have hbs := h.lt
  have hm := fun (W : World) (r : Option Nat) => run_eql_map_nil (P := Try.prog) W 52 3 78 r Try.underlying52
  have hl0 := fun (W : World) (b : Nat) (hW : BookAt W bs (some b) 0 M) => hW.map.run_look false lawB Try.underlying52 (zeroB _) o.owner hkey
  simp only [Bool.false_eq_true, if_false, ten_get] at hl0
  have HL := Lib.hid hl0
  have HD := Lib.hid (show ∀ a, doM M o = a ↔ (if o.op = 4 then tdel ki M o.owner else tput ki M o.owner (newT (ten M o.owner) o)) = a from fun _ => Iff.rfl)
  generalize doM M o = M' at *
  generalize ten M o.owner = t at *
  obtain ⟨tv, r⟩ := t
  clear hB h hx hw hl0
  obtain ⟨id, op, owner, v⟩ := o
  simp only at HN HL HD ho hkey ⊢
  subst ho
  have HKey := Lib.hid hkey
  have hmm := @run_makeMap Try.prog
  clear hkey
  go_enter Try.func20, Try.ntmps20
  go_wp2_with fail
  refine HN.out.mono ?_
  rintro e w1 ⟨rfl, hb⟩
  have HB1 := Lib.hid (HB.out.trans (hb.mono (by simp)))
  have hq := fun i => (hb.cell (p := ⟨w.heap.size, i, none⟩) (by simp)).trans (cellsOf_alloc w _ _ i)
  have hz : w.heap.size < w1.heap.size := Nat.lt_of_lt_of_le (by simp) hb.size
  have hbn : w.heap.size ≠ bs := by omega
  have c0 : w1.cell? ⟨bs, 0, none⟩ = some (.map none) := (H.out.below HB1.out).c0
  have f0 : w1.frozen? ⟨bs, 0, none⟩ = false := (H.out.below HB1.out).f0
  have hbs1 : bs < w1.heap.size := by omega
  clear hb
  go_wp2_with fail
  have hWsz : (w1.setCell ⟨bs, 0, none⟩ (.map (some w1.heap.size))).heap.size = w1.heap.size := by simp [World.setCell]
  have hWs : ((w1.setCell ⟨bs, 0, none⟩ (.map (some w1.heap.size))).alloc (.map #[] 0)).heap.size = w1.heap.size + 1 := by rw [World.size_alloc, hWsz]
  have HW := Lib.hid (made_at (H.out.below HB1.out))
  have HGR := Lib.hid (fun (w2 : World) (C : Array Value) (hg : (((w1.setCell ⟨bs, 0, none⟩ (.map (some w1.heap.size))).alloc (.map #[] 0)).alloc (.cells C 78)).drew.drew.grownBy w2 (some w1.heap.size)) => made_grown HB1.out hbs HB1.out.size hg)
  have HDN := Lib.hid (fun (w2 : World) (C : Array Value) (n' : Nat) (M1 : Mp) (hm : MapAt ki tenV Try.prog 3 w2 (some w1.heap.size) n' M1) (hg : (((w1.setCell ⟨bs, 0, none⟩ (.map (some w1.heap.size))).alloc (.map #[] 0)).alloc (.cells C 78)).drew.drew.grownBy w2 (some w1.heap.size)) (e : M' = M1) => done_made (H.out.below HB1.out) hm hg e)
  have hq2 : ∀ i, ((w1.setCell ⟨bs, 0, none⟩ (.map (some w1.heap.size))).alloc (.map #[] 0)).cell? ⟨w.heap.size, i, none⟩ = (cells12 ⟨id, 1, owner, v⟩)[i]? := fun i =>
    (World.cell?_of_block (a := ⟨w.heap.size, i, none⟩) ((Below.heap_alloc _ _ _ (by rw [hWsz]; exact hz)).trans (Below.heap_setCell _ _ _ _ hbn))).trans (hq i)
  generalize (w1.setCell ⟨bs, 0, none⟩ (.map (some w1.heap.size))).alloc (.map #[] 0) = W2 at *
  have hbW := HB1.out.size
  clear c0 f0 hq hWsz hmm hm HB
  generalize w1.heap.size = nb at *
  have c0 := HW.out.c0
  have q2 : W2.cell? ⟨w.heap.size, 2, none⟩ = some (.int .i64 owner) := hq2 2
  have hl1 := HL.out W2.drew nb HW.out.drew
  have hl2 := HL.out ((W2.alloc (.cells #[.int .i64 0, .int .i64 0, .int .i64 0, .int .i64 0, .int .i64 0, .int .i64 0, .int .i64 0, .int .i64 0, .int .i64 0, .bool false] 78)).drew) nb ((HW.out.below ((Below.refl _ _).alloc (Nat.le_refl _) _)).drew)
  have hz2 : W2.heap.size ≠ w.heap.size := by omega
  have hz3 : W2.heap.size ≠ bs := by omega
  have hz4 : w.heap.size < W2.heap.size := by omega
  have hz5 : bs < W2.heap.size := by omega
  clear hWs
  go_region_held3 (fun w' => w'.cell? ⟨bs, 0, none⟩ = some (.map (some nb)) ∧ w'.cell? ⟨w.heap.size, 2, none⟩ = some (.int .i64 owner)) (first | exact ⟨c0, q2⟩ | go_keep) (fail)
  all_goals clear hl1 hl2 hz2
  all_goals
    go_wp2_with fail
    refine Line.still_tail 7 (by kernel_rfl) (by kernel_rfl) ?_
    simp only [List.take_succ_cons, List.take_zero, List.drop_succ_cons, List.drop_zero]
    iterate 7 still_step
    refine wpStill_nil ?_
    go_wp2_with (first
      | (at_mapUpdate; refine wpList_store (ke := ki) (ve := tenV) (M := M) (n := 0) rfl _ _ _ 52 rfl 78 lawB Try.underlying52 nb rfl ?m2 (by unfold maxLen; omega) (.int .i64 owner) rfl owner HKey.out (newT ⟨tv, r⟩ ⟨id, 1, owner, v⟩) rfl ?_; (case m2 => exact ((HW.out.below ((Below.refl _ _).alloc (Nat.le_refl _) _)).drew.drew).map); intro w2 hM hG; have HM := Lib.hid hM; have HG := Lib.hid hG; clear hM hG))
    go_ret
    exact ⟨rfl, nb, hbW, HDN.out _ _ _ _ HM.out HG.out ((HD.out _).2 (if_neg (by decide))), HGR.out _ _ HG.out⟩
/-- Do, whatever stands there. -/
theorem Do_ok {w : World} {bs n : Nat} {mb : Option Nat} {M : Mp} (h : BookAt w bs mb n M) (o : Order) (hx : (Lit.int .i64 o.owner).wf = true) (hw : why M o = 0) (hn : n < maxLen) :
    Calls Try.prog 20 #[.pointer (some ⟨bs, 0, none⟩), ordV o] w fun e w' => e = .returned (.int .i64 0) ∧ ∃ b, (mb = some b ∨ mb = none ∧ w.heap.size ≤ b) ∧ BookAt w' bs (some b) (n + 1) (doM M o) ∧ Turn w w' bs 0 (fun k => k = b) := by
  have hr : inRange o := by
    refine formB_range ?_
    cases hf : formB o
    · unfold why whyB at hw
      rw [hf] at hw
      simp at hw
    · rfl
  cases mb with
  | some b =>
    have hbb : b ≠ bs := by
      rintro rfl
      obtain ⟨es, clock, hb⟩ := h.map.isMap
      rw [h.box] at hb
      cases hb
    refine (Do_some h o hx hw hn hr).mono fun e w' ⟨he, h1, h2⟩ => ⟨he, b, .inl rfl, h1, ?_⟩
    exact Turn.grownBy h.lt h2 (fun e => hbb (by injection e with e; exact e.symm)) (fun k _ e => by injection e)
  | none =>
    have hM : M = [] := h.map
    have ho : o.op = 1 := by
      subst hM
      by_cases h1 : o.op = 1
      · exact h1
      · unfold why whyB at hw
        simp [h1, lives, tlook] at hw
        split at hw <;> simp at hw
    refine (Do_none h o hx hw ho).mono fun e w' ⟨he, b, hb, h1, h2⟩ => ⟨he, b, .inr ⟨rfl, hb⟩, ⟨h1.box, h1.map.mono (by omega)⟩, ?_⟩
    refine ⟨h2.os, h2.tape, h2.output, h2.size, fun k hk hne _ => h2.block k hk (fun e => hne (by injection e)), fun i hi0 _ => ?_, fun i => ?_, fun T hT => ?_⟩
    · rw [cell_of_cells h1.box, cell_of_cells h.box]
      cases i with
      | zero => exact absurd rfl hi0
      | succ i => rfl
    · simp [World.frozen?, h1.box, h.box]
    · obtain ⟨cs, fr, hT⟩ := hT
      rw [h.box] at hT
      cases hT
      exact ⟨_, _, h1.box⟩
end Go.Proofs.Ytdnhmlpjohojdaa.Adm.Bk
