import Derived.Test.YtdnhmlpjohojdaaRh
import Derived.Test.YtdnhmlpjohojdaaR29
import Derived.Test.YtdnhmlpjohojdaaR41
namespace Go.Proofs.Ytdnhmlpjohojdaa.R
open Go.RowKit Go.Proofs.YtdnhmlpjohojdaaW.PrintWords Go.Proofs.YtdnhmlpjohojdaaW.PrintLast Go.Proofs.YtdnhmlpjohojdaaW.PrintMore
attribute [local go_sem] max2_int min2_int max_two min_two max_three min_three max_four min_four   -- for this text's walks alone
set_option linter.unusedVariables false
set_option linter.unusedSimpArgs false

/-! ### concourseref41_Check: function 16 -/
mutual
def concourseref41_Check.j0 : Nat → Bool → Int → Int → Int → Int → Int → Int → Int → Int → Int → Int → Int → Int → Bool → Bool → Int → Int → Int → Int → Int → Int → Int → Int → Int → Option (Int)
  | 0, _, _, _, _, _, _, _, _, _, _, _, _, _, _, _, _, _, _, _, _, _, _, _, _ => none
  | k + 1, x19, x220000, x220001, x220002, x220003, x220004, x220005, x220006, x220007, x220008, x220009, x220010, x220011, x233000, x233001, x233002, x233003, x233004, x233005, x233006, x233007, x233008, x233009, x233010 => if x19 = true then (some 7) else (if x220001 = 1 then (concourseref41_Check.j1 k false x220000 x220001 x220002 x220003 x220004 x220005 x220006 x220007 x220008 x220009 x220010 x220011 x233000 x233001 x233002 x233003 x233004 x233005 x233006 x233007 x233008 x233009 x233010) else (concourseref41_Check.j1 k (!x233000) x220000 x220001 x220002 x220003 x220004 x220005 x220006 x220007 x220008 x220009 x220010 x220011 x233000 x233001 x233002 x233003 x233004 x233005 x233006 x233007 x233008 x233009 x233010))
def concourseref41_Check.j1 : Nat → Bool → Int → Int → Int → Int → Int → Int → Int → Int → Int → Int → Int → Int → Bool → Bool → Int → Int → Int → Int → Int → Int → Int → Int → Int → Option (Int)
  | 0, _, _, _, _, _, _, _, _, _, _, _, _, _, _, _, _, _, _, _, _, _, _, _, _ => none
  | k + 1, x27, x220000, x220001, x220002, x220003, x220004, x220005, x220006, x220007, x220008, x220009, x220010, x220011, x233000, x233001, x233002, x233003, x233004, x233005, x233006, x233007, x233008, x233009, x233010 => if x27 = true then (some 12) else (if x220001 = 2 then (if x233001 = true then (some 17) else (if x220001 = 3 then (some 17) else (some 0))) else (if x220001 = 3 then (if x233001 = true then (some 0) else (some 17)) else (some 0)))
end
def concourseref41_Check.f (k : Nat) (l0_0 : List (S75)) (a1_0 : Int) (a1_1 : Int) (a1_2 : Int) (a1_3 : Int) (a1_4 : Int) (a1_5 : Int) (a1_6 : Int) (a1_7 : Int) (a1_8 : Int) (a1_9 : Int) (a1_10 : Int) (a1_11 : Int) : Option (Int) := (concourseref41_Form.f k a1_0 a1_1 a1_2 a1_3 a1_4 a1_5 a1_6 a1_7 a1_8 a1_9 a1_10 a1_11).bind fun t220 => (if t220 = true then ((concourseref41_Of.f l0_0 a1_2).bind fun bt221 => (if a1_1 = 1 then (concourseref41_Check.j0 k bt221.1 a1_0 a1_1 a1_2 a1_3 a1_4 a1_5 a1_6 a1_7 a1_8 a1_9 a1_10 a1_11 bt221.1 bt221.2.1 bt221.2.2.1 bt221.2.2.2.1 bt221.2.2.2.2.1 bt221.2.2.2.2.2.1 bt221.2.2.2.2.2.2.1 bt221.2.2.2.2.2.2.2.1 bt221.2.2.2.2.2.2.2.2.1 bt221.2.2.2.2.2.2.2.2.2.1 bt221.2.2.2.2.2.2.2.2.2.2) else (concourseref41_Check.j0 k false a1_0 a1_1 a1_2 a1_3 a1_4 a1_5 a1_6 a1_7 a1_8 a1_9 a1_10 a1_11 bt221.1 bt221.2.1 bt221.2.2.1 bt221.2.2.2.1 bt221.2.2.2.2.1 bt221.2.2.2.2.2.1 bt221.2.2.2.2.2.2.1 bt221.2.2.2.2.2.2.2.1 bt221.2.2.2.2.2.2.2.2.1 bt221.2.2.2.2.2.2.2.2.2.1 bt221.2.2.2.2.2.2.2.2.2.2))) else (some 1))
theorem concourseref41_Check.mono_l : ∀ k, (∀ y0 y1 y2 y3 y4 y5 y6 y7 y8 y9 y10 y11 y12 y13 y14 y15 y16 y17 y18 y19 y20 y21 y22 y23, LeO (concourseref41_Check.j0 k y0 y1 y2 y3 y4 y5 y6 y7 y8 y9 y10 y11 y12 y13 y14 y15 y16 y17 y18 y19 y20 y21 y22 y23) (concourseref41_Check.j0 (k + 1) y0 y1 y2 y3 y4 y5 y6 y7 y8 y9 y10 y11 y12 y13 y14 y15 y16 y17 y18 y19 y20 y21 y22 y23)) ∧ (∀ y0 y1 y2 y3 y4 y5 y6 y7 y8 y9 y10 y11 y12 y13 y14 y15 y16 y17 y18 y19 y20 y21 y22 y23, LeO (concourseref41_Check.j1 k y0 y1 y2 y3 y4 y5 y6 y7 y8 y9 y10 y11 y12 y13 y14 y15 y16 y17 y18 y19 y20 y21 y22 y23) (concourseref41_Check.j1 (k + 1) y0 y1 y2 y3 y4 y5 y6 y7 y8 y9 y10 y11 y12 y13 y14 y15 y16 y17 y18 y19 y20 y21 y22 y23))
  | 0 => ⟨fun _ _ _ _ _ _ _ _ _ _ _ _ _ _ _ _ _ _ _ _ _ _ _ _ r h => by simp [concourseref41_Check.j0] at h, fun _ _ _ _ _ _ _ _ _ _ _ _ _ _ _ _ _ _ _ _ _ _ _ _ r h => by simp [concourseref41_Check.j1] at h⟩
  | k + 1 => by
    obtain ⟨ih0, ih1⟩ := concourseref41_Check.mono_l k
    refine ⟨?_, ?_⟩
    · intro y0 y1 y2 y3 y4 y5 y6 y7 y8 y9 y10 y11 y12 y13 y14 y15 y16 y17 y18 y19 y20 y21 y22 y23
      unfold concourseref41_Check.j0
      repeat' first
      | (with_reducible exact ih0 _ _ _ _ _ _ _ _ _ _ _ _ _ _ _ _ _ _ _ _ _ _ _ _)
      | (with_reducible exact ih1 _ _ _ _ _ _ _ _ _ _ _ _ _ _ _ _ _ _ _ _ _ _ _ _)
      | (with_reducible exact concourseref41_Form.mono _ _ _ _ _ _ _ _ _ _ _ _ _)
      | (with_reducible exact LeO.refl _)
      | (with_reducible exact LeO.none _)
      | (with_reducible refine LeO.ite ?_ ?_)
      | (with_reducible refine LeO.bind ?_ (fun _ => ?_))
      | exact ih0 _ _ _ _ _ _ _ _ _ _ _ _ _ _ _ _ _ _ _ _ _ _ _ _
      | exact ih1 _ _ _ _ _ _ _ _ _ _ _ _ _ _ _ _ _ _ _ _ _ _ _ _
      | exact concourseref41_Form.mono _ _ _ _ _ _ _ _ _ _ _ _ _
      | exact LeO.none _
      | refine LeO.ite ?_ ?_
      | refine LeO.bind ?_ (fun _ => ?_)
    · intro y0 y1 y2 y3 y4 y5 y6 y7 y8 y9 y10 y11 y12 y13 y14 y15 y16 y17 y18 y19 y20 y21 y22 y23
      unfold concourseref41_Check.j1
      repeat' first
      | (with_reducible exact ih0 _ _ _ _ _ _ _ _ _ _ _ _ _ _ _ _ _ _ _ _ _ _ _ _)
      | (with_reducible exact ih1 _ _ _ _ _ _ _ _ _ _ _ _ _ _ _ _ _ _ _ _ _ _ _ _)
      | (with_reducible exact concourseref41_Form.mono _ _ _ _ _ _ _ _ _ _ _ _ _)
      | (with_reducible exact LeO.refl _)
      | (with_reducible exact LeO.none _)
      | (with_reducible refine LeO.ite ?_ ?_)
      | (with_reducible refine LeO.bind ?_ (fun _ => ?_))
      | exact ih0 _ _ _ _ _ _ _ _ _ _ _ _ _ _ _ _ _ _ _ _ _ _ _ _
      | exact ih1 _ _ _ _ _ _ _ _ _ _ _ _ _ _ _ _ _ _ _ _ _ _ _ _
      | exact concourseref41_Form.mono _ _ _ _ _ _ _ _ _ _ _ _ _
      | exact LeO.none _
      | refine LeO.ite ?_ ?_
      | refine LeO.bind ?_ (fun _ => ?_)
theorem concourseref41_Check.mono : ∀ a0 a1 a2 a3 a4 a5 a6 a7 a8 a9 a10 a11 a12 k, LeO (concourseref41_Check.f k a0 a1 a2 a3 a4 a5 a6 a7 a8 a9 a10 a11 a12) (concourseref41_Check.f (k + 1) a0 a1 a2 a3 a4 a5 a6 a7 a8 a9 a10 a11 a12) := by
  intro a0 a1 a2 a3 a4 a5 a6 a7 a8 a9 a10 a11 a12 k
  obtain ⟨ih0, ih1⟩ := concourseref41_Check.mono_l k
  unfold concourseref41_Check.f
  repeat' first
      | (with_reducible exact ih0 _ _ _ _ _ _ _ _ _ _ _ _ _ _ _ _ _ _ _ _ _ _ _ _)
      | (with_reducible exact ih1 _ _ _ _ _ _ _ _ _ _ _ _ _ _ _ _ _ _ _ _ _ _ _ _)
      | (with_reducible exact concourseref41_Form.mono _ _ _ _ _ _ _ _ _ _ _ _ _)
      | (with_reducible exact LeO.refl _)
      | (with_reducible exact LeO.none _)
      | (with_reducible refine LeO.ite ?_ ?_)
      | (with_reducible refine LeO.bind ?_ (fun _ => ?_))
      | exact ih0 _ _ _ _ _ _ _ _ _ _ _ _ _ _ _ _ _ _ _ _ _ _ _ _
      | exact ih1 _ _ _ _ _ _ _ _ _ _ _ _ _ _ _ _ _ _ _ _ _ _ _ _
      | exact concourseref41_Form.mono _ _ _ _ _ _ _ _ _ _ _ _ _
      | exact LeO.none _
      | refine LeO.ite ?_ ?_
      | refine LeO.bind ?_ (fun _ => ?_)
set_option maxHeartbeats 8000000 in
set_option maxRecDepth 100000 in
theorem concourseref41_Check.calls (k : Nat) (A0_0 : Option Addr) (c0_0 : Nat) (l0_0 : List (S75)) (a1_0 : Int) (a1_1 : Int) (a1_2 : Int) (a1_3 : Int) (a1_4 : Int) (a1_5 : Int) (a1_6 : Int) (a1_7 : Int) (a1_8 : Int) (a1_9 : Int) (a1_10 : Int) (a1_11 : Int) (r : Int) (w : World) (hr0_0 : Kd.C k75 w A0_0 l0_0.length l0_0) (hc0_0 : l0_0.length ≤ c0_0) (h : concourseref41_Check.f k l0_0 a1_0 a1_1 a1_2 a1_3 a1_4 a1_5 a1_6 a1_7 a1_8 a1_9 a1_10 a1_11 = some r) :
    Calls Try.prog 16 #[.agg #[.slice A0_0 l0_0.length c0_0], .agg #[.int .u64 a1_0, .int .i64 a1_1, .int .i64 a1_2, .int .i64 a1_3, .int .i64 a1_4, .int .i64 a1_5, .int .i64 a1_6, .int .i64 a1_7, .int .i64 a1_8, .int .i64 a1_9, .int .i64 a1_10, .int .i64 a1_11]] w fun e w' => e = .returned (.int .i64 r) ∧ Below w.heap.size w w' := by
  have hu44 := Try.underlying44
  have hu26 := Try.underlying26
  have hu75 := Try.underlying75
  have HR0_0 := Aside0.mk hr0_0
  have HC0_0 := Aside0.mk hc0_0
  clear hr0_0 hc0_0
  have HB := Aside0.mk (Below.refl w.heap.size w)
  have H : ((concourseref41_Form.f k a1_0 a1_1 a1_2 a1_3 a1_4 a1_5 a1_6 a1_7 a1_8 a1_9 a1_10 a1_11).bind fun t220 => (if t220 = true then ((concourseref41_Of.f l0_0 a1_2).bind fun bt221 => (if a1_1 = 1 then (concourseref41_Check.j0 k bt221.1 a1_0 a1_1 a1_2 a1_3 a1_4 a1_5 a1_6 a1_7 a1_8 a1_9 a1_10 a1_11 bt221.1 bt221.2.1 bt221.2.2.1 bt221.2.2.2.1 bt221.2.2.2.2.1 bt221.2.2.2.2.2.1 bt221.2.2.2.2.2.2.1 bt221.2.2.2.2.2.2.2.1 bt221.2.2.2.2.2.2.2.2.1 bt221.2.2.2.2.2.2.2.2.2.1 bt221.2.2.2.2.2.2.2.2.2.2) else (concourseref41_Check.j0 k false a1_0 a1_1 a1_2 a1_3 a1_4 a1_5 a1_6 a1_7 a1_8 a1_9 a1_10 a1_11 bt221.1 bt221.2.1 bt221.2.2.1 bt221.2.2.2.1 bt221.2.2.2.2.1 bt221.2.2.2.2.2.1 bt221.2.2.2.2.2.2.1 bt221.2.2.2.2.2.2.2.1 bt221.2.2.2.2.2.2.2.2.1 bt221.2.2.2.2.2.2.2.2.2.1 bt221.2.2.2.2.2.2.2.2.2.2))) else (some 1))) = some r := h
  clear h
  replace H := Option.bind_eq_some_iff.mp H
  obtain ⟨t220, A30, H⟩ := H
  replace H : (if t220 = true then ((concourseref41_Of.f l0_0 a1_2).bind fun bt221 => (if a1_1 = 1 then (concourseref41_Check.j0 k bt221.1 a1_0 a1_1 a1_2 a1_3 a1_4 a1_5 a1_6 a1_7 a1_8 a1_9 a1_10 a1_11 bt221.1 bt221.2.1 bt221.2.2.1 bt221.2.2.2.1 bt221.2.2.2.2.1 bt221.2.2.2.2.2.1 bt221.2.2.2.2.2.2.1 bt221.2.2.2.2.2.2.2.1 bt221.2.2.2.2.2.2.2.2.1 bt221.2.2.2.2.2.2.2.2.2.1 bt221.2.2.2.2.2.2.2.2.2.2) else (concourseref41_Check.j0 k false a1_0 a1_1 a1_2 a1_3 a1_4 a1_5 a1_6 a1_7 a1_8 a1_9 a1_10 a1_11 bt221.1 bt221.2.1 bt221.2.2.1 bt221.2.2.2.1 bt221.2.2.2.2.1 bt221.2.2.2.2.2.1 bt221.2.2.2.2.2.2.1 bt221.2.2.2.2.2.2.2.1 bt221.2.2.2.2.2.2.2.2.1 bt221.2.2.2.2.2.2.2.2.2.1 bt221.2.2.2.2.2.2.2.2.2.2))) else (some 1)) = some r := H
  have A3 := Aside0.mk A30
  clear A30
  by_cases c4 : t220 = true
  · subst c4
    have H1 : ((concourseref41_Of.f l0_0 a1_2).bind fun bt221 => (if a1_1 = 1 then (concourseref41_Check.j0 k bt221.1 a1_0 a1_1 a1_2 a1_3 a1_4 a1_5 a1_6 a1_7 a1_8 a1_9 a1_10 a1_11 bt221.1 bt221.2.1 bt221.2.2.1 bt221.2.2.2.1 bt221.2.2.2.2.1 bt221.2.2.2.2.2.1 bt221.2.2.2.2.2.2.1 bt221.2.2.2.2.2.2.2.1 bt221.2.2.2.2.2.2.2.2.1 bt221.2.2.2.2.2.2.2.2.2.1 bt221.2.2.2.2.2.2.2.2.2.2) else (concourseref41_Check.j0 k false a1_0 a1_1 a1_2 a1_3 a1_4 a1_5 a1_6 a1_7 a1_8 a1_9 a1_10 a1_11 bt221.1 bt221.2.1 bt221.2.2.1 bt221.2.2.2.1 bt221.2.2.2.2.1 bt221.2.2.2.2.2.1 bt221.2.2.2.2.2.2.1 bt221.2.2.2.2.2.2.2.1 bt221.2.2.2.2.2.2.2.2.1 bt221.2.2.2.2.2.2.2.2.2.1 bt221.2.2.2.2.2.2.2.2.2.2))) = some r := by rw [if_pos rfl] at H; exact H
    clear H
    have H := H1
    clear H1
    replace H := Option.bind_eq_some_iff.mp H
    obtain ⟨⟨t221, t222, t223, t224, t225, t226, t227, t228, t229, t230, t231⟩, A50, H⟩ := H
    replace H : (if a1_1 = 1 then (concourseref41_Check.j0 k t221 a1_0 a1_1 a1_2 a1_3 a1_4 a1_5 a1_6 a1_7 a1_8 a1_9 a1_10 a1_11 t221 t222 t223 t224 t225 t226 t227 t228 t229 t230 t231) else (concourseref41_Check.j0 k false a1_0 a1_1 a1_2 a1_3 a1_4 a1_5 a1_6 a1_7 a1_8 a1_9 a1_10 a1_11 t221 t222 t223 t224 t225 t226 t227 t228 t229 t230 t231)) = some r := H
    have A5 := Aside0.mk A50
    clear A50
    have HC6 := Aside0.mk H
    clear H
    go_enter Try.func16, Try.ntmps16
    go_upto_region 4 with (first | ((with_reducible refine gate_dst (N := 2) rfl ?_); refine box_event ?hg (N := 2) ?hd (cs := #[.slice A0_0 l0_0.length c0_0]) (t := 44) ?hr ?_; (case hd => rfl); (case hg => rfl); (case hr => first | (go_simp; done) | (go_simp; rfl)); intro gb218 hg w7 hbox hb; have n0_ := Aside0.mk (below_step (by repeat (first | (with_reducible first | exact HB.out | apply below_alloc | apply pw_below_drewN | apply below_drew1) | exact HB.out)) hb); have n1_ := Aside0.mk (hbox); have n2_ := Aside0.mk ((by rw [hg]; exact (below_size (by repeat (first | (with_reducible first | exact HB.out | apply below_alloc | apply pw_below_drewN | apply below_drew1) | exact HB.out))) : w.heap.size ≤ gb218)); have n3_ := Aside0.mk ((by rw [hg]; exact (below_size (by repeat (first | (with_reducible first | exact HB.out | apply below_alloc | apply pw_below_drewN | apply below_drew1) | exact HB.out))) : w.heap.size ≤ gb218)); clear HB; have HB := n0_; have BK218 := n1_; have GW218 := n2_; have GE218 := n3_; clear n0_ n1_ n2_ n3_; clear hb hbox hg) | ((with_reducible refine gate_dst (N := 3) rfl ?_); refine box_event ?hg (N := 3) ?hd (cs := #[.int .u64 a1_0, .int .i64 a1_1, .int .i64 a1_2, .int .i64 a1_3, .int .i64 a1_4, .int .i64 a1_5, .int .i64 a1_6, .int .i64 a1_7, .int .i64 a1_8, .int .i64 a1_9, .int .i64 a1_10, .int .i64 a1_11]) (t := 26) ?hr ?_; (case hd => rfl); (case hg => rfl); (case hr => first | (go_simp; done) | (go_simp; rfl)); intro gb219 hg w8 hbox hb; have n0_ := Aside0.mk (blk_below (g := gb218) (o := .cells #[.slice A0_0 l0_0.length c0_0] 44 (0, 0)) (by (with_reducible repeat (first | refine blk_drewN ?_ _ | refine blk_drew ?_ | refine blk_alloc ?_ _)); exact BK218.out) hb); have n1_ := Aside0.mk (below_step (by repeat (first | (with_reducible first | exact HB.out | apply below_alloc | apply pw_below_drewN | apply below_drew1 | refine below_set ?_ GE218.out) | exact HB.out)) hb); have n2_ := Aside0.mk (hbox); have n3_ := Aside0.mk ((by rw [hg]; exact (below_size (by repeat (first | (with_reducible first | exact HB.out | apply below_alloc | apply pw_below_drewN | apply below_drew1 | refine below_set ?_ GE218.out) | exact HB.out))) : w.heap.size ≤ gb219)); have n4_ := Aside0.mk ((by rw [hg]; exact (below_size (by repeat (first | (with_reducible first | exact HB.out | apply below_alloc | apply pw_below_drewN | apply below_drew1 | refine below_set ?_ GE218.out) | exact HB.out))) : w.heap.size ≤ gb219)); have n5_ := Aside0.mk ((by rw [hg]; exact Nat.ne_of_lt (blk_lt (g := gb218) (o := .cells #[.slice A0_0 l0_0.length c0_0] 44 (0, 0)) (by (with_reducible repeat (first | refine blk_drewN ?_ _ | refine blk_drew ?_ | refine blk_alloc ?_ _)); exact BK218.out)) : gb218 ≠ gb219)); have n6_ := Aside0.mk ((by rw [hg]; exact Nat.ne_of_gt (blk_lt (g := gb218) (o := .cells #[.slice A0_0 l0_0.length c0_0] 44 (0, 0)) (by (with_reducible repeat (first | refine blk_drewN ?_ _ | refine blk_drew ?_ | refine blk_alloc ?_ _)); exact BK218.out)) : gb219 ≠ gb218)); clear BK218; clear HB; have BK218 := n0_; have HB := n1_; have BK219 := n2_; have GW219 := n3_; have GE219 := n4_; have NB218_219 := n5_; have NB219_218 := n6_; clear n0_ n1_ n2_ n3_ n4_ n5_ n6_; clear hb hbox hg; have hnb9 := NB219_218.out; have hnc9 := NB218_219.out; have hcz10_0 : w8.cell? ⟨gb219, 0, none⟩ = some (.int .u64 a1_0) := (blk_cell BK219.out 0).trans rfl; have hcz10_1 : w8.cell? ⟨gb219, 1, none⟩ = some (.int .i64 a1_1) := (blk_cell BK219.out 1).trans rfl; have hcz10_2 : w8.cell? ⟨gb219, 2, none⟩ = some (.int .i64 a1_2) := (blk_cell BK219.out 2).trans rfl; have hcz10_3 : w8.cell? ⟨gb219, 3, none⟩ = some (.int .i64 a1_3) := (blk_cell BK219.out 3).trans rfl; have hcz10_4 : w8.cell? ⟨gb219, 4, none⟩ = some (.int .i64 a1_4) := (blk_cell BK219.out 4).trans rfl; have hcz10_5 : w8.cell? ⟨gb219, 5, none⟩ = some (.int .i64 a1_5) := (blk_cell BK219.out 5).trans rfl; have hcz10_6 : w8.cell? ⟨gb219, 6, none⟩ = some (.int .i64 a1_6) := (blk_cell BK219.out 6).trans rfl; have hcz10_7 : w8.cell? ⟨gb219, 7, none⟩ = some (.int .i64 a1_7) := (blk_cell BK219.out 7).trans rfl; have hcz10_8 : w8.cell? ⟨gb219, 8, none⟩ = some (.int .i64 a1_8) := (blk_cell BK219.out 8).trans rfl; have hcz10_9 : w8.cell? ⟨gb219, 9, none⟩ = some (.int .i64 a1_9) := (blk_cell BK219.out 9).trans rfl; have hcz10_10 : w8.cell? ⟨gb219, 10, none⟩ = some (.int .i64 a1_10) := (blk_cell BK219.out 10).trans rfl; have hcz10_11 : w8.cell? ⟨gb219, 11, none⟩ = some (.int .i64 a1_11) := (blk_cell BK219.out 11).trans rfl; have hfz10_0 := blk_frozen BK219.out 0; have hfz10_1 := blk_frozen BK219.out 1; have hfz10_2 := blk_frozen BK219.out 2; have hfz10_3 := blk_frozen BK219.out 3; have hfz10_4 := blk_frozen BK219.out 4; have hfz10_5 := blk_frozen BK219.out 5; have hfz10_6 := blk_frozen BK219.out 6; have hfz10_7 := blk_frozen BK219.out 7; have hfz10_8 := blk_frozen BK219.out 8; have hfz10_9 := blk_frozen BK219.out 9; have hfz10_10 := blk_frozen BK219.out 10; have hfz10_11 := blk_frozen BK219.out 11) | ((with_reducible refine gate_callee (f := 29) rfl ?_); refine goesL_ (some 7) rfl rfl Try.func29 (by kernel_rfl) rfl #[.agg #[.int .u64 a1_0, .int .i64 a1_1, .int .i64 a1_2, .int .i64 a1_3, .int .i64 a1_4, .int .i64 a1_5, .int .i64 a1_6, .int .i64 a1_7, .int .i64 a1_8, .int .i64 a1_9, .int .i64 a1_10, .int .i64 a1_11]] rfl (by (try simp only [List.map_toArray, List.map_cons, List.map_nil]); first | done | rfl | (simp only [List.length_drop, List.length_take]; rfl)) ?_; (with_reducible refine (concourseref41_Form.calls k a1_0 a1_1 a1_2 a1_3 a1_4 a1_5 a1_6 a1_7 a1_8 a1_9 a1_10 a1_11 true _ A3.out).mono ?_); rintro e w11 ⟨rfl, hb⟩; refine ⟨_, rfl, ?_⟩; have n0_ := Aside0.mk (blk_below (g := gb218) (o := .cells #[.slice A0_0 l0_0.length c0_0] 44 (0, 0)) (by (with_reducible repeat (first | refine blk_drewN ?_ _ | refine blk_drew ?_ | refine blk_alloc ?_ _)); exact BK218.out) hb); have n1_ := Aside0.mk (blk_below (g := gb219) (o := .cells #[.int .u64 a1_0, .int .i64 a1_1, .int .i64 a1_2, .int .i64 a1_3, .int .i64 a1_4, .int .i64 a1_5, .int .i64 a1_6, .int .i64 a1_7, .int .i64 a1_8, .int .i64 a1_9, .int .i64 a1_10, .int .i64 a1_11] 26 (0, 0)) (by (with_reducible repeat (first | refine blk_drewN ?_ _ | refine blk_drew ?_ | refine blk_alloc ?_ _)); exact BK219.out) hb); have n2_ := Aside0.mk (below_step (by repeat (first | (with_reducible first | exact HB.out | apply below_alloc | apply pw_below_drewN | apply below_drew1 | refine below_set ?_ GE218.out | refine below_set ?_ GE219.out) | exact HB.out)) hb); clear BK218; clear BK219; clear HB; have BK218 := n0_; have BK219 := n1_; have HB := n2_; clear n0_ n1_ n2_; (try clear hb); (try clear hb2); (try clear hk); (try clear hi); have hcz12_0 : w11.cell? ⟨gb218, 0, none⟩ = some (.slice A0_0 l0_0.length c0_0) := (blk_cell BK218.out 0).trans rfl; have hfz12_0 := blk_frozen BK218.out 0; have hcz13_0 : w11.cell? ⟨gb219, 0, none⟩ = some (.int .u64 a1_0) := (blk_cell BK219.out 0).trans rfl; have hcz13_1 : w11.cell? ⟨gb219, 1, none⟩ = some (.int .i64 a1_1) := (blk_cell BK219.out 1).trans rfl; have hcz13_2 : w11.cell? ⟨gb219, 2, none⟩ = some (.int .i64 a1_2) := (blk_cell BK219.out 2).trans rfl; have hcz13_3 : w11.cell? ⟨gb219, 3, none⟩ = some (.int .i64 a1_3) := (blk_cell BK219.out 3).trans rfl; have hcz13_4 : w11.cell? ⟨gb219, 4, none⟩ = some (.int .i64 a1_4) := (blk_cell BK219.out 4).trans rfl; have hcz13_5 : w11.cell? ⟨gb219, 5, none⟩ = some (.int .i64 a1_5) := (blk_cell BK219.out 5).trans rfl; have hcz13_6 : w11.cell? ⟨gb219, 6, none⟩ = some (.int .i64 a1_6) := (blk_cell BK219.out 6).trans rfl; have hcz13_7 : w11.cell? ⟨gb219, 7, none⟩ = some (.int .i64 a1_7) := (blk_cell BK219.out 7).trans rfl; have hcz13_8 : w11.cell? ⟨gb219, 8, none⟩ = some (.int .i64 a1_8) := (blk_cell BK219.out 8).trans rfl; have hcz13_9 : w11.cell? ⟨gb219, 9, none⟩ = some (.int .i64 a1_9) := (blk_cell BK219.out 9).trans rfl; have hcz13_10 : w11.cell? ⟨gb219, 10, none⟩ = some (.int .i64 a1_10) := (blk_cell BK219.out 10).trans rfl; have hcz13_11 : w11.cell? ⟨gb219, 11, none⟩ = some (.int .i64 a1_11) := (blk_cell BK219.out 11).trans rfl; have hfz13_0 := blk_frozen BK219.out 0; have hfz13_1 := blk_frozen BK219.out 1; have hfz13_2 := blk_frozen BK219.out 2; have hfz13_3 := blk_frozen BK219.out 3; have hfz13_4 := blk_frozen BK219.out 4; have hfz13_5 := blk_frozen BK219.out 5; have hfz13_6 := blk_frozen BK219.out 6; have hfz13_7 := blk_frozen BK219.out 7; have hfz13_8 := blk_frozen BK219.out 8; have hfz13_9 := blk_frozen BK219.out 9; have hfz13_10 := blk_frozen BK219.out 10; have hfz13_11 := blk_frozen BK219.out 11) | ((with_reducible refine gate_callee (f := 41) rfl ?_); refine goesL_ (some 12) rfl rfl Try.func41 (by kernel_rfl) rfl #[.agg #[.slice A0_0 l0_0.length c0_0], .int .i64 a1_2] rfl (by (try simp only [List.map_toArray, List.map_cons, List.map_nil]); first | done | rfl | (simp only [List.length_drop, List.length_take]; rfl)) ?_; (with_reducible refine (concourseref41_Of.calls _ _ l0_0 a1_2 t221 t222 t223 t224 t225 t226 t227 t228 t229 t230 t231 _ ?side1 ?side2 A5.out).mono ?_); (case side1 => repeat (first | exact (Kd.C_below HR0_0.out HB.out) | (with_reducible refine Kd.C_alloc ?_ _) | (with_reducible refine Kd.C_drewN ?_ _) | (with_reducible refine Kd.C_drew ?_))); (case side2 => exact HC0_0.out); rintro e w14 ⟨rfl, hb⟩; refine ⟨_, rfl, ?_⟩; have n0_ := Aside0.mk (blk_below (g := gb218) (o := .cells #[.slice A0_0 l0_0.length c0_0] 44 (0, 0)) (by (with_reducible repeat (first | refine blk_drewN ?_ _ | refine blk_drew ?_ | refine blk_alloc ?_ _)); exact BK218.out) hb); have n1_ := Aside0.mk (blk_below (g := gb219) (o := .cells #[.int .u64 a1_0, .int .i64 a1_1, .int .i64 a1_2, .int .i64 a1_3, .int .i64 a1_4, .int .i64 a1_5, .int .i64 a1_6, .int .i64 a1_7, .int .i64 a1_8, .int .i64 a1_9, .int .i64 a1_10, .int .i64 a1_11] 26 (0, 0)) (by (with_reducible repeat (first | refine blk_drewN ?_ _ | refine blk_drew ?_ | refine blk_alloc ?_ _)); exact BK219.out) hb); have n2_ := Aside0.mk (below_step (by repeat (first | (with_reducible first | exact HB.out | apply below_alloc | apply pw_below_drewN | apply below_drew1 | refine below_set ?_ GE218.out | refine below_set ?_ GE219.out) | exact HB.out)) hb); clear BK218; clear BK219; clear HB; have BK218 := n0_; have BK219 := n1_; have HB := n2_; clear n0_ n1_ n2_; (try clear hb); (try clear hb2); (try clear hk); (try clear hi)) | ((with_reducible refine gate_dst (N := 5) rfl ?_); refine box_event ?hg (N := 5) ?hd (cs := #[.bool false, .bool false, .int .i64 0, .int .i64 0, .int .i64 0, .int .i64 0, .int .i64 0, .int .i64 0, .int .i64 0, .int .i64 0, .int .i64 0]) (t := 75) ?hr ?_; (case hd => rfl); (case hg => rfl); (case hr => first | (go_simp; done) | (go_simp; rfl)); intro gb232 hg w15 hbox hb; have n0_ := Aside0.mk (blk_below (g := gb218) (o := .cells #[.slice A0_0 l0_0.length c0_0] 44 (0, 0)) (by (with_reducible repeat (first | refine blk_drewN ?_ _ | refine blk_drew ?_ | refine blk_alloc ?_ _)); exact BK218.out) hb); have n1_ := Aside0.mk (blk_below (g := gb219) (o := .cells #[.int .u64 a1_0, .int .i64 a1_1, .int .i64 a1_2, .int .i64 a1_3, .int .i64 a1_4, .int .i64 a1_5, .int .i64 a1_6, .int .i64 a1_7, .int .i64 a1_8, .int .i64 a1_9, .int .i64 a1_10, .int .i64 a1_11] 26 (0, 0)) (by (with_reducible repeat (first | refine blk_drewN ?_ _ | refine blk_drew ?_ | refine blk_alloc ?_ _)); exact BK219.out) hb); have n2_ := Aside0.mk (below_step (by repeat (first | (with_reducible first | exact HB.out | apply below_alloc | apply pw_below_drewN | apply below_drew1 | refine below_set ?_ GE218.out | refine below_set ?_ GE219.out) | exact HB.out)) hb); have n3_ := Aside0.mk (hbox); have n4_ := Aside0.mk ((by rw [hg]; exact (below_size (by repeat (first | (with_reducible first | exact HB.out | apply below_alloc | apply pw_below_drewN | apply below_drew1 | refine below_set ?_ GE218.out | refine below_set ?_ GE219.out) | exact HB.out))) : w.heap.size ≤ gb232)); have n5_ := Aside0.mk ((by rw [hg]; exact (below_size (by repeat (first | (with_reducible first | exact HB.out | apply below_alloc | apply pw_below_drewN | apply below_drew1 | refine below_set ?_ GE218.out | refine below_set ?_ GE219.out) | exact HB.out))) : w.heap.size ≤ gb232)); have n6_ := Aside0.mk ((by rw [hg]; exact Nat.ne_of_lt (blk_lt (g := gb218) (o := .cells #[.slice A0_0 l0_0.length c0_0] 44 (0, 0)) (by (with_reducible repeat (first | refine blk_drewN ?_ _ | refine blk_drew ?_ | refine blk_alloc ?_ _)); exact BK218.out)) : gb218 ≠ gb232)); have n7_ := Aside0.mk ((by rw [hg]; exact Nat.ne_of_gt (blk_lt (g := gb218) (o := .cells #[.slice A0_0 l0_0.length c0_0] 44 (0, 0)) (by (with_reducible repeat (first | refine blk_drewN ?_ _ | refine blk_drew ?_ | refine blk_alloc ?_ _)); exact BK218.out)) : gb232 ≠ gb218)); have n8_ := Aside0.mk ((by rw [hg]; exact Nat.ne_of_lt (blk_lt (g := gb219) (o := .cells #[.int .u64 a1_0, .int .i64 a1_1, .int .i64 a1_2, .int .i64 a1_3, .int .i64 a1_4, .int .i64 a1_5, .int .i64 a1_6, .int .i64 a1_7, .int .i64 a1_8, .int .i64 a1_9, .int .i64 a1_10, .int .i64 a1_11] 26 (0, 0)) (by (with_reducible repeat (first | refine blk_drewN ?_ _ | refine blk_drew ?_ | refine blk_alloc ?_ _)); exact BK219.out)) : gb219 ≠ gb232)); have n9_ := Aside0.mk ((by rw [hg]; exact Nat.ne_of_gt (blk_lt (g := gb219) (o := .cells #[.int .u64 a1_0, .int .i64 a1_1, .int .i64 a1_2, .int .i64 a1_3, .int .i64 a1_4, .int .i64 a1_5, .int .i64 a1_6, .int .i64 a1_7, .int .i64 a1_8, .int .i64 a1_9, .int .i64 a1_10, .int .i64 a1_11] 26 (0, 0)) (by (with_reducible repeat (first | refine blk_drewN ?_ _ | refine blk_drew ?_ | refine blk_alloc ?_ _)); exact BK219.out)) : gb232 ≠ gb219)); clear BK218; clear BK219; clear HB; have BK218 := n0_; have BK219 := n1_; have HB := n2_; have BK232 := n3_; have GW232 := n4_; have GE232 := n5_; have NB218_232 := n6_; have NB232_218 := n7_; have NB219_232 := n8_; have NB232_219 := n9_; clear n0_ n1_ n2_ n3_ n4_ n5_ n6_ n7_ n8_ n9_; clear hb hbox hg; have hnb16 := NB232_218.out; have hnc16 := NB218_232.out; have hnb17 := NB232_219.out; have hnc17 := NB219_232.out; have hcz18_0 : w15.cell? ⟨gb232, 0, none⟩ = some (.bool false) := (blk_cell BK232.out 0).trans rfl; have hcz18_1 : w15.cell? ⟨gb232, 1, none⟩ = some (.bool false) := (blk_cell BK232.out 1).trans rfl; have hcz18_2 : w15.cell? ⟨gb232, 2, none⟩ = some (.int .i64 0) := (blk_cell BK232.out 2).trans rfl; have hcz18_3 : w15.cell? ⟨gb232, 3, none⟩ = some (.int .i64 0) := (blk_cell BK232.out 3).trans rfl; have hcz18_4 : w15.cell? ⟨gb232, 4, none⟩ = some (.int .i64 0) := (blk_cell BK232.out 4).trans rfl; have hcz18_5 : w15.cell? ⟨gb232, 5, none⟩ = some (.int .i64 0) := (blk_cell BK232.out 5).trans rfl; have hcz18_6 : w15.cell? ⟨gb232, 6, none⟩ = some (.int .i64 0) := (blk_cell BK232.out 6).trans rfl; have hcz18_7 : w15.cell? ⟨gb232, 7, none⟩ = some (.int .i64 0) := (blk_cell BK232.out 7).trans rfl; have hcz18_8 : w15.cell? ⟨gb232, 8, none⟩ = some (.int .i64 0) := (blk_cell BK232.out 8).trans rfl; have hcz18_9 : w15.cell? ⟨gb232, 9, none⟩ = some (.int .i64 0) := (blk_cell BK232.out 9).trans rfl; have hcz18_10 : w15.cell? ⟨gb232, 10, none⟩ = some (.int .i64 0) := (blk_cell BK232.out 10).trans rfl; have hfz18_0 := blk_frozen BK232.out 0; have hfz18_1 := blk_frozen BK232.out 1; have hfz18_2 := blk_frozen BK232.out 2; have hfz18_3 := blk_frozen BK232.out 3; have hfz18_4 := blk_frozen BK232.out 4; have hfz18_5 := blk_frozen BK232.out 5; have hfz18_6 := blk_frozen BK232.out 6; have hfz18_7 := blk_frozen BK232.out 7; have hfz18_8 := blk_frozen BK232.out 8; have hfz18_9 := blk_frozen BK232.out 9; have hfz18_10 := blk_frozen BK232.out 10))
    (try simp only [Act.put, List.setIfInBounds_toArray, List.set_cons_zero, List.set_cons_succ])
    go_cut [19] (fun v19 wc => ∃ (kq : Nat) (x19_5 : Bool), v19 = .bool x19_5 ∧ Aside0 (concourseref41_Check.j0 kq x19_5 a1_0 a1_1 a1_2 a1_3 a1_4 a1_5 a1_6 a1_7 a1_8 a1_9 a1_10 a1_11 t221 t222 t223 t224 t225 t226 t227 t228 t229 t230 t231 = some r) ∧ Aside0 (kq ≤ k) ∧ Aside0 (wc.heap[gb218]? = some (.cells #[(.slice A0_0 l0_0.length c0_0)] 44 (0, 0))) ∧ Aside0 (wc.heap[gb219]? = some (.cells #[.int .u64 a1_0, .int .i64 a1_1, .int .i64 a1_2, .int .i64 a1_3, .int .i64 a1_4, .int .i64 a1_5, .int .i64 a1_6, .int .i64 a1_7, .int .i64 a1_8, .int .i64 a1_9, .int .i64 a1_10, .int .i64 a1_11] 26 (0, 0))) ∧ Aside0 (wc.heap[gb232]? = some (.cells #[.bool t221, .bool t222, .int .i64 t223, .int .i64 t224, .int .i64 t225, .int .i64 t226, .int .i64 t227, .int .i64 t228, .int .i64 t229, .int .i64 t230, .int .i64 t231] 75 (0, 0))) ∧ Aside0 (Below w.heap.size w wc))
    case first =>
      have H := HC6.out
      clear HC6
      by_cases c19 : a1_1 = 1
      · rw [if_pos c19] at H
        have c19b0 : (a1_1 == 1) = true := beq_iff_eq.mpr c19
        have c19b1 : (a1_1 != 1) = false := bne_eq_false_iff_eq.mpr c19
        clear c19
        (first | rw [c19b0] | (simp only [i64_w, i32_w]; rw [c19b0]) | skip)
        have H' := Aside0.mk H
        clear H
        have hnb20 := NB219_218.out
        have hnc20 := NB218_219.out
        have hnb21 := NB219_232.out
        have hnc21 := NB232_219.out
        have hcz22_0 : w15.cell? ⟨gb219, 0, none⟩ = some (.int .u64 a1_0) := (blk_cell BK219.out 0).trans rfl
        have hcz22_1 : w15.cell? ⟨gb219, 1, none⟩ = some (.int .i64 a1_1) := (blk_cell BK219.out 1).trans rfl
        have hcz22_2 : w15.cell? ⟨gb219, 2, none⟩ = some (.int .i64 a1_2) := (blk_cell BK219.out 2).trans rfl
        have hcz22_3 : w15.cell? ⟨gb219, 3, none⟩ = some (.int .i64 a1_3) := (blk_cell BK219.out 3).trans rfl
        have hcz22_4 : w15.cell? ⟨gb219, 4, none⟩ = some (.int .i64 a1_4) := (blk_cell BK219.out 4).trans rfl
        have hcz22_5 : w15.cell? ⟨gb219, 5, none⟩ = some (.int .i64 a1_5) := (blk_cell BK219.out 5).trans rfl
        have hcz22_6 : w15.cell? ⟨gb219, 6, none⟩ = some (.int .i64 a1_6) := (blk_cell BK219.out 6).trans rfl
        have hcz22_7 : w15.cell? ⟨gb219, 7, none⟩ = some (.int .i64 a1_7) := (blk_cell BK219.out 7).trans rfl
        have hcz22_8 : w15.cell? ⟨gb219, 8, none⟩ = some (.int .i64 a1_8) := (blk_cell BK219.out 8).trans rfl
        have hcz22_9 : w15.cell? ⟨gb219, 9, none⟩ = some (.int .i64 a1_9) := (blk_cell BK219.out 9).trans rfl
        have hcz22_10 : w15.cell? ⟨gb219, 10, none⟩ = some (.int .i64 a1_10) := (blk_cell BK219.out 10).trans rfl
        have hcz22_11 : w15.cell? ⟨gb219, 11, none⟩ = some (.int .i64 a1_11) := (blk_cell BK219.out 11).trans rfl
        have hfz22_0 := blk_frozen BK219.out 0
        have hfz22_1 := blk_frozen BK219.out 1
        have hfz22_2 := blk_frozen BK219.out 2
        have hfz22_3 := blk_frozen BK219.out 3
        have hfz22_4 := blk_frozen BK219.out 4
        have hfz22_5 := blk_frozen BK219.out 5
        have hfz22_6 := blk_frozen BK219.out 6
        have hfz22_7 := blk_frozen BK219.out 7
        have hfz22_8 := blk_frozen BK219.out 8
        have hfz22_9 := blk_frozen BK219.out 9
        have hfz22_10 := blk_frozen BK219.out 10
        have hfz22_11 := blk_frozen BK219.out 11
        have hnb23 := NB232_218.out
        have hnc23 := NB218_232.out
        have hcz24_0 : w15.cell? ⟨gb232, 0, none⟩ = some (.bool false) := (blk_cell BK232.out 0).trans rfl
        have hcz24_1 : w15.cell? ⟨gb232, 1, none⟩ = some (.bool false) := (blk_cell BK232.out 1).trans rfl
        have hcz24_2 : w15.cell? ⟨gb232, 2, none⟩ = some (.int .i64 0) := (blk_cell BK232.out 2).trans rfl
        have hcz24_3 : w15.cell? ⟨gb232, 3, none⟩ = some (.int .i64 0) := (blk_cell BK232.out 3).trans rfl
        have hcz24_4 : w15.cell? ⟨gb232, 4, none⟩ = some (.int .i64 0) := (blk_cell BK232.out 4).trans rfl
        have hcz24_5 : w15.cell? ⟨gb232, 5, none⟩ = some (.int .i64 0) := (blk_cell BK232.out 5).trans rfl
        have hcz24_6 : w15.cell? ⟨gb232, 6, none⟩ = some (.int .i64 0) := (blk_cell BK232.out 6).trans rfl
        have hcz24_7 : w15.cell? ⟨gb232, 7, none⟩ = some (.int .i64 0) := (blk_cell BK232.out 7).trans rfl
        have hcz24_8 : w15.cell? ⟨gb232, 8, none⟩ = some (.int .i64 0) := (blk_cell BK232.out 8).trans rfl
        have hcz24_9 : w15.cell? ⟨gb232, 9, none⟩ = some (.int .i64 0) := (blk_cell BK232.out 9).trans rfl
        have hcz24_10 : w15.cell? ⟨gb232, 10, none⟩ = some (.int .i64 0) := (blk_cell BK232.out 10).trans rfl
        have hfz24_0 := blk_frozen BK232.out 0
        have hfz24_1 := blk_frozen BK232.out 1
        have hfz24_2 := blk_frozen BK232.out 2
        have hfz24_3 := blk_frozen BK232.out 3
        have hfz24_4 := blk_frozen BK232.out 4
        have hfz24_5 := blk_frozen BK232.out 5
        have hfz24_6 := blk_frozen BK232.out 6
        have hfz24_7 := blk_frozen BK232.out 7
        have hfz24_8 := blk_frozen BK232.out 8
        have hfz24_9 := blk_frozen BK232.out 9
        have hfz24_10 := blk_frozen BK232.out 10
        go_wp2
        go_meet
        case rel => exact ⟨_, (t221), (by first | rfl | (simp; done) | (simp [*]; done)), H', ⟨by first | omega | exact Nat.le_refl _⟩, ⟨by (with_reducible repeat (first | refine blk_drewN ?_ _ | refine blk_drew ?_ | refine blk_alloc ?_ _)); refine blk_far ?_ NB218_232.out _; (with_reducible repeat (first | refine blk_drewN ?_ _ | refine blk_drew ?_ | refine blk_alloc ?_ _)); refine blk_far ?_ NB218_232.out _; (with_reducible repeat (first | refine blk_drewN ?_ _ | refine blk_drew ?_ | refine blk_alloc ?_ _)); refine blk_far ?_ NB218_232.out _; (with_reducible repeat (first | refine blk_drewN ?_ _ | refine blk_drew ?_ | refine blk_alloc ?_ _)); refine blk_far ?_ NB218_232.out _; (with_reducible repeat (first | refine blk_drewN ?_ _ | refine blk_drew ?_ | refine blk_alloc ?_ _)); refine blk_far ?_ NB218_232.out _; (with_reducible repeat (first | refine blk_drewN ?_ _ | refine blk_drew ?_ | refine blk_alloc ?_ _)); refine blk_far ?_ NB218_232.out _; (with_reducible repeat (first | refine blk_drewN ?_ _ | refine blk_drew ?_ | refine blk_alloc ?_ _)); refine blk_far ?_ NB218_232.out _; (with_reducible repeat (first | refine blk_drewN ?_ _ | refine blk_drew ?_ | refine blk_alloc ?_ _)); refine blk_far ?_ NB218_232.out _; (with_reducible repeat (first | refine blk_drewN ?_ _ | refine blk_drew ?_ | refine blk_alloc ?_ _)); refine blk_far ?_ NB218_232.out _; (with_reducible repeat (first | refine blk_drewN ?_ _ | refine blk_drew ?_ | refine blk_alloc ?_ _)); refine blk_far ?_ NB218_232.out _; (with_reducible repeat (first | refine blk_drewN ?_ _ | refine blk_drew ?_ | refine blk_alloc ?_ _)); refine blk_far ?_ NB218_232.out _; (with_reducible repeat (first | refine blk_drewN ?_ _ | refine blk_drew ?_ | refine blk_alloc ?_ _)); exact BK218.out⟩, ⟨by (with_reducible repeat (first | refine blk_drewN ?_ _ | refine blk_drew ?_ | refine blk_alloc ?_ _)); refine blk_far ?_ NB219_232.out _; (with_reducible repeat (first | refine blk_drewN ?_ _ | refine blk_drew ?_ | refine blk_alloc ?_ _)); refine blk_far ?_ NB219_232.out _; (with_reducible repeat (first | refine blk_drewN ?_ _ | refine blk_drew ?_ | refine blk_alloc ?_ _)); refine blk_far ?_ NB219_232.out _; (with_reducible repeat (first | refine blk_drewN ?_ _ | refine blk_drew ?_ | refine blk_alloc ?_ _)); refine blk_far ?_ NB219_232.out _; (with_reducible repeat (first | refine blk_drewN ?_ _ | refine blk_drew ?_ | refine blk_alloc ?_ _)); refine blk_far ?_ NB219_232.out _; (with_reducible repeat (first | refine blk_drewN ?_ _ | refine blk_drew ?_ | refine blk_alloc ?_ _)); refine blk_far ?_ NB219_232.out _; (with_reducible repeat (first | refine blk_drewN ?_ _ | refine blk_drew ?_ | refine blk_alloc ?_ _)); refine blk_far ?_ NB219_232.out _; (with_reducible repeat (first | refine blk_drewN ?_ _ | refine blk_drew ?_ | refine blk_alloc ?_ _)); refine blk_far ?_ NB219_232.out _; (with_reducible repeat (first | refine blk_drewN ?_ _ | refine blk_drew ?_ | refine blk_alloc ?_ _)); refine blk_far ?_ NB219_232.out _; (with_reducible repeat (first | refine blk_drewN ?_ _ | refine blk_drew ?_ | refine blk_alloc ?_ _)); refine blk_far ?_ NB219_232.out _; (with_reducible repeat (first | refine blk_drewN ?_ _ | refine blk_drew ?_ | refine blk_alloc ?_ _)); refine blk_far ?_ NB219_232.out _; (with_reducible repeat (first | refine blk_drewN ?_ _ | refine blk_drew ?_ | refine blk_alloc ?_ _)); exact BK219.out⟩, ⟨by (with_reducible repeat (first | refine blk_drewN ?_ _ | refine blk_drew ?_ | refine blk_alloc ?_ _)); refine blk_put (cs := #[.bool t221, .bool t222, .int .i64 t223, .int .i64 t224, .int .i64 t225, .int .i64 t226, .int .i64 t227, .int .i64 t228, .int .i64 t229, .int .i64 t230, .int .i64 0]) ?_ 10 _ rfl; (with_reducible repeat (first | refine blk_drewN ?_ _ | refine blk_drew ?_ | refine blk_alloc ?_ _)); refine blk_put (cs := #[.bool t221, .bool t222, .int .i64 t223, .int .i64 t224, .int .i64 t225, .int .i64 t226, .int .i64 t227, .int .i64 t228, .int .i64 t229, .int .i64 0, .int .i64 0]) ?_ 9 _ rfl; (with_reducible repeat (first | refine blk_drewN ?_ _ | refine blk_drew ?_ | refine blk_alloc ?_ _)); refine blk_put (cs := #[.bool t221, .bool t222, .int .i64 t223, .int .i64 t224, .int .i64 t225, .int .i64 t226, .int .i64 t227, .int .i64 t228, .int .i64 0, .int .i64 0, .int .i64 0]) ?_ 8 _ rfl; (with_reducible repeat (first | refine blk_drewN ?_ _ | refine blk_drew ?_ | refine blk_alloc ?_ _)); refine blk_put (cs := #[.bool t221, .bool t222, .int .i64 t223, .int .i64 t224, .int .i64 t225, .int .i64 t226, .int .i64 t227, .int .i64 0, .int .i64 0, .int .i64 0, .int .i64 0]) ?_ 7 _ rfl; (with_reducible repeat (first | refine blk_drewN ?_ _ | refine blk_drew ?_ | refine blk_alloc ?_ _)); refine blk_put (cs := #[.bool t221, .bool t222, .int .i64 t223, .int .i64 t224, .int .i64 t225, .int .i64 t226, .int .i64 0, .int .i64 0, .int .i64 0, .int .i64 0, .int .i64 0]) ?_ 6 _ rfl; (with_reducible repeat (first | refine blk_drewN ?_ _ | refine blk_drew ?_ | refine blk_alloc ?_ _)); refine blk_put (cs := #[.bool t221, .bool t222, .int .i64 t223, .int .i64 t224, .int .i64 t225, .int .i64 0, .int .i64 0, .int .i64 0, .int .i64 0, .int .i64 0, .int .i64 0]) ?_ 5 _ rfl; (with_reducible repeat (first | refine blk_drewN ?_ _ | refine blk_drew ?_ | refine blk_alloc ?_ _)); refine blk_put (cs := #[.bool t221, .bool t222, .int .i64 t223, .int .i64 t224, .int .i64 0, .int .i64 0, .int .i64 0, .int .i64 0, .int .i64 0, .int .i64 0, .int .i64 0]) ?_ 4 _ rfl; (with_reducible repeat (first | refine blk_drewN ?_ _ | refine blk_drew ?_ | refine blk_alloc ?_ _)); refine blk_put (cs := #[.bool t221, .bool t222, .int .i64 t223, .int .i64 0, .int .i64 0, .int .i64 0, .int .i64 0, .int .i64 0, .int .i64 0, .int .i64 0, .int .i64 0]) ?_ 3 _ rfl; (with_reducible repeat (first | refine blk_drewN ?_ _ | refine blk_drew ?_ | refine blk_alloc ?_ _)); refine blk_put (cs := #[.bool t221, .bool t222, .int .i64 0, .int .i64 0, .int .i64 0, .int .i64 0, .int .i64 0, .int .i64 0, .int .i64 0, .int .i64 0, .int .i64 0]) ?_ 2 _ rfl; (with_reducible repeat (first | refine blk_drewN ?_ _ | refine blk_drew ?_ | refine blk_alloc ?_ _)); refine blk_put (cs := #[.bool t221, .bool false, .int .i64 0, .int .i64 0, .int .i64 0, .int .i64 0, .int .i64 0, .int .i64 0, .int .i64 0, .int .i64 0, .int .i64 0]) ?_ 1 _ rfl; (with_reducible repeat (first | refine blk_drewN ?_ _ | refine blk_drew ?_ | refine blk_alloc ?_ _)); refine blk_put (cs := #[.bool false, .bool false, .int .i64 0, .int .i64 0, .int .i64 0, .int .i64 0, .int .i64 0, .int .i64 0, .int .i64 0, .int .i64 0, .int .i64 0]) ?_ 0 _ rfl; (with_reducible repeat (first | refine blk_drewN ?_ _ | refine blk_drew ?_ | refine blk_alloc ?_ _)); exact BK232.out⟩, ⟨by repeat (first | (with_reducible first | exact HB.out | apply below_alloc | apply pw_below_drewN | apply below_drew1 | refine below_set ?_ GE218.out | refine below_set ?_ GE219.out | refine below_set ?_ GE232.out) | exact HB.out)⟩⟩
      · rw [if_neg c19] at H
        have c19b0 : (a1_1 == 1) = false := beq_eq_false_iff_ne.mpr c19
        have c19b1 : (a1_1 != 1) = true := bne_iff_ne.mpr c19
        (first | rw [c19b0] | (simp only [i64_w, i32_w]; rw [c19b0]) | skip)
        have H' := Aside0.mk H
        clear H
        have hnb25 := NB219_218.out
        have hnc25 := NB218_219.out
        have hnb26 := NB219_232.out
        have hnc26 := NB232_219.out
        have hcz27_0 : w15.cell? ⟨gb219, 0, none⟩ = some (.int .u64 a1_0) := (blk_cell BK219.out 0).trans rfl
        have hcz27_1 : w15.cell? ⟨gb219, 1, none⟩ = some (.int .i64 a1_1) := (blk_cell BK219.out 1).trans rfl
        have hcz27_2 : w15.cell? ⟨gb219, 2, none⟩ = some (.int .i64 a1_2) := (blk_cell BK219.out 2).trans rfl
        have hcz27_3 : w15.cell? ⟨gb219, 3, none⟩ = some (.int .i64 a1_3) := (blk_cell BK219.out 3).trans rfl
        have hcz27_4 : w15.cell? ⟨gb219, 4, none⟩ = some (.int .i64 a1_4) := (blk_cell BK219.out 4).trans rfl
        have hcz27_5 : w15.cell? ⟨gb219, 5, none⟩ = some (.int .i64 a1_5) := (blk_cell BK219.out 5).trans rfl
        have hcz27_6 : w15.cell? ⟨gb219, 6, none⟩ = some (.int .i64 a1_6) := (blk_cell BK219.out 6).trans rfl
        have hcz27_7 : w15.cell? ⟨gb219, 7, none⟩ = some (.int .i64 a1_7) := (blk_cell BK219.out 7).trans rfl
        have hcz27_8 : w15.cell? ⟨gb219, 8, none⟩ = some (.int .i64 a1_8) := (blk_cell BK219.out 8).trans rfl
        have hcz27_9 : w15.cell? ⟨gb219, 9, none⟩ = some (.int .i64 a1_9) := (blk_cell BK219.out 9).trans rfl
        have hcz27_10 : w15.cell? ⟨gb219, 10, none⟩ = some (.int .i64 a1_10) := (blk_cell BK219.out 10).trans rfl
        have hcz27_11 : w15.cell? ⟨gb219, 11, none⟩ = some (.int .i64 a1_11) := (blk_cell BK219.out 11).trans rfl
        have hfz27_0 := blk_frozen BK219.out 0
        have hfz27_1 := blk_frozen BK219.out 1
        have hfz27_2 := blk_frozen BK219.out 2
        have hfz27_3 := blk_frozen BK219.out 3
        have hfz27_4 := blk_frozen BK219.out 4
        have hfz27_5 := blk_frozen BK219.out 5
        have hfz27_6 := blk_frozen BK219.out 6
        have hfz27_7 := blk_frozen BK219.out 7
        have hfz27_8 := blk_frozen BK219.out 8
        have hfz27_9 := blk_frozen BK219.out 9
        have hfz27_10 := blk_frozen BK219.out 10
        have hfz27_11 := blk_frozen BK219.out 11
        go_wp2
        go_meet
        case rel => exact ⟨_, (false), (by first | rfl | (simp; done) | (simp [*]; done)), H', ⟨by first | omega | exact Nat.le_refl _⟩, ⟨by (with_reducible repeat (first | refine blk_drewN ?_ _ | refine blk_drew ?_ | refine blk_alloc ?_ _)); refine blk_far ?_ NB218_232.out _; (with_reducible repeat (first | refine blk_drewN ?_ _ | refine blk_drew ?_ | refine blk_alloc ?_ _)); refine blk_far ?_ NB218_232.out _; (with_reducible repeat (first | refine blk_drewN ?_ _ | refine blk_drew ?_ | refine blk_alloc ?_ _)); refine blk_far ?_ NB218_232.out _; (with_reducible repeat (first | refine blk_drewN ?_ _ | refine blk_drew ?_ | refine blk_alloc ?_ _)); refine blk_far ?_ NB218_232.out _; (with_reducible repeat (first | refine blk_drewN ?_ _ | refine blk_drew ?_ | refine blk_alloc ?_ _)); refine blk_far ?_ NB218_232.out _; (with_reducible repeat (first | refine blk_drewN ?_ _ | refine blk_drew ?_ | refine blk_alloc ?_ _)); refine blk_far ?_ NB218_232.out _; (with_reducible repeat (first | refine blk_drewN ?_ _ | refine blk_drew ?_ | refine blk_alloc ?_ _)); refine blk_far ?_ NB218_232.out _; (with_reducible repeat (first | refine blk_drewN ?_ _ | refine blk_drew ?_ | refine blk_alloc ?_ _)); refine blk_far ?_ NB218_232.out _; (with_reducible repeat (first | refine blk_drewN ?_ _ | refine blk_drew ?_ | refine blk_alloc ?_ _)); refine blk_far ?_ NB218_232.out _; (with_reducible repeat (first | refine blk_drewN ?_ _ | refine blk_drew ?_ | refine blk_alloc ?_ _)); refine blk_far ?_ NB218_232.out _; (with_reducible repeat (first | refine blk_drewN ?_ _ | refine blk_drew ?_ | refine blk_alloc ?_ _)); refine blk_far ?_ NB218_232.out _; (with_reducible repeat (first | refine blk_drewN ?_ _ | refine blk_drew ?_ | refine blk_alloc ?_ _)); exact BK218.out⟩, ⟨by (with_reducible repeat (first | refine blk_drewN ?_ _ | refine blk_drew ?_ | refine blk_alloc ?_ _)); refine blk_far ?_ NB219_232.out _; (with_reducible repeat (first | refine blk_drewN ?_ _ | refine blk_drew ?_ | refine blk_alloc ?_ _)); refine blk_far ?_ NB219_232.out _; (with_reducible repeat (first | refine blk_drewN ?_ _ | refine blk_drew ?_ | refine blk_alloc ?_ _)); refine blk_far ?_ NB219_232.out _; (with_reducible repeat (first | refine blk_drewN ?_ _ | refine blk_drew ?_ | refine blk_alloc ?_ _)); refine blk_far ?_ NB219_232.out _; (with_reducible repeat (first | refine blk_drewN ?_ _ | refine blk_drew ?_ | refine blk_alloc ?_ _)); refine blk_far ?_ NB219_232.out _; (with_reducible repeat (first | refine blk_drewN ?_ _ | refine blk_drew ?_ | refine blk_alloc ?_ _)); refine blk_far ?_ NB219_232.out _; (with_reducible repeat (first | refine blk_drewN ?_ _ | refine blk_drew ?_ | refine blk_alloc ?_ _)); refine blk_far ?_ NB219_232.out _; (with_reducible repeat (first | refine blk_drewN ?_ _ | refine blk_drew ?_ | refine blk_alloc ?_ _)); refine blk_far ?_ NB219_232.out _; (with_reducible repeat (first | refine blk_drewN ?_ _ | refine blk_drew ?_ | refine blk_alloc ?_ _)); refine blk_far ?_ NB219_232.out _; (with_reducible repeat (first | refine blk_drewN ?_ _ | refine blk_drew ?_ | refine blk_alloc ?_ _)); refine blk_far ?_ NB219_232.out _; (with_reducible repeat (first | refine blk_drewN ?_ _ | refine blk_drew ?_ | refine blk_alloc ?_ _)); refine blk_far ?_ NB219_232.out _; (with_reducible repeat (first | refine blk_drewN ?_ _ | refine blk_drew ?_ | refine blk_alloc ?_ _)); exact BK219.out⟩, ⟨by (with_reducible repeat (first | refine blk_drewN ?_ _ | refine blk_drew ?_ | refine blk_alloc ?_ _)); refine blk_put (cs := #[.bool t221, .bool t222, .int .i64 t223, .int .i64 t224, .int .i64 t225, .int .i64 t226, .int .i64 t227, .int .i64 t228, .int .i64 t229, .int .i64 t230, .int .i64 0]) ?_ 10 _ rfl; (with_reducible repeat (first | refine blk_drewN ?_ _ | refine blk_drew ?_ | refine blk_alloc ?_ _)); refine blk_put (cs := #[.bool t221, .bool t222, .int .i64 t223, .int .i64 t224, .int .i64 t225, .int .i64 t226, .int .i64 t227, .int .i64 t228, .int .i64 t229, .int .i64 0, .int .i64 0]) ?_ 9 _ rfl; (with_reducible repeat (first | refine blk_drewN ?_ _ | refine blk_drew ?_ | refine blk_alloc ?_ _)); refine blk_put (cs := #[.bool t221, .bool t222, .int .i64 t223, .int .i64 t224, .int .i64 t225, .int .i64 t226, .int .i64 t227, .int .i64 t228, .int .i64 0, .int .i64 0, .int .i64 0]) ?_ 8 _ rfl; (with_reducible repeat (first | refine blk_drewN ?_ _ | refine blk_drew ?_ | refine blk_alloc ?_ _)); refine blk_put (cs := #[.bool t221, .bool t222, .int .i64 t223, .int .i64 t224, .int .i64 t225, .int .i64 t226, .int .i64 t227, .int .i64 0, .int .i64 0, .int .i64 0, .int .i64 0]) ?_ 7 _ rfl; (with_reducible repeat (first | refine blk_drewN ?_ _ | refine blk_drew ?_ | refine blk_alloc ?_ _)); refine blk_put (cs := #[.bool t221, .bool t222, .int .i64 t223, .int .i64 t224, .int .i64 t225, .int .i64 t226, .int .i64 0, .int .i64 0, .int .i64 0, .int .i64 0, .int .i64 0]) ?_ 6 _ rfl; (with_reducible repeat (first | refine blk_drewN ?_ _ | refine blk_drew ?_ | refine blk_alloc ?_ _)); refine blk_put (cs := #[.bool t221, .bool t222, .int .i64 t223, .int .i64 t224, .int .i64 t225, .int .i64 0, .int .i64 0, .int .i64 0, .int .i64 0, .int .i64 0, .int .i64 0]) ?_ 5 _ rfl; (with_reducible repeat (first | refine blk_drewN ?_ _ | refine blk_drew ?_ | refine blk_alloc ?_ _)); refine blk_put (cs := #[.bool t221, .bool t222, .int .i64 t223, .int .i64 t224, .int .i64 0, .int .i64 0, .int .i64 0, .int .i64 0, .int .i64 0, .int .i64 0, .int .i64 0]) ?_ 4 _ rfl; (with_reducible repeat (first | refine blk_drewN ?_ _ | refine blk_drew ?_ | refine blk_alloc ?_ _)); refine blk_put (cs := #[.bool t221, .bool t222, .int .i64 t223, .int .i64 0, .int .i64 0, .int .i64 0, .int .i64 0, .int .i64 0, .int .i64 0, .int .i64 0, .int .i64 0]) ?_ 3 _ rfl; (with_reducible repeat (first | refine blk_drewN ?_ _ | refine blk_drew ?_ | refine blk_alloc ?_ _)); refine blk_put (cs := #[.bool t221, .bool t222, .int .i64 0, .int .i64 0, .int .i64 0, .int .i64 0, .int .i64 0, .int .i64 0, .int .i64 0, .int .i64 0, .int .i64 0]) ?_ 2 _ rfl; (with_reducible repeat (first | refine blk_drewN ?_ _ | refine blk_drew ?_ | refine blk_alloc ?_ _)); refine blk_put (cs := #[.bool t221, .bool false, .int .i64 0, .int .i64 0, .int .i64 0, .int .i64 0, .int .i64 0, .int .i64 0, .int .i64 0, .int .i64 0, .int .i64 0]) ?_ 1 _ rfl; (with_reducible repeat (first | refine blk_drewN ?_ _ | refine blk_drew ?_ | refine blk_alloc ?_ _)); refine blk_put (cs := #[.bool false, .bool false, .int .i64 0, .int .i64 0, .int .i64 0, .int .i64 0, .int .i64 0, .int .i64 0, .int .i64 0, .int .i64 0, .int .i64 0]) ?_ 0 _ rfl; (with_reducible repeat (first | refine blk_drewN ?_ _ | refine blk_drew ?_ | refine blk_alloc ?_ _)); exact BK232.out⟩, ⟨by repeat (first | (with_reducible first | exact HB.out | apply below_alloc | apply pw_below_drewN | apply below_drew1 | refine below_set ?_ GE218.out | refine below_set ?_ GE219.out | refine below_set ?_ GE232.out) | exact HB.out)⟩⟩
    case rest =>
      clear HC6
      try clear c1
      try clear c2
      try clear p2
      try clear c4
      try clear c9
      try clear c16
      try clear c17
      try clear c19
      try clear c19b0
      try clear c19b1
      try clear c20
      try clear c21
      try clear c23
      try clear c25
      try clear c26
      try clear hcz10_0
      try clear hcz10_1
      try clear hcz10_10
      try clear hcz10_11
      try clear hcz10_2
      try clear hcz10_3
      try clear hcz10_4
      try clear hcz10_5
      try clear hcz10_6
      try clear hcz10_7
      try clear hcz10_8
      try clear hcz10_9
      try clear hcz12_0
      try clear hcz13_0
      try clear hcz13_1
      try clear hcz13_10
      try clear hcz13_11
      try clear hcz13_2
      try clear hcz13_3
      try clear hcz13_4
      try clear hcz13_5
      try clear hcz13_6
      try clear hcz13_7
      try clear hcz13_8
      try clear hcz13_9
      try clear hcz18_0
      try clear hcz18_1
      try clear hcz18_10
      try clear hcz18_2
      try clear hcz18_3
      try clear hcz18_4
      try clear hcz18_5
      try clear hcz18_6
      try clear hcz18_7
      try clear hcz18_8
      try clear hcz18_9
      try clear hcz22_0
      try clear hcz22_1
      try clear hcz22_10
      try clear hcz22_11
      try clear hcz22_2
      try clear hcz22_3
      try clear hcz22_4
      try clear hcz22_5
      try clear hcz22_6
      try clear hcz22_7
      try clear hcz22_8
      try clear hcz22_9
      try clear hcz24_0
      try clear hcz24_1
      try clear hcz24_10
      try clear hcz24_2
      try clear hcz24_3
      try clear hcz24_4
      try clear hcz24_5
      try clear hcz24_6
      try clear hcz24_7
      try clear hcz24_8
      try clear hcz24_9
      try clear hcz27_0
      try clear hcz27_1
      try clear hcz27_10
      try clear hcz27_11
      try clear hcz27_2
      try clear hcz27_3
      try clear hcz27_4
      try clear hcz27_5
      try clear hcz27_6
      try clear hcz27_7
      try clear hcz27_8
      try clear hcz27_9
      try clear hfz10_0
      try clear hfz10_1
      try clear hfz10_10
      try clear hfz10_11
      try clear hfz10_2
      try clear hfz10_3
      try clear hfz10_4
      try clear hfz10_5
      try clear hfz10_6
      try clear hfz10_7
      try clear hfz10_8
      try clear hfz10_9
      try clear hfz12_0
      try clear hfz13_0
      try clear hfz13_1
      try clear hfz13_10
      try clear hfz13_11
      try clear hfz13_2
      try clear hfz13_3
      try clear hfz13_4
      try clear hfz13_5
      try clear hfz13_6
      try clear hfz13_7
      try clear hfz13_8
      try clear hfz13_9
      try clear hfz18_0
      try clear hfz18_1
      try clear hfz18_10
      try clear hfz18_2
      try clear hfz18_3
      try clear hfz18_4
      try clear hfz18_5
      try clear hfz18_6
      try clear hfz18_7
      try clear hfz18_8
      try clear hfz18_9
      try clear hfz22_0
      try clear hfz22_1
      try clear hfz22_10
      try clear hfz22_11
      try clear hfz22_2
      try clear hfz22_3
      try clear hfz22_4
      try clear hfz22_5
      try clear hfz22_6
      try clear hfz22_7
      try clear hfz22_8
      try clear hfz22_9
      try clear hfz24_0
      try clear hfz24_1
      try clear hfz24_10
      try clear hfz24_2
      try clear hfz24_3
      try clear hfz24_4
      try clear hfz24_5
      try clear hfz24_6
      try clear hfz24_7
      try clear hfz24_8
      try clear hfz24_9
      try clear hfz27_0
      try clear hfz27_1
      try clear hfz27_10
      try clear hfz27_11
      try clear hfz27_2
      try clear hfz27_3
      try clear hfz27_4
      try clear hfz27_5
      try clear hfz27_6
      try clear hfz27_7
      try clear hfz27_8
      try clear hfz27_9
      obtain ⟨kq, x19_5, rfl, HA, HJ5, BK218, BK219, BK232, HB⟩ := hcut
      cases kq with
      | zero => exact absurd HA.out (by simp [concourseref41_Check.j0])
      | succ kj5 =>
        have H := HA.out
        clear HA
        simp only [concourseref41_Check.j0] at H
        by_cases c28 : x19_5 = true
        · subst c28
          have H1 : (some 7) = some r := by rw [if_pos rfl] at H; exact H
          clear H
          have H := H1
          clear H1
          obtain rfl := Option.some.inj H
          go_wp2
          go_ret
          exact ⟨by first | rfl | (simp [errW_none, errW_some] <;> rfl) | (simp [*, errW_none, errW_some] <;> rfl), by repeat (first | (with_reducible first | exact HB.out | apply below_alloc | apply pw_below_drewN | apply below_drew1 | refine below_set ?_ GE218.out | refine below_set ?_ GE219.out | refine below_set ?_ GE232.out) | exact HB.out)⟩
        · replace c28 := Bool.eq_false_iff.mpr c28
          subst c28
          have H1 : (if a1_1 = 1 then (concourseref41_Check.j1 kj5 false a1_0 a1_1 a1_2 a1_3 a1_4 a1_5 a1_6 a1_7 a1_8 a1_9 a1_10 a1_11 t221 t222 t223 t224 t225 t226 t227 t228 t229 t230 t231) else (concourseref41_Check.j1 kj5 (!t221) a1_0 a1_1 a1_2 a1_3 a1_4 a1_5 a1_6 a1_7 a1_8 a1_9 a1_10 a1_11 t221 t222 t223 t224 t225 t226 t227 t228 t229 t230 t231)) = some r := by rw [if_neg (show ¬ (false = true) by decide)] at H; exact H
          clear H
          have H := H1
          clear H1
          have HC29 := Aside0.mk H
          clear H
          go_upto_region 6 with (fail)
          go_cut [27] (fun v27 wc => ∃ (kq : Nat) (x27_28 : Bool), v27 = .bool x27_28 ∧ Aside0 (concourseref41_Check.j1 kq x27_28 a1_0 a1_1 a1_2 a1_3 a1_4 a1_5 a1_6 a1_7 a1_8 a1_9 a1_10 a1_11 t221 t222 t223 t224 t225 t226 t227 t228 t229 t230 t231 = some r) ∧ Aside0 (kq ≤ kj5) ∧ Aside0 (wc.heap[gb218]? = some (.cells #[(.slice A0_0 l0_0.length c0_0)] 44 (0, 0))) ∧ Aside0 (wc.heap[gb219]? = some (.cells #[.int .u64 a1_0, .int .i64 a1_1, .int .i64 a1_2, .int .i64 a1_3, .int .i64 a1_4, .int .i64 a1_5, .int .i64 a1_6, .int .i64 a1_7, .int .i64 a1_8, .int .i64 a1_9, .int .i64 a1_10, .int .i64 a1_11] 26 (0, 0))) ∧ Aside0 (wc.heap[gb232]? = some (.cells #[.bool t221, .bool t222, .int .i64 t223, .int .i64 t224, .int .i64 t225, .int .i64 t226, .int .i64 t227, .int .i64 t228, .int .i64 t229, .int .i64 t230, .int .i64 t231] 75 (0, 0))) ∧ Aside0 (Below w.heap.size w wc))
          case first =>
            have H := HC29.out
            clear HC29
            by_cases c30 : a1_1 = 1
            · rw [if_pos c30] at H
              have c30b0 : (a1_1 == 1) = true := beq_iff_eq.mpr c30
              have c30b1 : (a1_1 != 1) = false := bne_eq_false_iff_eq.mpr c30
              clear c30
              (first | rw [c30b0] | (simp only [i64_w, i32_w]; rw [c30b0]) | skip)
              have H' := Aside0.mk H
              clear H
              have hnb31 := NB219_218.out
              have hnc31 := NB218_219.out
              have hnb32 := NB219_232.out
              have hnc32 := NB232_219.out
              have hcz33_0 : wc.cell? ⟨gb219, 0, none⟩ = some (.int .u64 a1_0) := (blk_cell BK219.out 0).trans rfl
              have hcz33_1 : wc.cell? ⟨gb219, 1, none⟩ = some (.int .i64 a1_1) := (blk_cell BK219.out 1).trans rfl
              have hcz33_2 : wc.cell? ⟨gb219, 2, none⟩ = some (.int .i64 a1_2) := (blk_cell BK219.out 2).trans rfl
              have hcz33_3 : wc.cell? ⟨gb219, 3, none⟩ = some (.int .i64 a1_3) := (blk_cell BK219.out 3).trans rfl
              have hcz33_4 : wc.cell? ⟨gb219, 4, none⟩ = some (.int .i64 a1_4) := (blk_cell BK219.out 4).trans rfl
              have hcz33_5 : wc.cell? ⟨gb219, 5, none⟩ = some (.int .i64 a1_5) := (blk_cell BK219.out 5).trans rfl
              have hcz33_6 : wc.cell? ⟨gb219, 6, none⟩ = some (.int .i64 a1_6) := (blk_cell BK219.out 6).trans rfl
              have hcz33_7 : wc.cell? ⟨gb219, 7, none⟩ = some (.int .i64 a1_7) := (blk_cell BK219.out 7).trans rfl
              have hcz33_8 : wc.cell? ⟨gb219, 8, none⟩ = some (.int .i64 a1_8) := (blk_cell BK219.out 8).trans rfl
              have hcz33_9 : wc.cell? ⟨gb219, 9, none⟩ = some (.int .i64 a1_9) := (blk_cell BK219.out 9).trans rfl
              have hcz33_10 : wc.cell? ⟨gb219, 10, none⟩ = some (.int .i64 a1_10) := (blk_cell BK219.out 10).trans rfl
              have hcz33_11 : wc.cell? ⟨gb219, 11, none⟩ = some (.int .i64 a1_11) := (blk_cell BK219.out 11).trans rfl
              have hfz33_0 := blk_frozen BK219.out 0
              have hfz33_1 := blk_frozen BK219.out 1
              have hfz33_2 := blk_frozen BK219.out 2
              have hfz33_3 := blk_frozen BK219.out 3
              have hfz33_4 := blk_frozen BK219.out 4
              have hfz33_5 := blk_frozen BK219.out 5
              have hfz33_6 := blk_frozen BK219.out 6
              have hfz33_7 := blk_frozen BK219.out 7
              have hfz33_8 := blk_frozen BK219.out 8
              have hfz33_9 := blk_frozen BK219.out 9
              have hfz33_10 := blk_frozen BK219.out 10
              have hfz33_11 := blk_frozen BK219.out 11
              go_wp2
              go_meet
              case rel => exact ⟨_, (false), (by first | rfl | (simp; done) | (simp [*]; done)), H', ⟨by have := HJ5.out; first | omega | exact Nat.le_refl _⟩, ⟨by (with_reducible repeat (first | refine blk_drewN ?_ _ | refine blk_drew ?_ | refine blk_alloc ?_ _)); exact BK218.out⟩, ⟨by (with_reducible repeat (first | refine blk_drewN ?_ _ | refine blk_drew ?_ | refine blk_alloc ?_ _)); exact BK219.out⟩, ⟨by (with_reducible repeat (first | refine blk_drewN ?_ _ | refine blk_drew ?_ | refine blk_alloc ?_ _)); exact BK232.out⟩, ⟨by repeat (first | (with_reducible first | exact HB.out | apply below_alloc | apply pw_below_drewN | apply below_drew1 | refine below_set ?_ GE218.out | refine below_set ?_ GE219.out | refine below_set ?_ GE232.out) | exact HB.out)⟩⟩
            · rw [if_neg c30] at H
              have c30b0 : (a1_1 == 1) = false := beq_eq_false_iff_ne.mpr c30
              have c30b1 : (a1_1 != 1) = true := bne_iff_ne.mpr c30
              (first | rw [c30b0] | (simp only [i64_w, i32_w]; rw [c30b0]) | skip)
              have H' := Aside0.mk H
              clear H
              have hnb34 := NB219_218.out
              have hnc34 := NB218_219.out
              have hnb35 := NB219_232.out
              have hnc35 := NB232_219.out
              have hcz36_0 : wc.cell? ⟨gb219, 0, none⟩ = some (.int .u64 a1_0) := (blk_cell BK219.out 0).trans rfl
              have hcz36_1 : wc.cell? ⟨gb219, 1, none⟩ = some (.int .i64 a1_1) := (blk_cell BK219.out 1).trans rfl
              have hcz36_2 : wc.cell? ⟨gb219, 2, none⟩ = some (.int .i64 a1_2) := (blk_cell BK219.out 2).trans rfl
              have hcz36_3 : wc.cell? ⟨gb219, 3, none⟩ = some (.int .i64 a1_3) := (blk_cell BK219.out 3).trans rfl
              have hcz36_4 : wc.cell? ⟨gb219, 4, none⟩ = some (.int .i64 a1_4) := (blk_cell BK219.out 4).trans rfl
              have hcz36_5 : wc.cell? ⟨gb219, 5, none⟩ = some (.int .i64 a1_5) := (blk_cell BK219.out 5).trans rfl
              have hcz36_6 : wc.cell? ⟨gb219, 6, none⟩ = some (.int .i64 a1_6) := (blk_cell BK219.out 6).trans rfl
              have hcz36_7 : wc.cell? ⟨gb219, 7, none⟩ = some (.int .i64 a1_7) := (blk_cell BK219.out 7).trans rfl
              have hcz36_8 : wc.cell? ⟨gb219, 8, none⟩ = some (.int .i64 a1_8) := (blk_cell BK219.out 8).trans rfl
              have hcz36_9 : wc.cell? ⟨gb219, 9, none⟩ = some (.int .i64 a1_9) := (blk_cell BK219.out 9).trans rfl
              have hcz36_10 : wc.cell? ⟨gb219, 10, none⟩ = some (.int .i64 a1_10) := (blk_cell BK219.out 10).trans rfl
              have hcz36_11 : wc.cell? ⟨gb219, 11, none⟩ = some (.int .i64 a1_11) := (blk_cell BK219.out 11).trans rfl
              have hfz36_0 := blk_frozen BK219.out 0
              have hfz36_1 := blk_frozen BK219.out 1
              have hfz36_2 := blk_frozen BK219.out 2
              have hfz36_3 := blk_frozen BK219.out 3
              have hfz36_4 := blk_frozen BK219.out 4
              have hfz36_5 := blk_frozen BK219.out 5
              have hfz36_6 := blk_frozen BK219.out 6
              have hfz36_7 := blk_frozen BK219.out 7
              have hfz36_8 := blk_frozen BK219.out 8
              have hfz36_9 := blk_frozen BK219.out 9
              have hfz36_10 := blk_frozen BK219.out 10
              have hfz36_11 := blk_frozen BK219.out 11
              have hnb37 := NB232_218.out
              have hnc37 := NB218_232.out
              have hcz38_0 : wc.cell? ⟨gb232, 0, none⟩ = some (.bool t221) := (blk_cell BK232.out 0).trans rfl
              have hcz38_1 : wc.cell? ⟨gb232, 1, none⟩ = some (.bool t222) := (blk_cell BK232.out 1).trans rfl
              have hcz38_2 : wc.cell? ⟨gb232, 2, none⟩ = some (.int .i64 t223) := (blk_cell BK232.out 2).trans rfl
              have hcz38_3 : wc.cell? ⟨gb232, 3, none⟩ = some (.int .i64 t224) := (blk_cell BK232.out 3).trans rfl
              have hcz38_4 : wc.cell? ⟨gb232, 4, none⟩ = some (.int .i64 t225) := (blk_cell BK232.out 4).trans rfl
              have hcz38_5 : wc.cell? ⟨gb232, 5, none⟩ = some (.int .i64 t226) := (blk_cell BK232.out 5).trans rfl
              have hcz38_6 : wc.cell? ⟨gb232, 6, none⟩ = some (.int .i64 t227) := (blk_cell BK232.out 6).trans rfl
              have hcz38_7 : wc.cell? ⟨gb232, 7, none⟩ = some (.int .i64 t228) := (blk_cell BK232.out 7).trans rfl
              have hcz38_8 : wc.cell? ⟨gb232, 8, none⟩ = some (.int .i64 t229) := (blk_cell BK232.out 8).trans rfl
              have hcz38_9 : wc.cell? ⟨gb232, 9, none⟩ = some (.int .i64 t230) := (blk_cell BK232.out 9).trans rfl
              have hcz38_10 : wc.cell? ⟨gb232, 10, none⟩ = some (.int .i64 t231) := (blk_cell BK232.out 10).trans rfl
              have hfz38_0 := blk_frozen BK232.out 0
              have hfz38_1 := blk_frozen BK232.out 1
              have hfz38_2 := blk_frozen BK232.out 2
              have hfz38_3 := blk_frozen BK232.out 3
              have hfz38_4 := blk_frozen BK232.out 4
              have hfz38_5 := blk_frozen BK232.out 5
              have hfz38_6 := blk_frozen BK232.out 6
              have hfz38_7 := blk_frozen BK232.out 7
              have hfz38_8 := blk_frozen BK232.out 8
              have hfz38_9 := blk_frozen BK232.out 9
              have hfz38_10 := blk_frozen BK232.out 10
              go_wp2
              go_meet
              case rel => exact ⟨_, (!t221), (by first | rfl | (simp; done) | (simp [*]; done)), H', ⟨by have := HJ5.out; first | omega | exact Nat.le_refl _⟩, ⟨by (with_reducible repeat (first | refine blk_drewN ?_ _ | refine blk_drew ?_ | refine blk_alloc ?_ _)); exact BK218.out⟩, ⟨by (with_reducible repeat (first | refine blk_drewN ?_ _ | refine blk_drew ?_ | refine blk_alloc ?_ _)); exact BK219.out⟩, ⟨by (with_reducible repeat (first | refine blk_drewN ?_ _ | refine blk_drew ?_ | refine blk_alloc ?_ _)); exact BK232.out⟩, ⟨by repeat (first | (with_reducible first | exact HB.out | apply below_alloc | apply pw_below_drewN | apply below_drew1 | refine below_set ?_ GE218.out | refine below_set ?_ GE219.out | refine below_set ?_ GE232.out) | exact HB.out)⟩⟩
          case rest =>
            clear HC29
            try clear c1
            try clear c2
            try clear p2
            try clear c3
            try clear c4
            try clear c9
            try clear c16
            try clear c17
            try clear c19
            try clear c19b0
            try clear c19b1
            try clear c20
            try clear c21
            try clear c23
            try clear c25
            try clear c26
            try clear c28
            try clear c29
            try clear c30
            try clear c30b0
            try clear c30b1
            try clear c31
            try clear c32
            try clear c34
            try clear c35
            try clear c37
            try clear hcz10_0
            try clear hcz10_1
            try clear hcz10_10
            try clear hcz10_11
            try clear hcz10_2
            try clear hcz10_3
            try clear hcz10_4
            try clear hcz10_5
            try clear hcz10_6
            try clear hcz10_7
            try clear hcz10_8
            try clear hcz10_9
            try clear hcz12_0
            try clear hcz13_0
            try clear hcz13_1
            try clear hcz13_10
            try clear hcz13_11
            try clear hcz13_2
            try clear hcz13_3
            try clear hcz13_4
            try clear hcz13_5
            try clear hcz13_6
            try clear hcz13_7
            try clear hcz13_8
            try clear hcz13_9
            try clear hcz18_0
            try clear hcz18_1
            try clear hcz18_10
            try clear hcz18_2
            try clear hcz18_3
            try clear hcz18_4
            try clear hcz18_5
            try clear hcz18_6
            try clear hcz18_7
            try clear hcz18_8
            try clear hcz18_9
            try clear hcz22_0
            try clear hcz22_1
            try clear hcz22_10
            try clear hcz22_11
            try clear hcz22_2
            try clear hcz22_3
            try clear hcz22_4
            try clear hcz22_5
            try clear hcz22_6
            try clear hcz22_7
            try clear hcz22_8
            try clear hcz22_9
            try clear hcz24_0
            try clear hcz24_1
            try clear hcz24_10
            try clear hcz24_2
            try clear hcz24_3
            try clear hcz24_4
            try clear hcz24_5
            try clear hcz24_6
            try clear hcz24_7
            try clear hcz24_8
            try clear hcz24_9
            try clear hcz27_0
            try clear hcz27_1
            try clear hcz27_10
            try clear hcz27_11
            try clear hcz27_2
            try clear hcz27_3
            try clear hcz27_4
            try clear hcz27_5
            try clear hcz27_6
            try clear hcz27_7
            try clear hcz27_8
            try clear hcz27_9
            try clear hcz33_0
            try clear hcz33_1
            try clear hcz33_10
            try clear hcz33_11
            try clear hcz33_2
            try clear hcz33_3
            try clear hcz33_4
            try clear hcz33_5
            try clear hcz33_6
            try clear hcz33_7
            try clear hcz33_8
            try clear hcz33_9
            try clear hcz36_0
            try clear hcz36_1
            try clear hcz36_10
            try clear hcz36_11
            try clear hcz36_2
            try clear hcz36_3
            try clear hcz36_4
            try clear hcz36_5
            try clear hcz36_6
            try clear hcz36_7
            try clear hcz36_8
            try clear hcz36_9
            try clear hcz38_0
            try clear hcz38_1
            try clear hcz38_10
            try clear hcz38_2
            try clear hcz38_3
            try clear hcz38_4
            try clear hcz38_5
            try clear hcz38_6
            try clear hcz38_7
            try clear hcz38_8
            try clear hcz38_9
            try clear hfz10_0
            try clear hfz10_1
            try clear hfz10_10
            try clear hfz10_11
            try clear hfz10_2
            try clear hfz10_3
            try clear hfz10_4
            try clear hfz10_5
            try clear hfz10_6
            try clear hfz10_7
            try clear hfz10_8
            try clear hfz10_9
            try clear hfz12_0
            try clear hfz13_0
            try clear hfz13_1
            try clear hfz13_10
            try clear hfz13_11
            try clear hfz13_2
            try clear hfz13_3
            try clear hfz13_4
            try clear hfz13_5
            try clear hfz13_6
            try clear hfz13_7
            try clear hfz13_8
            try clear hfz13_9
            try clear hfz18_0
            try clear hfz18_1
            try clear hfz18_10
            try clear hfz18_2
            try clear hfz18_3
            try clear hfz18_4
            try clear hfz18_5
            try clear hfz18_6
            try clear hfz18_7
            try clear hfz18_8
            try clear hfz18_9
            try clear hfz22_0
            try clear hfz22_1
            try clear hfz22_10
            try clear hfz22_11
            try clear hfz22_2
            try clear hfz22_3
            try clear hfz22_4
            try clear hfz22_5
            try clear hfz22_6
            try clear hfz22_7
            try clear hfz22_8
            try clear hfz22_9
            try clear hfz24_0
            try clear hfz24_1
            try clear hfz24_10
            try clear hfz24_2
            try clear hfz24_3
            try clear hfz24_4
            try clear hfz24_5
            try clear hfz24_6
            try clear hfz24_7
            try clear hfz24_8
            try clear hfz24_9
            try clear hfz27_0
            try clear hfz27_1
            try clear hfz27_10
            try clear hfz27_11
            try clear hfz27_2
            try clear hfz27_3
            try clear hfz27_4
            try clear hfz27_5
            try clear hfz27_6
            try clear hfz27_7
            try clear hfz27_8
            try clear hfz27_9
            try clear hfz33_0
            try clear hfz33_1
            try clear hfz33_10
            try clear hfz33_11
            try clear hfz33_2
            try clear hfz33_3
            try clear hfz33_4
            try clear hfz33_5
            try clear hfz33_6
            try clear hfz33_7
            try clear hfz33_8
            try clear hfz33_9
            try clear hfz36_0
            try clear hfz36_1
            try clear hfz36_10
            try clear hfz36_11
            try clear hfz36_2
            try clear hfz36_3
            try clear hfz36_4
            try clear hfz36_5
            try clear hfz36_6
            try clear hfz36_7
            try clear hfz36_8
            try clear hfz36_9
            try clear hfz38_0
            try clear hfz38_1
            try clear hfz38_10
            try clear hfz38_2
            try clear hfz38_3
            try clear hfz38_4
            try clear hfz38_5
            try clear hfz38_6
            try clear hfz38_7
            try clear hfz38_8
            try clear hfz38_9
            try clear p2
            obtain ⟨kq, x27_28, rfl, HA, HJ28, BK218, BK219, BK232, HB⟩ := hcut
            cases kq with
            | zero => exact absurd HA.out (by simp [concourseref41_Check.j1])
            | succ kj28 =>
              have H := HA.out
              clear HA
              simp only [concourseref41_Check.j1] at H
              by_cases c39 : x27_28 = true
              · subst c39
                have H1 : (some 12) = some r := by rw [if_pos rfl] at H; exact H
                clear H
                have H := H1
                clear H1
                obtain rfl := Option.some.inj H
                go_wp2
                go_ret
                exact ⟨by first | rfl | (simp [errW_none, errW_some] <;> rfl) | (simp [*, errW_none, errW_some] <;> rfl), by repeat (first | (with_reducible first | exact HB.out | apply below_alloc | apply pw_below_drewN | apply below_drew1 | refine below_set ?_ GE218.out | refine below_set ?_ GE219.out | refine below_set ?_ GE232.out) | exact HB.out)⟩
              · replace c39 := Bool.eq_false_iff.mpr c39
                subst c39
                have H1 : (if a1_1 = 2 then (if t222 = true then (some 17) else (if a1_1 = 3 then (some 17) else (some 0))) else (if a1_1 = 3 then (if t222 = true then (some 0) else (some 17)) else (some 0))) = some r := by rw [if_neg (show ¬ (false = true) by decide)] at H; exact H
                clear H
                have H := H1
                clear H1
                by_cases c40 : a1_1 = 2
                · rw [if_pos c40] at H
                  have c40b0 : (a1_1 == 2) = true := beq_iff_eq.mpr c40
                  have c40b1 : (a1_1 != 2) = false := bne_eq_false_iff_eq.mpr c40
                  clear c40
                  by_cases c41 : t222 = true
                  · subst c41
                    have H1 : (some 17) = some r := by rw [if_pos rfl] at H; exact H
                    clear H
                    have H := H1
                    clear H1
                    obtain rfl := Option.some.inj H
                    have hnb42 := NB219_218.out
                    have hnc42 := NB218_219.out
                    have hnb43 := NB219_232.out
                    have hnc43 := NB232_219.out
                    have hcz44_0 : wc.cell? ⟨gb219, 0, none⟩ = some (.int .u64 a1_0) := (blk_cell BK219.out 0).trans rfl
                    have hcz44_1 : wc.cell? ⟨gb219, 1, none⟩ = some (.int .i64 a1_1) := (blk_cell BK219.out 1).trans rfl
                    have hcz44_2 : wc.cell? ⟨gb219, 2, none⟩ = some (.int .i64 a1_2) := (blk_cell BK219.out 2).trans rfl
                    have hcz44_3 : wc.cell? ⟨gb219, 3, none⟩ = some (.int .i64 a1_3) := (blk_cell BK219.out 3).trans rfl
                    have hcz44_4 : wc.cell? ⟨gb219, 4, none⟩ = some (.int .i64 a1_4) := (blk_cell BK219.out 4).trans rfl
                    have hcz44_5 : wc.cell? ⟨gb219, 5, none⟩ = some (.int .i64 a1_5) := (blk_cell BK219.out 5).trans rfl
                    have hcz44_6 : wc.cell? ⟨gb219, 6, none⟩ = some (.int .i64 a1_6) := (blk_cell BK219.out 6).trans rfl
                    have hcz44_7 : wc.cell? ⟨gb219, 7, none⟩ = some (.int .i64 a1_7) := (blk_cell BK219.out 7).trans rfl
                    have hcz44_8 : wc.cell? ⟨gb219, 8, none⟩ = some (.int .i64 a1_8) := (blk_cell BK219.out 8).trans rfl
                    have hcz44_9 : wc.cell? ⟨gb219, 9, none⟩ = some (.int .i64 a1_9) := (blk_cell BK219.out 9).trans rfl
                    have hcz44_10 : wc.cell? ⟨gb219, 10, none⟩ = some (.int .i64 a1_10) := (blk_cell BK219.out 10).trans rfl
                    have hcz44_11 : wc.cell? ⟨gb219, 11, none⟩ = some (.int .i64 a1_11) := (blk_cell BK219.out 11).trans rfl
                    have hfz44_0 := blk_frozen BK219.out 0
                    have hfz44_1 := blk_frozen BK219.out 1
                    have hfz44_2 := blk_frozen BK219.out 2
                    have hfz44_3 := blk_frozen BK219.out 3
                    have hfz44_4 := blk_frozen BK219.out 4
                    have hfz44_5 := blk_frozen BK219.out 5
                    have hfz44_6 := blk_frozen BK219.out 6
                    have hfz44_7 := blk_frozen BK219.out 7
                    have hfz44_8 := blk_frozen BK219.out 8
                    have hfz44_9 := blk_frozen BK219.out 9
                    have hfz44_10 := blk_frozen BK219.out 10
                    have hfz44_11 := blk_frozen BK219.out 11
                    have hnb45 := NB232_218.out
                    have hnc45 := NB218_232.out
                    have hcz46_0 : wc.cell? ⟨gb232, 0, none⟩ = some (.bool t221) := (blk_cell BK232.out 0).trans rfl
                    have hcz46_1 : wc.cell? ⟨gb232, 1, none⟩ = some (.bool true) := (blk_cell BK232.out 1).trans rfl
                    have hcz46_2 : wc.cell? ⟨gb232, 2, none⟩ = some (.int .i64 t223) := (blk_cell BK232.out 2).trans rfl
                    have hcz46_3 : wc.cell? ⟨gb232, 3, none⟩ = some (.int .i64 t224) := (blk_cell BK232.out 3).trans rfl
                    have hcz46_4 : wc.cell? ⟨gb232, 4, none⟩ = some (.int .i64 t225) := (blk_cell BK232.out 4).trans rfl
                    have hcz46_5 : wc.cell? ⟨gb232, 5, none⟩ = some (.int .i64 t226) := (blk_cell BK232.out 5).trans rfl
                    have hcz46_6 : wc.cell? ⟨gb232, 6, none⟩ = some (.int .i64 t227) := (blk_cell BK232.out 6).trans rfl
                    have hcz46_7 : wc.cell? ⟨gb232, 7, none⟩ = some (.int .i64 t228) := (blk_cell BK232.out 7).trans rfl
                    have hcz46_8 : wc.cell? ⟨gb232, 8, none⟩ = some (.int .i64 t229) := (blk_cell BK232.out 8).trans rfl
                    have hcz46_9 : wc.cell? ⟨gb232, 9, none⟩ = some (.int .i64 t230) := (blk_cell BK232.out 9).trans rfl
                    have hcz46_10 : wc.cell? ⟨gb232, 10, none⟩ = some (.int .i64 t231) := (blk_cell BK232.out 10).trans rfl
                    have hfz46_0 := blk_frozen BK232.out 0
                    have hfz46_1 := blk_frozen BK232.out 1
                    have hfz46_2 := blk_frozen BK232.out 2
                    have hfz46_3 := blk_frozen BK232.out 3
                    have hfz46_4 := blk_frozen BK232.out 4
                    have hfz46_5 := blk_frozen BK232.out 5
                    have hfz46_6 := blk_frozen BK232.out 6
                    have hfz46_7 := blk_frozen BK232.out 7
                    have hfz46_8 := blk_frozen BK232.out 8
                    have hfz46_9 := blk_frozen BK232.out 9
                    have hfz46_10 := blk_frozen BK232.out 10
                    go_wp2
                    go_ret
                    exact ⟨by first | rfl | (simp [errW_none, errW_some] <;> rfl) | (simp [*, errW_none, errW_some] <;> rfl), by repeat (first | (with_reducible first | exact HB.out | apply below_alloc | apply pw_below_drewN | apply below_drew1 | refine below_set ?_ GE218.out | refine below_set ?_ GE219.out | refine below_set ?_ GE232.out) | exact HB.out)⟩
                  · replace c41 := Bool.eq_false_iff.mpr c41
                    subst c41
                    have H1 : (if a1_1 = 3 then (some 17) else (some 0)) = some r := by rw [if_neg (show ¬ (false = true) by decide)] at H; exact H
                    clear H
                    have H := H1
                    clear H1
                    by_cases c47 : a1_1 = 3
                    · rw [if_pos c47] at H
                      have c47b0 : (a1_1 == 3) = true := beq_iff_eq.mpr c47
                      have c47b1 : (a1_1 != 3) = false := bne_eq_false_iff_eq.mpr c47
                      clear c47
                      obtain rfl := Option.some.inj H
                      have hnb48 := NB219_218.out
                      have hnc48 := NB218_219.out
                      have hnb49 := NB219_232.out
                      have hnc49 := NB232_219.out
                      have hcz50_0 : wc.cell? ⟨gb219, 0, none⟩ = some (.int .u64 a1_0) := (blk_cell BK219.out 0).trans rfl
                      have hcz50_1 : wc.cell? ⟨gb219, 1, none⟩ = some (.int .i64 a1_1) := (blk_cell BK219.out 1).trans rfl
                      have hcz50_2 : wc.cell? ⟨gb219, 2, none⟩ = some (.int .i64 a1_2) := (blk_cell BK219.out 2).trans rfl
                      have hcz50_3 : wc.cell? ⟨gb219, 3, none⟩ = some (.int .i64 a1_3) := (blk_cell BK219.out 3).trans rfl
                      have hcz50_4 : wc.cell? ⟨gb219, 4, none⟩ = some (.int .i64 a1_4) := (blk_cell BK219.out 4).trans rfl
                      have hcz50_5 : wc.cell? ⟨gb219, 5, none⟩ = some (.int .i64 a1_5) := (blk_cell BK219.out 5).trans rfl
                      have hcz50_6 : wc.cell? ⟨gb219, 6, none⟩ = some (.int .i64 a1_6) := (blk_cell BK219.out 6).trans rfl
                      have hcz50_7 : wc.cell? ⟨gb219, 7, none⟩ = some (.int .i64 a1_7) := (blk_cell BK219.out 7).trans rfl
                      have hcz50_8 : wc.cell? ⟨gb219, 8, none⟩ = some (.int .i64 a1_8) := (blk_cell BK219.out 8).trans rfl
                      have hcz50_9 : wc.cell? ⟨gb219, 9, none⟩ = some (.int .i64 a1_9) := (blk_cell BK219.out 9).trans rfl
                      have hcz50_10 : wc.cell? ⟨gb219, 10, none⟩ = some (.int .i64 a1_10) := (blk_cell BK219.out 10).trans rfl
                      have hcz50_11 : wc.cell? ⟨gb219, 11, none⟩ = some (.int .i64 a1_11) := (blk_cell BK219.out 11).trans rfl
                      have hfz50_0 := blk_frozen BK219.out 0
                      have hfz50_1 := blk_frozen BK219.out 1
                      have hfz50_2 := blk_frozen BK219.out 2
                      have hfz50_3 := blk_frozen BK219.out 3
                      have hfz50_4 := blk_frozen BK219.out 4
                      have hfz50_5 := blk_frozen BK219.out 5
                      have hfz50_6 := blk_frozen BK219.out 6
                      have hfz50_7 := blk_frozen BK219.out 7
                      have hfz50_8 := blk_frozen BK219.out 8
                      have hfz50_9 := blk_frozen BK219.out 9
                      have hfz50_10 := blk_frozen BK219.out 10
                      have hfz50_11 := blk_frozen BK219.out 11
                      have hnb51 := NB232_218.out
                      have hnc51 := NB218_232.out
                      have hcz52_0 : wc.cell? ⟨gb232, 0, none⟩ = some (.bool t221) := (blk_cell BK232.out 0).trans rfl
                      have hcz52_1 : wc.cell? ⟨gb232, 1, none⟩ = some (.bool false) := (blk_cell BK232.out 1).trans rfl
                      have hcz52_2 : wc.cell? ⟨gb232, 2, none⟩ = some (.int .i64 t223) := (blk_cell BK232.out 2).trans rfl
                      have hcz52_3 : wc.cell? ⟨gb232, 3, none⟩ = some (.int .i64 t224) := (blk_cell BK232.out 3).trans rfl
                      have hcz52_4 : wc.cell? ⟨gb232, 4, none⟩ = some (.int .i64 t225) := (blk_cell BK232.out 4).trans rfl
                      have hcz52_5 : wc.cell? ⟨gb232, 5, none⟩ = some (.int .i64 t226) := (blk_cell BK232.out 5).trans rfl
                      have hcz52_6 : wc.cell? ⟨gb232, 6, none⟩ = some (.int .i64 t227) := (blk_cell BK232.out 6).trans rfl
                      have hcz52_7 : wc.cell? ⟨gb232, 7, none⟩ = some (.int .i64 t228) := (blk_cell BK232.out 7).trans rfl
                      have hcz52_8 : wc.cell? ⟨gb232, 8, none⟩ = some (.int .i64 t229) := (blk_cell BK232.out 8).trans rfl
                      have hcz52_9 : wc.cell? ⟨gb232, 9, none⟩ = some (.int .i64 t230) := (blk_cell BK232.out 9).trans rfl
                      have hcz52_10 : wc.cell? ⟨gb232, 10, none⟩ = some (.int .i64 t231) := (blk_cell BK232.out 10).trans rfl
                      have hfz52_0 := blk_frozen BK232.out 0
                      have hfz52_1 := blk_frozen BK232.out 1
                      have hfz52_2 := blk_frozen BK232.out 2
                      have hfz52_3 := blk_frozen BK232.out 3
                      have hfz52_4 := blk_frozen BK232.out 4
                      have hfz52_5 := blk_frozen BK232.out 5
                      have hfz52_6 := blk_frozen BK232.out 6
                      have hfz52_7 := blk_frozen BK232.out 7
                      have hfz52_8 := blk_frozen BK232.out 8
                      have hfz52_9 := blk_frozen BK232.out 9
                      have hfz52_10 := blk_frozen BK232.out 10
                      go_wp2
                      go_ret
                      exact ⟨by first | rfl | (simp [errW_none, errW_some] <;> rfl) | (simp [*, errW_none, errW_some] <;> rfl), by repeat (first | (with_reducible first | exact HB.out | apply below_alloc | apply pw_below_drewN | apply below_drew1 | refine below_set ?_ GE218.out | refine below_set ?_ GE219.out | refine below_set ?_ GE232.out) | exact HB.out)⟩
                    · rw [if_neg c47] at H
                      have c47b0 : (a1_1 == 3) = false := beq_eq_false_iff_ne.mpr c47
                      have c47b1 : (a1_1 != 3) = true := bne_iff_ne.mpr c47
                      obtain rfl := Option.some.inj H
                      have hnb53 := NB219_218.out
                      have hnc53 := NB218_219.out
                      have hnb54 := NB219_232.out
                      have hnc54 := NB232_219.out
                      have hcz55_0 : wc.cell? ⟨gb219, 0, none⟩ = some (.int .u64 a1_0) := (blk_cell BK219.out 0).trans rfl
                      have hcz55_1 : wc.cell? ⟨gb219, 1, none⟩ = some (.int .i64 a1_1) := (blk_cell BK219.out 1).trans rfl
                      have hcz55_2 : wc.cell? ⟨gb219, 2, none⟩ = some (.int .i64 a1_2) := (blk_cell BK219.out 2).trans rfl
                      have hcz55_3 : wc.cell? ⟨gb219, 3, none⟩ = some (.int .i64 a1_3) := (blk_cell BK219.out 3).trans rfl
                      have hcz55_4 : wc.cell? ⟨gb219, 4, none⟩ = some (.int .i64 a1_4) := (blk_cell BK219.out 4).trans rfl
                      have hcz55_5 : wc.cell? ⟨gb219, 5, none⟩ = some (.int .i64 a1_5) := (blk_cell BK219.out 5).trans rfl
                      have hcz55_6 : wc.cell? ⟨gb219, 6, none⟩ = some (.int .i64 a1_6) := (blk_cell BK219.out 6).trans rfl
                      have hcz55_7 : wc.cell? ⟨gb219, 7, none⟩ = some (.int .i64 a1_7) := (blk_cell BK219.out 7).trans rfl
                      have hcz55_8 : wc.cell? ⟨gb219, 8, none⟩ = some (.int .i64 a1_8) := (blk_cell BK219.out 8).trans rfl
                      have hcz55_9 : wc.cell? ⟨gb219, 9, none⟩ = some (.int .i64 a1_9) := (blk_cell BK219.out 9).trans rfl
                      have hcz55_10 : wc.cell? ⟨gb219, 10, none⟩ = some (.int .i64 a1_10) := (blk_cell BK219.out 10).trans rfl
                      have hcz55_11 : wc.cell? ⟨gb219, 11, none⟩ = some (.int .i64 a1_11) := (blk_cell BK219.out 11).trans rfl
                      have hfz55_0 := blk_frozen BK219.out 0
                      have hfz55_1 := blk_frozen BK219.out 1
                      have hfz55_2 := blk_frozen BK219.out 2
                      have hfz55_3 := blk_frozen BK219.out 3
                      have hfz55_4 := blk_frozen BK219.out 4
                      have hfz55_5 := blk_frozen BK219.out 5
                      have hfz55_6 := blk_frozen BK219.out 6
                      have hfz55_7 := blk_frozen BK219.out 7
                      have hfz55_8 := blk_frozen BK219.out 8
                      have hfz55_9 := blk_frozen BK219.out 9
                      have hfz55_10 := blk_frozen BK219.out 10
                      have hfz55_11 := blk_frozen BK219.out 11
                      have hnb56 := NB232_218.out
                      have hnc56 := NB218_232.out
                      have hcz57_0 : wc.cell? ⟨gb232, 0, none⟩ = some (.bool t221) := (blk_cell BK232.out 0).trans rfl
                      have hcz57_1 : wc.cell? ⟨gb232, 1, none⟩ = some (.bool false) := (blk_cell BK232.out 1).trans rfl
                      have hcz57_2 : wc.cell? ⟨gb232, 2, none⟩ = some (.int .i64 t223) := (blk_cell BK232.out 2).trans rfl
                      have hcz57_3 : wc.cell? ⟨gb232, 3, none⟩ = some (.int .i64 t224) := (blk_cell BK232.out 3).trans rfl
                      have hcz57_4 : wc.cell? ⟨gb232, 4, none⟩ = some (.int .i64 t225) := (blk_cell BK232.out 4).trans rfl
                      have hcz57_5 : wc.cell? ⟨gb232, 5, none⟩ = some (.int .i64 t226) := (blk_cell BK232.out 5).trans rfl
                      have hcz57_6 : wc.cell? ⟨gb232, 6, none⟩ = some (.int .i64 t227) := (blk_cell BK232.out 6).trans rfl
                      have hcz57_7 : wc.cell? ⟨gb232, 7, none⟩ = some (.int .i64 t228) := (blk_cell BK232.out 7).trans rfl
                      have hcz57_8 : wc.cell? ⟨gb232, 8, none⟩ = some (.int .i64 t229) := (blk_cell BK232.out 8).trans rfl
                      have hcz57_9 : wc.cell? ⟨gb232, 9, none⟩ = some (.int .i64 t230) := (blk_cell BK232.out 9).trans rfl
                      have hcz57_10 : wc.cell? ⟨gb232, 10, none⟩ = some (.int .i64 t231) := (blk_cell BK232.out 10).trans rfl
                      have hfz57_0 := blk_frozen BK232.out 0
                      have hfz57_1 := blk_frozen BK232.out 1
                      have hfz57_2 := blk_frozen BK232.out 2
                      have hfz57_3 := blk_frozen BK232.out 3
                      have hfz57_4 := blk_frozen BK232.out 4
                      have hfz57_5 := blk_frozen BK232.out 5
                      have hfz57_6 := blk_frozen BK232.out 6
                      have hfz57_7 := blk_frozen BK232.out 7
                      have hfz57_8 := blk_frozen BK232.out 8
                      have hfz57_9 := blk_frozen BK232.out 9
                      have hfz57_10 := blk_frozen BK232.out 10
                      go_wp2
                      go_ret
                      exact ⟨by first | rfl | (simp [errW_none, errW_some] <;> rfl) | (simp [*, errW_none, errW_some] <;> rfl), by repeat (first | (with_reducible first | exact HB.out | apply below_alloc | apply pw_below_drewN | apply below_drew1 | refine below_set ?_ GE218.out | refine below_set ?_ GE219.out | refine below_set ?_ GE232.out) | exact HB.out)⟩
                · rw [if_neg c40] at H
                  have c40b0 : (a1_1 == 2) = false := beq_eq_false_iff_ne.mpr c40
                  have c40b1 : (a1_1 != 2) = true := bne_iff_ne.mpr c40
                  by_cases c58 : a1_1 = 3
                  · rw [if_pos c58] at H
                    have c58b0 : (a1_1 == 3) = true := beq_iff_eq.mpr c58
                    have c58b1 : (a1_1 != 3) = false := bne_eq_false_iff_eq.mpr c58
                    clear c58
                    by_cases c59 : t222 = true
                    · subst c59
                      have H1 : (some 0) = some r := by rw [if_pos rfl] at H; exact H
                      clear H
                      have H := H1
                      clear H1
                      obtain rfl := Option.some.inj H
                      have hnb60 := NB219_218.out
                      have hnc60 := NB218_219.out
                      have hnb61 := NB219_232.out
                      have hnc61 := NB232_219.out
                      have hcz62_0 : wc.cell? ⟨gb219, 0, none⟩ = some (.int .u64 a1_0) := (blk_cell BK219.out 0).trans rfl
                      have hcz62_1 : wc.cell? ⟨gb219, 1, none⟩ = some (.int .i64 a1_1) := (blk_cell BK219.out 1).trans rfl
                      have hcz62_2 : wc.cell? ⟨gb219, 2, none⟩ = some (.int .i64 a1_2) := (blk_cell BK219.out 2).trans rfl
                      have hcz62_3 : wc.cell? ⟨gb219, 3, none⟩ = some (.int .i64 a1_3) := (blk_cell BK219.out 3).trans rfl
                      have hcz62_4 : wc.cell? ⟨gb219, 4, none⟩ = some (.int .i64 a1_4) := (blk_cell BK219.out 4).trans rfl
                      have hcz62_5 : wc.cell? ⟨gb219, 5, none⟩ = some (.int .i64 a1_5) := (blk_cell BK219.out 5).trans rfl
                      have hcz62_6 : wc.cell? ⟨gb219, 6, none⟩ = some (.int .i64 a1_6) := (blk_cell BK219.out 6).trans rfl
                      have hcz62_7 : wc.cell? ⟨gb219, 7, none⟩ = some (.int .i64 a1_7) := (blk_cell BK219.out 7).trans rfl
                      have hcz62_8 : wc.cell? ⟨gb219, 8, none⟩ = some (.int .i64 a1_8) := (blk_cell BK219.out 8).trans rfl
                      have hcz62_9 : wc.cell? ⟨gb219, 9, none⟩ = some (.int .i64 a1_9) := (blk_cell BK219.out 9).trans rfl
                      have hcz62_10 : wc.cell? ⟨gb219, 10, none⟩ = some (.int .i64 a1_10) := (blk_cell BK219.out 10).trans rfl
                      have hcz62_11 : wc.cell? ⟨gb219, 11, none⟩ = some (.int .i64 a1_11) := (blk_cell BK219.out 11).trans rfl
                      have hfz62_0 := blk_frozen BK219.out 0
                      have hfz62_1 := blk_frozen BK219.out 1
                      have hfz62_2 := blk_frozen BK219.out 2
                      have hfz62_3 := blk_frozen BK219.out 3
                      have hfz62_4 := blk_frozen BK219.out 4
                      have hfz62_5 := blk_frozen BK219.out 5
                      have hfz62_6 := blk_frozen BK219.out 6
                      have hfz62_7 := blk_frozen BK219.out 7
                      have hfz62_8 := blk_frozen BK219.out 8
                      have hfz62_9 := blk_frozen BK219.out 9
                      have hfz62_10 := blk_frozen BK219.out 10
                      have hfz62_11 := blk_frozen BK219.out 11
                      have hnb63 := NB232_218.out
                      have hnc63 := NB218_232.out
                      have hcz64_0 : wc.cell? ⟨gb232, 0, none⟩ = some (.bool t221) := (blk_cell BK232.out 0).trans rfl
                      have hcz64_1 : wc.cell? ⟨gb232, 1, none⟩ = some (.bool true) := (blk_cell BK232.out 1).trans rfl
                      have hcz64_2 : wc.cell? ⟨gb232, 2, none⟩ = some (.int .i64 t223) := (blk_cell BK232.out 2).trans rfl
                      have hcz64_3 : wc.cell? ⟨gb232, 3, none⟩ = some (.int .i64 t224) := (blk_cell BK232.out 3).trans rfl
                      have hcz64_4 : wc.cell? ⟨gb232, 4, none⟩ = some (.int .i64 t225) := (blk_cell BK232.out 4).trans rfl
                      have hcz64_5 : wc.cell? ⟨gb232, 5, none⟩ = some (.int .i64 t226) := (blk_cell BK232.out 5).trans rfl
                      have hcz64_6 : wc.cell? ⟨gb232, 6, none⟩ = some (.int .i64 t227) := (blk_cell BK232.out 6).trans rfl
                      have hcz64_7 : wc.cell? ⟨gb232, 7, none⟩ = some (.int .i64 t228) := (blk_cell BK232.out 7).trans rfl
                      have hcz64_8 : wc.cell? ⟨gb232, 8, none⟩ = some (.int .i64 t229) := (blk_cell BK232.out 8).trans rfl
                      have hcz64_9 : wc.cell? ⟨gb232, 9, none⟩ = some (.int .i64 t230) := (blk_cell BK232.out 9).trans rfl
                      have hcz64_10 : wc.cell? ⟨gb232, 10, none⟩ = some (.int .i64 t231) := (blk_cell BK232.out 10).trans rfl
                      have hfz64_0 := blk_frozen BK232.out 0
                      have hfz64_1 := blk_frozen BK232.out 1
                      have hfz64_2 := blk_frozen BK232.out 2
                      have hfz64_3 := blk_frozen BK232.out 3
                      have hfz64_4 := blk_frozen BK232.out 4
                      have hfz64_5 := blk_frozen BK232.out 5
                      have hfz64_6 := blk_frozen BK232.out 6
                      have hfz64_7 := blk_frozen BK232.out 7
                      have hfz64_8 := blk_frozen BK232.out 8
                      have hfz64_9 := blk_frozen BK232.out 9
                      have hfz64_10 := blk_frozen BK232.out 10
                      go_wp2
                      go_ret
                      exact ⟨by first | rfl | (simp [errW_none, errW_some] <;> rfl) | (simp [*, errW_none, errW_some] <;> rfl), by repeat (first | (with_reducible first | exact HB.out | apply below_alloc | apply pw_below_drewN | apply below_drew1 | refine below_set ?_ GE218.out | refine below_set ?_ GE219.out | refine below_set ?_ GE232.out) | exact HB.out)⟩
                    · replace c59 := Bool.eq_false_iff.mpr c59
                      subst c59
                      have H1 : (some 17) = some r := by rw [if_neg (show ¬ (false = true) by decide)] at H; exact H
                      clear H
                      have H := H1
                      clear H1
                      obtain rfl := Option.some.inj H
                      have hnb65 := NB219_218.out
                      have hnc65 := NB218_219.out
                      have hnb66 := NB219_232.out
                      have hnc66 := NB232_219.out
                      have hcz67_0 : wc.cell? ⟨gb219, 0, none⟩ = some (.int .u64 a1_0) := (blk_cell BK219.out 0).trans rfl
                      have hcz67_1 : wc.cell? ⟨gb219, 1, none⟩ = some (.int .i64 a1_1) := (blk_cell BK219.out 1).trans rfl
                      have hcz67_2 : wc.cell? ⟨gb219, 2, none⟩ = some (.int .i64 a1_2) := (blk_cell BK219.out 2).trans rfl
                      have hcz67_3 : wc.cell? ⟨gb219, 3, none⟩ = some (.int .i64 a1_3) := (blk_cell BK219.out 3).trans rfl
                      have hcz67_4 : wc.cell? ⟨gb219, 4, none⟩ = some (.int .i64 a1_4) := (blk_cell BK219.out 4).trans rfl
                      have hcz67_5 : wc.cell? ⟨gb219, 5, none⟩ = some (.int .i64 a1_5) := (blk_cell BK219.out 5).trans rfl
                      have hcz67_6 : wc.cell? ⟨gb219, 6, none⟩ = some (.int .i64 a1_6) := (blk_cell BK219.out 6).trans rfl
                      have hcz67_7 : wc.cell? ⟨gb219, 7, none⟩ = some (.int .i64 a1_7) := (blk_cell BK219.out 7).trans rfl
                      have hcz67_8 : wc.cell? ⟨gb219, 8, none⟩ = some (.int .i64 a1_8) := (blk_cell BK219.out 8).trans rfl
                      have hcz67_9 : wc.cell? ⟨gb219, 9, none⟩ = some (.int .i64 a1_9) := (blk_cell BK219.out 9).trans rfl
                      have hcz67_10 : wc.cell? ⟨gb219, 10, none⟩ = some (.int .i64 a1_10) := (blk_cell BK219.out 10).trans rfl
                      have hcz67_11 : wc.cell? ⟨gb219, 11, none⟩ = some (.int .i64 a1_11) := (blk_cell BK219.out 11).trans rfl
                      have hfz67_0 := blk_frozen BK219.out 0
                      have hfz67_1 := blk_frozen BK219.out 1
                      have hfz67_2 := blk_frozen BK219.out 2
                      have hfz67_3 := blk_frozen BK219.out 3
                      have hfz67_4 := blk_frozen BK219.out 4
                      have hfz67_5 := blk_frozen BK219.out 5
                      have hfz67_6 := blk_frozen BK219.out 6
                      have hfz67_7 := blk_frozen BK219.out 7
                      have hfz67_8 := blk_frozen BK219.out 8
                      have hfz67_9 := blk_frozen BK219.out 9
                      have hfz67_10 := blk_frozen BK219.out 10
                      have hfz67_11 := blk_frozen BK219.out 11
                      have hnb68 := NB232_218.out
                      have hnc68 := NB218_232.out
                      have hcz69_0 : wc.cell? ⟨gb232, 0, none⟩ = some (.bool t221) := (blk_cell BK232.out 0).trans rfl
                      have hcz69_1 : wc.cell? ⟨gb232, 1, none⟩ = some (.bool false) := (blk_cell BK232.out 1).trans rfl
                      have hcz69_2 : wc.cell? ⟨gb232, 2, none⟩ = some (.int .i64 t223) := (blk_cell BK232.out 2).trans rfl
                      have hcz69_3 : wc.cell? ⟨gb232, 3, none⟩ = some (.int .i64 t224) := (blk_cell BK232.out 3).trans rfl
                      have hcz69_4 : wc.cell? ⟨gb232, 4, none⟩ = some (.int .i64 t225) := (blk_cell BK232.out 4).trans rfl
                      have hcz69_5 : wc.cell? ⟨gb232, 5, none⟩ = some (.int .i64 t226) := (blk_cell BK232.out 5).trans rfl
                      have hcz69_6 : wc.cell? ⟨gb232, 6, none⟩ = some (.int .i64 t227) := (blk_cell BK232.out 6).trans rfl
                      have hcz69_7 : wc.cell? ⟨gb232, 7, none⟩ = some (.int .i64 t228) := (blk_cell BK232.out 7).trans rfl
                      have hcz69_8 : wc.cell? ⟨gb232, 8, none⟩ = some (.int .i64 t229) := (blk_cell BK232.out 8).trans rfl
                      have hcz69_9 : wc.cell? ⟨gb232, 9, none⟩ = some (.int .i64 t230) := (blk_cell BK232.out 9).trans rfl
                      have hcz69_10 : wc.cell? ⟨gb232, 10, none⟩ = some (.int .i64 t231) := (blk_cell BK232.out 10).trans rfl
                      have hfz69_0 := blk_frozen BK232.out 0
                      have hfz69_1 := blk_frozen BK232.out 1
                      have hfz69_2 := blk_frozen BK232.out 2
                      have hfz69_3 := blk_frozen BK232.out 3
                      have hfz69_4 := blk_frozen BK232.out 4
                      have hfz69_5 := blk_frozen BK232.out 5
                      have hfz69_6 := blk_frozen BK232.out 6
                      have hfz69_7 := blk_frozen BK232.out 7
                      have hfz69_8 := blk_frozen BK232.out 8
                      have hfz69_9 := blk_frozen BK232.out 9
                      have hfz69_10 := blk_frozen BK232.out 10
                      go_wp2
                      go_ret
                      exact ⟨by first | rfl | (simp [errW_none, errW_some] <;> rfl) | (simp [*, errW_none, errW_some] <;> rfl), by repeat (first | (with_reducible first | exact HB.out | apply below_alloc | apply pw_below_drewN | apply below_drew1 | refine below_set ?_ GE218.out | refine below_set ?_ GE219.out | refine below_set ?_ GE232.out) | exact HB.out)⟩
                  · rw [if_neg c58] at H
                    have c58b0 : (a1_1 == 3) = false := beq_eq_false_iff_ne.mpr c58
                    have c58b1 : (a1_1 != 3) = true := bne_iff_ne.mpr c58
                    obtain rfl := Option.some.inj H
                    have hnb70 := NB219_218.out
                    have hnc70 := NB218_219.out
                    have hnb71 := NB219_232.out
                    have hnc71 := NB232_219.out
                    have hcz72_0 : wc.cell? ⟨gb219, 0, none⟩ = some (.int .u64 a1_0) := (blk_cell BK219.out 0).trans rfl
                    have hcz72_1 : wc.cell? ⟨gb219, 1, none⟩ = some (.int .i64 a1_1) := (blk_cell BK219.out 1).trans rfl
                    have hcz72_2 : wc.cell? ⟨gb219, 2, none⟩ = some (.int .i64 a1_2) := (blk_cell BK219.out 2).trans rfl
                    have hcz72_3 : wc.cell? ⟨gb219, 3, none⟩ = some (.int .i64 a1_3) := (blk_cell BK219.out 3).trans rfl
                    have hcz72_4 : wc.cell? ⟨gb219, 4, none⟩ = some (.int .i64 a1_4) := (blk_cell BK219.out 4).trans rfl
                    have hcz72_5 : wc.cell? ⟨gb219, 5, none⟩ = some (.int .i64 a1_5) := (blk_cell BK219.out 5).trans rfl
                    have hcz72_6 : wc.cell? ⟨gb219, 6, none⟩ = some (.int .i64 a1_6) := (blk_cell BK219.out 6).trans rfl
                    have hcz72_7 : wc.cell? ⟨gb219, 7, none⟩ = some (.int .i64 a1_7) := (blk_cell BK219.out 7).trans rfl
                    have hcz72_8 : wc.cell? ⟨gb219, 8, none⟩ = some (.int .i64 a1_8) := (blk_cell BK219.out 8).trans rfl
                    have hcz72_9 : wc.cell? ⟨gb219, 9, none⟩ = some (.int .i64 a1_9) := (blk_cell BK219.out 9).trans rfl
                    have hcz72_10 : wc.cell? ⟨gb219, 10, none⟩ = some (.int .i64 a1_10) := (blk_cell BK219.out 10).trans rfl
                    have hcz72_11 : wc.cell? ⟨gb219, 11, none⟩ = some (.int .i64 a1_11) := (blk_cell BK219.out 11).trans rfl
                    have hfz72_0 := blk_frozen BK219.out 0
                    have hfz72_1 := blk_frozen BK219.out 1
                    have hfz72_2 := blk_frozen BK219.out 2
                    have hfz72_3 := blk_frozen BK219.out 3
                    have hfz72_4 := blk_frozen BK219.out 4
                    have hfz72_5 := blk_frozen BK219.out 5
                    have hfz72_6 := blk_frozen BK219.out 6
                    have hfz72_7 := blk_frozen BK219.out 7
                    have hfz72_8 := blk_frozen BK219.out 8
                    have hfz72_9 := blk_frozen BK219.out 9
                    have hfz72_10 := blk_frozen BK219.out 10
                    have hfz72_11 := blk_frozen BK219.out 11
                    go_wp2
                    go_ret
                    exact ⟨by first | rfl | (simp [errW_none, errW_some] <;> rfl) | (simp [*, errW_none, errW_some] <;> rfl), by repeat (first | (with_reducible first | exact HB.out | apply below_alloc | apply pw_below_drewN | apply below_drew1 | refine below_set ?_ GE218.out | refine below_set ?_ GE219.out | refine below_set ?_ GE232.out) | exact HB.out)⟩
  · replace c4 := Bool.eq_false_iff.mpr c4
    subst c4
    have H1 : (some 1) = some r := by rw [if_neg (show ¬ (false = true) by decide)] at H; exact H
    clear H
    have H := H1
    clear H1
    obtain rfl := Option.some.inj H
    go_enter Try.func16, Try.ntmps16
    go_wp2_with (first | ((with_reducible refine gate_dst (N := 2) rfl ?_); refine box_event ?hg (N := 2) ?hd (cs := #[.slice A0_0 l0_0.length c0_0]) (t := 44) ?hr ?_; (case hd => rfl); (case hg => rfl); (case hr => first | (go_simp; done) | (go_simp; rfl)); intro gb218 hg w73 hbox hb; have n0_ := Aside0.mk (below_step (by repeat (first | (with_reducible first | exact HB.out | apply below_alloc | apply pw_below_drewN | apply below_drew1) | exact HB.out)) hb); have n1_ := Aside0.mk (hbox); have n2_ := Aside0.mk ((by rw [hg]; exact (below_size (by repeat (first | (with_reducible first | exact HB.out | apply below_alloc | apply pw_below_drewN | apply below_drew1) | exact HB.out))) : w.heap.size ≤ gb218)); have n3_ := Aside0.mk ((by rw [hg]; exact (below_size (by repeat (first | (with_reducible first | exact HB.out | apply below_alloc | apply pw_below_drewN | apply below_drew1) | exact HB.out))) : w.heap.size ≤ gb218)); clear HB; have HB := n0_; have BK218 := n1_; have GW218 := n2_; have GE218 := n3_; clear n0_ n1_ n2_ n3_; clear hb hbox hg) | ((with_reducible refine gate_dst (N := 3) rfl ?_); refine box_event ?hg (N := 3) ?hd (cs := #[.int .u64 a1_0, .int .i64 a1_1, .int .i64 a1_2, .int .i64 a1_3, .int .i64 a1_4, .int .i64 a1_5, .int .i64 a1_6, .int .i64 a1_7, .int .i64 a1_8, .int .i64 a1_9, .int .i64 a1_10, .int .i64 a1_11]) (t := 26) ?hr ?_; (case hd => rfl); (case hg => rfl); (case hr => first | (go_simp; done) | (go_simp; rfl)); intro gb219 hg w74 hbox hb; have n0_ := Aside0.mk (blk_below (g := gb218) (o := .cells #[.slice A0_0 l0_0.length c0_0] 44 (0, 0)) (by (with_reducible repeat (first | refine blk_drewN ?_ _ | refine blk_drew ?_ | refine blk_alloc ?_ _)); exact BK218.out) hb); have n1_ := Aside0.mk (below_step (by repeat (first | (with_reducible first | exact HB.out | apply below_alloc | apply pw_below_drewN | apply below_drew1 | refine below_set ?_ GE218.out) | exact HB.out)) hb); have n2_ := Aside0.mk (hbox); have n3_ := Aside0.mk ((by rw [hg]; exact (below_size (by repeat (first | (with_reducible first | exact HB.out | apply below_alloc | apply pw_below_drewN | apply below_drew1 | refine below_set ?_ GE218.out) | exact HB.out))) : w.heap.size ≤ gb219)); have n4_ := Aside0.mk ((by rw [hg]; exact (below_size (by repeat (first | (with_reducible first | exact HB.out | apply below_alloc | apply pw_below_drewN | apply below_drew1 | refine below_set ?_ GE218.out) | exact HB.out))) : w.heap.size ≤ gb219)); have n5_ := Aside0.mk ((by rw [hg]; exact Nat.ne_of_lt (blk_lt (g := gb218) (o := .cells #[.slice A0_0 l0_0.length c0_0] 44 (0, 0)) (by (with_reducible repeat (first | refine blk_drewN ?_ _ | refine blk_drew ?_ | refine blk_alloc ?_ _)); exact BK218.out)) : gb218 ≠ gb219)); have n6_ := Aside0.mk ((by rw [hg]; exact Nat.ne_of_gt (blk_lt (g := gb218) (o := .cells #[.slice A0_0 l0_0.length c0_0] 44 (0, 0)) (by (with_reducible repeat (first | refine blk_drewN ?_ _ | refine blk_drew ?_ | refine blk_alloc ?_ _)); exact BK218.out)) : gb219 ≠ gb218)); clear BK218; clear HB; have BK218 := n0_; have HB := n1_; have BK219 := n2_; have GW219 := n3_; have GE219 := n4_; have NB218_219 := n5_; have NB219_218 := n6_; clear n0_ n1_ n2_ n3_ n4_ n5_ n6_; clear hb hbox hg; have hnb75 := NB219_218.out; have hnc75 := NB218_219.out; have hcz76_0 : w74.cell? ⟨gb219, 0, none⟩ = some (.int .u64 a1_0) := (blk_cell BK219.out 0).trans rfl; have hcz76_1 : w74.cell? ⟨gb219, 1, none⟩ = some (.int .i64 a1_1) := (blk_cell BK219.out 1).trans rfl; have hcz76_2 : w74.cell? ⟨gb219, 2, none⟩ = some (.int .i64 a1_2) := (blk_cell BK219.out 2).trans rfl; have hcz76_3 : w74.cell? ⟨gb219, 3, none⟩ = some (.int .i64 a1_3) := (blk_cell BK219.out 3).trans rfl; have hcz76_4 : w74.cell? ⟨gb219, 4, none⟩ = some (.int .i64 a1_4) := (blk_cell BK219.out 4).trans rfl; have hcz76_5 : w74.cell? ⟨gb219, 5, none⟩ = some (.int .i64 a1_5) := (blk_cell BK219.out 5).trans rfl; have hcz76_6 : w74.cell? ⟨gb219, 6, none⟩ = some (.int .i64 a1_6) := (blk_cell BK219.out 6).trans rfl; have hcz76_7 : w74.cell? ⟨gb219, 7, none⟩ = some (.int .i64 a1_7) := (blk_cell BK219.out 7).trans rfl; have hcz76_8 : w74.cell? ⟨gb219, 8, none⟩ = some (.int .i64 a1_8) := (blk_cell BK219.out 8).trans rfl; have hcz76_9 : w74.cell? ⟨gb219, 9, none⟩ = some (.int .i64 a1_9) := (blk_cell BK219.out 9).trans rfl; have hcz76_10 : w74.cell? ⟨gb219, 10, none⟩ = some (.int .i64 a1_10) := (blk_cell BK219.out 10).trans rfl; have hcz76_11 : w74.cell? ⟨gb219, 11, none⟩ = some (.int .i64 a1_11) := (blk_cell BK219.out 11).trans rfl; have hfz76_0 := blk_frozen BK219.out 0; have hfz76_1 := blk_frozen BK219.out 1; have hfz76_2 := blk_frozen BK219.out 2; have hfz76_3 := blk_frozen BK219.out 3; have hfz76_4 := blk_frozen BK219.out 4; have hfz76_5 := blk_frozen BK219.out 5; have hfz76_6 := blk_frozen BK219.out 6; have hfz76_7 := blk_frozen BK219.out 7; have hfz76_8 := blk_frozen BK219.out 8; have hfz76_9 := blk_frozen BK219.out 9; have hfz76_10 := blk_frozen BK219.out 10; have hfz76_11 := blk_frozen BK219.out 11) | ((with_reducible refine gate_callee (f := 29) rfl ?_); refine goesL_ (some 7) rfl rfl Try.func29 (by kernel_rfl) rfl #[.agg #[.int .u64 a1_0, .int .i64 a1_1, .int .i64 a1_2, .int .i64 a1_3, .int .i64 a1_4, .int .i64 a1_5, .int .i64 a1_6, .int .i64 a1_7, .int .i64 a1_8, .int .i64 a1_9, .int .i64 a1_10, .int .i64 a1_11]] rfl (by (try simp only [List.map_toArray, List.map_cons, List.map_nil]); first | done | rfl | (simp only [List.length_drop, List.length_take]; rfl)) ?_; (with_reducible refine (concourseref41_Form.calls k a1_0 a1_1 a1_2 a1_3 a1_4 a1_5 a1_6 a1_7 a1_8 a1_9 a1_10 a1_11 false _ A3.out).mono ?_); rintro e w77 ⟨rfl, hb⟩; refine ⟨_, rfl, ?_⟩; have n0_ := Aside0.mk (blk_below (g := gb218) (o := .cells #[.slice A0_0 l0_0.length c0_0] 44 (0, 0)) (by (with_reducible repeat (first | refine blk_drewN ?_ _ | refine blk_drew ?_ | refine blk_alloc ?_ _)); exact BK218.out) hb); have n1_ := Aside0.mk (blk_below (g := gb219) (o := .cells #[.int .u64 a1_0, .int .i64 a1_1, .int .i64 a1_2, .int .i64 a1_3, .int .i64 a1_4, .int .i64 a1_5, .int .i64 a1_6, .int .i64 a1_7, .int .i64 a1_8, .int .i64 a1_9, .int .i64 a1_10, .int .i64 a1_11] 26 (0, 0)) (by (with_reducible repeat (first | refine blk_drewN ?_ _ | refine blk_drew ?_ | refine blk_alloc ?_ _)); exact BK219.out) hb); have n2_ := Aside0.mk (below_step (by repeat (first | (with_reducible first | exact HB.out | apply below_alloc | apply pw_below_drewN | apply below_drew1 | refine below_set ?_ GE218.out | refine below_set ?_ GE219.out) | exact HB.out)) hb); clear BK218; clear BK219; clear HB; have BK218 := n0_; have BK219 := n1_; have HB := n2_; clear n0_ n1_ n2_; (try clear hb); (try clear hb2); (try clear hk); (try clear hi)))
    go_ret
    exact ⟨by first | rfl | (simp [errW_none, errW_some] <;> rfl) | (simp [*, errW_none, errW_some] <;> rfl), by repeat (first | (with_reducible first | exact HB.out | apply below_alloc | apply pw_below_drewN | apply below_drew1 | refine below_set ?_ GE218.out | refine below_set ?_ GE219.out) | exact HB.out)⟩

end Go.Proofs.Ytdnhmlpjohojdaa.R
