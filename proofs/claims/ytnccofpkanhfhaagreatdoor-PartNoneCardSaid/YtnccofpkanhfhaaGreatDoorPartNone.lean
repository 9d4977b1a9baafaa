/-
  The example of chapter 31 (awake), and a partition that is not there: PartNone, walked.
-/
import Derived.Test.YtnccofpkanhfhaaGreatDoorPartDoAdd
import Derived.Test.YtnccofpkanhfhaaGreatDoorR10
import Derived.Deep.RegionHeld3
import Derived.Deep.DrawnRows
set_option linter.unusedVariables false
set_option linter.unusedSimpArgs false
namespace Go.Proofs.YtnccofpkanhfhaaGreatDoor.Part
open Go.RowKit Go.Maps Go.WideMaps Go.Proofs.YtnccofpkanhfhaaGreatDoor.Tab Go.Proofs.YtnccofpkanhfhaaGreatDoor.R Go.Proofs.YtnccofpkanhfhaaGreatDoorW.PrintWords Go.Proofs.YtnccofpkanhfhaaGreatDoorW.PrintLast Go.Proofs.YtnccofpkanhfhaaGreatDoorW.PrintMore
variable {base bs b4 b6 : Nat} {W : World} {p : PS} {a : AR}
def sA : ByteArray := ⟨#[97]⟩
def exA : AR := ⟨sA, ⟨#[]⟩, 5, 0⟩
theorem sA_size : sA.size = 1 := rfl
theorem none0_zs : Zs none0 := ⟨by decide, by decide, by decide, by decide⟩
theorem none0_lg : Lg none0 := ⟨rfl, by decide, fun q hq => by cases hq⟩
theorem zs_of {p : PS} {z : Int} (h0 : p.zk = 0) (h1 : p.zc = z) (h2 : p.zh = 0) (h3 : p.zl = 0) (hz : 0 ≤ z ∧ z ≤ 1000) : Zs p ∧ size p = z :=
  ⟨⟨by omega, by omega, by omega, by omega⟩, by unfold size; omega⟩
theorem expd_none0 (now : Int) : expd none0 now = none0 := rfl
set_option maxRecDepth 100000 in
set_option maxHeartbeats 1000000 in
theorem awake_ (w : World) : Calls Tryz.prog 7 #[] w fun e w' => e = .returned (.bool true) ∧ Below w.heap.size w w' := by
  go_enter Tryz.func7, Tryz.ntmps7
  go_wp2_with fail
  refine (New_ w).mono ?_
  rintro e w1 ⟨rfl, h1, hb1⟩
  obtain ⟨bs, hbs⟩ : ∃ bs, bs = w.heap.size := ⟨_, rfl⟩
  rw [← hbs] at h1 ⊢
  have HBS := Lib.hid hbs
  have H1 := Lib.hid h1
  have HB1 := Lib.hid hb1
  clear hbs h1 hb1
  go_wp2_with fail
  refine (Do_Add_ok1 H1.out none0_zs none0_lg exA 0 1000 (by omega) (by omega) (by decide) (by decide) (by decide) (by decide) (by decide)).mono ?_
  rintro e w2 ⟨rfl, p2, ⟨b, hp2⟩, hD⟩
  have hv1 : wrap64 (Counter.val none0.C exA.name + exA.num) = 5 := by
    rw [show Counter.val none0.C exA.name + exA.num = 5 by decide]
    exact IntWalk.wrap64_in _ (by omega)
  have hC : tput ks none0.C exA.name (wrap64 (Counter.val none0.C exA.name + exA.num)) = [(sA, 5)] := by rw [hv1]; rfl
  have hzc : none0.zc + Counter.grows none0.C exA.name = 25 := by decide
  rw [expd_none0] at hp2
  rw [hC, hzc] at hp2
  have z2 : Zs p2 := by subst hp2; exact (zs_of (z := 25) rfl rfl rfl rfl (by omega)).1
  have l2 : Lg p2 := by subst hp2; exact ⟨rfl, by show (0 : Nat) * 16 ≤ _; omega, fun q hq => by cases hq⟩
  have n2 : p2.nc < maxLen := by subst hp2; show (1 : Nat) < maxLen; decide
  have g2 : ¬ 0 < Counter.grows p2.C exA.name := by subst hp2; show ¬ 0 < Counter.grows [(sA, 5)] sA; decide
  have v2 : wrap64 (Counter.val p2.C exA.name + exA.num) = 10 := by subst hp2; show wrap64 (Counter.val [(sA, 5)] sA + 5) = 10; rw [show Counter.val [(sA, 5)] sA + 5 = 10 by decide]; exact IntWalk.wrap64_in _ (by omega)
  have HB2 := Lib.hid (HB1.out.trans (hD.below.mono (Nat.le_of_eq HBS.out.symm)))
  have HP2 := Lib.hid hD.part
  have HD2 := Lib.hid (fun (h : PartAt bs w2 bs p2) => Do_Add_ok0 h z2 l2 exA 0 1000 (by omega) (by omega) n2 (by decide) g2)
  have hsz3 : ∀ p3, RelAdd (expd p2 0) exA p3 → size p3 = 25 ∧ Zs p3 := by
    rintro p3 ⟨b3, rfl⟩
    have g0 : Counter.grows (expd p2 0).C exA.name = 0 := by subst hp2; show Counter.grows [(sA, 5)] sA = 0; decide
    rw [g0]
    subst hp2
    have := zs_of (p := { expd { none0 with mc := some b, nc := none0.nc + 1, C := [(sA, 5)], zc := 25 } 0 with mc := some b3, nc := (expd { none0 with mc := some b, nc := none0.nc + 1, C := [(sA, 5)], zc := 25 } 0).nc + 1, C := tput ks (expd { none0 with mc := some b, nc := none0.nc + 1, C := [(sA, 5)], zc := 25 } 0).C exA.name (wrap64 (Counter.val (expd { none0 with mc := some b, nc := none0.nc + 1, C := [(sA, 5)], zc := 25 } 0).C exA.name + exA.num)), zc := (expd { none0 with mc := some b, nc := none0.nc + 1, C := [(sA, 5)], zc := 25 } 0).zc + 0 }) (z := 25) rfl rfl rfl rfl (by omega)
    exact ⟨this.2, this.1⟩
  have HSZ := Lib.hid hsz3
  rw [v2] at HD2
  clear hsz3 hD hp2 hv1 hC hzc z2 l2 n2 g2 v2 HB1 H1
  go_wp2_with fail
  refine (HD2.out HP2.out).mono ?_
  rintro e w3 ⟨rfl, p3, hrel3, hD3⟩
  obtain ⟨hs3, hz3⟩ := HSZ.out p3 hrel3
  have HB3 := Lib.hid (HB2.out.trans (hD3.below.mono (Nat.le_of_eq HBS.out.symm)))
  have HP3 := Lib.hid (fun W (h : PartAt bs W bs p3) => Size_ h hz3)
  rw [hs3] at HP3
  have HPA := Lib.hid hD3.part
  clear hrel3 hD3 hs3 hz3 HD2 HSZ HB2 HP2
  go_wp2_with (first
    | (refine Line.Stop.at none (.store 39 (.tmp 2) (.tmp 12)) ?_))
  constructor
  have hlt := HPA.out.lt
  refine Line.put_own rfl rfl 39 (.tmp 2) (.tmp 12) rfl w3.heap.size 0 rfl (.agg #[.string ⟨#[]⟩, .bool false, .int .i64 10]) rfl #[.string ⟨#[]⟩, .bool false, .int .i64 0] #[.string ⟨#[]⟩, .bool false, .int .i64 10] 39 (heap_alloc_last _ _) (by simp [Value.cells]) inf39 (by simp [Value.cells, Value.oneCell']) (by simp [Value.cells]) ?_
  intro w4 h4 g4
  have hb4 : Below w3.heap.size w3 w4 := ((Below.refl _ _).alloc (Nat.le_refl _) (.cells #[.string ⟨#[]⟩, .bool false, .int .i64 0] 39)).grown g4 (by simp) (fun k e => by injection e with e; omega)
  have HP4 := Lib.hid (HPA.out.move hb4)
  have HB4 := Lib.hid (HB3.out.trans (hb4.mono HB3.out.size))
  have c2 : w4.cell? ⟨w3.heap.size, 2, none⟩ = some (.int .i64 10) := blk_cell h4 2
  clear h4 g4 hb4
  go_wp2_with fail
  refine (HP3.out _ HP4.out).mono ?_
  rintro e w5 ⟨rfl, n, rfl⟩
  go_wp2_with fail
  go_ret
  exact ⟨rfl, HB4.out.trans (pw_below_drewN (Below.refl _ _) n)⟩
set_option maxRecDepth 100000 in
theorem Do_nil (op : Int) (a : AR) (now limit : Int) (w : World) : Calls Tryz.prog 9 #[.pointer none, .int .i64 op, .agg (cellsA a), .int .i64 now, .int .i64 limit] w fun e w' => e = .returned (.tuple #[.agg #[.string ⟨#[]⟩, .bool false, .int .i64 0], .int .i64 17]) ∧ Below w.heap.size w w' := by
  go_enter Tryz.func9, Tryz.ntmps9
  go_wp2_with (first
    | (refine Line.Stop.at none (.store 39 (.tmp 10) (.tmp 17)) ?_))
  constructor
  have hb : Below w.heap.size w ((w.alloc (.cells (cellsA a) 43)).alloc (.cells #[.string ⟨#[]⟩, .bool false, .int .i64 0] 39)) := ((Below.refl _ _).alloc (Nat.le_refl _) _).alloc (by simp) _
  refine Line.put_own rfl rfl 39 (.tmp 10) (.tmp 17) rfl (w.alloc (.cells (cellsA a) 43)).heap.size 0 (by simp [go_sem]) (.agg #[.string ⟨#[]⟩, .bool false, .int .i64 0]) rfl #[.string ⟨#[]⟩, .bool false, .int .i64 0] #[.string ⟨#[]⟩, .bool false, .int .i64 0] 39 (heap_alloc_last _ _) (by simp [Value.cells]) inf39 (by simp [Value.cells, Value.oneCell']) (by simp [Value.cells]) ?_
  intro w4 h4 g4
  have HB := Lib.hid (hb.grown g4 (by simp; omega) (fun k e => by injection e with e; simp at e; omega))
  rw [World.size_alloc] at h4
  have H4 := Lib.hid h4
  clear h4 g4 hb
  go_wp2_with fail
  exact bodyPost_ret (results_ct rfl _ _ (w.heap.size + 1) 39 _ (0, 0) _ rfl H4.out Tryz.underlying39 rfl inf39) rfl ⟨rfl, HB.out⟩
theorem Size_nil (w : World) : Calls Tryz.prog 12 #[.pointer none] w fun e w' => e = .returned (.int .i64 0) ∧ w' = w := by
  go_enter Tryz.func12, Tryz.ntmps12
  go_wp2
  go_ret
  exact ⟨rfl, rfl⟩
theorem Text_nil (w : World) : Calls Tryz.prog 14 #[.pointer none] w fun e w' => e = .returned (.string ⟨#[]⟩) ∧ Below w.heap.size w w' := by
  go_enter Tryz.func14, Tryz.ntmps14
  go_wp2
  go_ret
  exact ⟨rfl, (Below.refl _ _).alloc (Nat.le_refl _) _⟩
theorem ours_ (a : AR) (w : World) : Calls Tryz.prog 10 #[.agg (cellsA a)] w fun e w' => e = .returned (.agg (cellsA a)) ∧ Below w.heap.size w w' :=
  concourselaw31_ours.calls _ _ _ _ _ _ _ _ w rfl
/-- A step: an operation, its arguments, a tick, a limit. -/
structure SR where
  op : Int
  a : AR
  now : Int
  limit : Int
abbrev cellsS (s : SR) : Array Value := #[.int .i64 s.op, .string s.a.name, .string s.a.text, .int .i64 s.a.num, .int .u64 s.a.ticks, .int .i64 s.now, .int .i64 s.limit]
theorem st3c (w : World) (p : Nat) (s : ByteArray) (b : Bool) (n : Int) (h : w.heap[p]? = some (.cells #[.string ⟨#[]⟩, .bool false, .int .i64 0] 39 (0, 0))) : (((w.setCell ⟨p, 0, none⟩ (.string s)).setCell ⟨p, 1, none⟩ (.bool b)).setCell ⟨p, 2, none⟩ (.int .i64 n)).heap[p]? = some (.cells #[.string s, .bool b, .int .i64 n] 39 (0, 0)) ∧ w.grownBy (((w.setCell ⟨p, 0, none⟩ (.string s)).setCell ⟨p, 1, none⟩ (.bool b)).setCell ⟨p, 2, none⟩ (.int .i64 n)) (some p) := by
  obtain ⟨cur', c1, c2, c3⟩ := setCells_row [.string s, .bool b, .int .i64 n] 0 w _ h (by simp)
  obtain ⟨s1, s2, s3, s4⟩ := setCells_same p [.string s, .bool b, .int .i64 n] 0 w
  have e1 : cur' = #[.string s, .bool b, .int .i64 n] := by
    apply Array.toList_inj.1
    rw [c3]
    simp
  rw [e1] at c1
  exact ⟨c1, s1, s2, s3, Nat.le_of_eq s4.symm, fun k _ hne => setCells_far [.string s, .bool b, .int .i64 n] 0 k (fun hk => hne (by rw [hk]))⟩
set_option maxRecDepth 100000 in
set_option maxHeartbeats 2000000 in
theorem PartNone_walk (w : World) (s : SR) : Calls Tryz.prog 5 #[.agg (cellsS s)] w fun e w' => e = .returned (.bool true) ∧ Below w.heap.size w w' := by
  obtain ⟨op, ⟨name, text, num, ticks⟩, now, limit⟩ := s
  have HO := Lib.hid (ours_ ⟨name, text, num, ticks⟩)
  have HD := Lib.hid (Do_nil op ⟨name, text, num, ticks⟩ now limit)
  simp only [cellsA] at HO HD
  go_enter Tryz.func5, Tryz.ntmps5
  go_wp2_with fail
  have hS := (Line.Ow.start w).push (cellsS ⟨op, ⟨name, text, num, ticks⟩, now, limit⟩) 37
  simp only [cellsS] at hS
  generalize w.alloc (.cells #[.int .i64 op, .string name, .string text, .int .i64 num, .int .u64 ticks, .int .i64 now, .int .i64 limit] 37) = W1 at *
  obtain ⟨b1, hb1⟩ : ∃ b1, b1 = w.heap.size := ⟨_, rfl⟩
  rw [← hb1] at hS ⊢
  have HB1 := Lib.hid hb1
  clear hb1
  apply Line.join_region (fun p W => Line.Ow w W [(p, #[.string ⟨#[]⟩, .bool false, .int .i64 0], 39)])
  · have x0 : W1.cell? ⟨b1, 0, none⟩ = some (.int .i64 op) := blk_cell (hS.keep _ (.head _)).1 0
    have x1 : W1.cell? ⟨b1, 1, none⟩ = some (.string name) := blk_cell (hS.keep _ (.head _)).1 1
    have x2 : W1.cell? ⟨b1, 2, none⟩ = some (.string text) := blk_cell (hS.keep _ (.head _)).1 2
    have x3 : W1.cell? ⟨b1, 3, none⟩ = some (.int .i64 num) := blk_cell (hS.keep _ (.head _)).1 3
    have x4 : W1.cell? ⟨b1, 4, none⟩ = some (.int .u64 ticks) := blk_cell (hS.keep _ (.head _)).1 4
    have x5 : W1.cell? ⟨b1, 5, none⟩ = some (.int .i64 now) := blk_cell (hS.keep _ (.head _)).1 5
    have x6 : W1.cell? ⟨b1, 6, none⟩ = some (.int .i64 limit) := blk_cell (hS.keep _ (.head _)).1 6
    have nn0 := World.new_ne W1 _ x0
    go_region_held3 (fun w' => w'.cell? ⟨b1, 0, none⟩ = some (.int .i64 op) ∧ w'.cell? ⟨b1, 1, none⟩ = some (.string name) ∧ w'.cell? ⟨b1, 2, none⟩ = some (.string text) ∧ w'.cell? ⟨b1, 3, none⟩ = some (.int .i64 num) ∧ w'.cell? ⟨b1, 4, none⟩ = some (.int .u64 ticks) ∧ w'.cell? ⟨b1, 5, none⟩ = some (.int .i64 now) ∧ w'.cell? ⟨b1, 6, none⟩ = some (.int .i64 limit)) (first | exact ⟨z0, z1, z2, z3, z4, z5, z6⟩ | exact ⟨x0, x1, x2, x3, x4, x5, x6⟩ | go_keep)
      (first
        | (go_at_call 10; (with_reducible refine (HO.out _).mono ?_); rintro e wc0 ⟨rfl, hb⟩; (first | (replace hS := hS.drew.move hb) | (replace hS := (hS.push #[.string ⟨#[]⟩, .bool false, .int .i64 0] 39).drew.move hb; generalize W1.heap.size = p7 at *)); clear hb x0 x1 x2 x3 x4 x5 x6; have x0 : wc0.cell? ⟨b1, 0, none⟩ = some (.int .i64 op) := blk_cell (hS.keep (b1, #[.int .i64 op, .string name, .string text, .int .i64 num, .int .u64 ticks, .int .i64 now, .int .i64 limit], 37) (by first | exact .head _ | exact .tail _ (.head _))).1 0; have x1 : wc0.cell? ⟨b1, 1, none⟩ = some (.string name) := blk_cell (hS.keep (b1, #[.int .i64 op, .string name, .string text, .int .i64 num, .int .u64 ticks, .int .i64 now, .int .i64 limit], 37) (by first | exact .head _ | exact .tail _ (.head _))).1 1; have x2 : wc0.cell? ⟨b1, 2, none⟩ = some (.string text) := blk_cell (hS.keep (b1, #[.int .i64 op, .string name, .string text, .int .i64 num, .int .u64 ticks, .int .i64 now, .int .i64 limit], 37) (by first | exact .head _ | exact .tail _ (.head _))).1 2; have x3 : wc0.cell? ⟨b1, 3, none⟩ = some (.int .i64 num) := blk_cell (hS.keep (b1, #[.int .i64 op, .string name, .string text, .int .i64 num, .int .u64 ticks, .int .i64 now, .int .i64 limit], 37) (by first | exact .head _ | exact .tail _ (.head _))).1 3; have x4 : wc0.cell? ⟨b1, 4, none⟩ = some (.int .u64 ticks) := blk_cell (hS.keep (b1, #[.int .i64 op, .string name, .string text, .int .i64 num, .int .u64 ticks, .int .i64 now, .int .i64 limit], 37) (by first | exact .head _ | exact .tail _ (.head _))).1 4; have x5 : wc0.cell? ⟨b1, 5, none⟩ = some (.int .i64 now) := blk_cell (hS.keep (b1, #[.int .i64 op, .string name, .string text, .int .i64 num, .int .u64 ticks, .int .i64 now, .int .i64 limit], 37) (by first | exact .head _ | exact .tail _ (.head _))).1 5; have x6 : wc0.cell? ⟨b1, 6, none⟩ = some (.int .i64 limit) := blk_cell (hS.keep (b1, #[.int .i64 op, .string name, .string text, .int .i64 num, .int .u64 ticks, .int .i64 now, .int .i64 limit], 37) (by first | exact .head _ | exact .tail _ (.head _))).1 6; have nn1 := World.new_ne wc0 _ x0)
        | (go_at_call 9; (with_reducible refine (HD.out _).mono ?_); rintro e wc1 ⟨rfl, hb⟩; (first | (replace hS := hS.move hb) | (replace hS := (hS.push #[.string ⟨#[]⟩, .bool false, .int .i64 0] 39).move hb; generalize wc0.heap.size = p7 at *)); clear hb x0 x1 x2 x3 x4 x5 x6; have x0 : wc1.cell? ⟨b1, 0, none⟩ = some (.int .i64 op) := blk_cell (hS.keep (b1, #[.int .i64 op, .string name, .string text, .int .i64 num, .int .u64 ticks, .int .i64 now, .int .i64 limit], 37) (by first | exact .head _ | exact .tail _ (.head _))).1 0; have x1 : wc1.cell? ⟨b1, 1, none⟩ = some (.string name) := blk_cell (hS.keep (b1, #[.int .i64 op, .string name, .string text, .int .i64 num, .int .u64 ticks, .int .i64 now, .int .i64 limit], 37) (by first | exact .head _ | exact .tail _ (.head _))).1 1; have x2 : wc1.cell? ⟨b1, 2, none⟩ = some (.string text) := blk_cell (hS.keep (b1, #[.int .i64 op, .string name, .string text, .int .i64 num, .int .u64 ticks, .int .i64 now, .int .i64 limit], 37) (by first | exact .head _ | exact .tail _ (.head _))).1 2; have x3 : wc1.cell? ⟨b1, 3, none⟩ = some (.int .i64 num) := blk_cell (hS.keep (b1, #[.int .i64 op, .string name, .string text, .int .i64 num, .int .u64 ticks, .int .i64 now, .int .i64 limit], 37) (by first | exact .head _ | exact .tail _ (.head _))).1 3; have x4 : wc1.cell? ⟨b1, 4, none⟩ = some (.int .u64 ticks) := blk_cell (hS.keep (b1, #[.int .i64 op, .string name, .string text, .int .i64 num, .int .u64 ticks, .int .i64 now, .int .i64 limit], 37) (by first | exact .head _ | exact .tail _ (.head _))).1 4; have x5 : wc1.cell? ⟨b1, 5, none⟩ = some (.int .i64 now) := blk_cell (hS.keep (b1, #[.int .i64 op, .string name, .string text, .int .i64 num, .int .u64 ticks, .int .i64 now, .int .i64 limit], 37) (by first | exact .head _ | exact .tail _ (.head _))).1 5; have x6 : wc1.cell? ⟨b1, 6, none⟩ = some (.int .i64 limit) := blk_cell (hS.keep (b1, #[.int .i64 op, .string name, .string text, .int .i64 num, .int .u64 ticks, .int .i64 now, .int .i64 limit], 37) (by first | exact .head _ | exact .tail _ (.head _))).1 6; have nn2 := World.new_ne wc1 _ x0; (try (have q7 : wc1.heap[p7]? = some (.cells #[.string ⟨#[]⟩, .bool false, .int .i64 0] 39 (0, 0)) := (hS.keep (p7, #[.string ⟨#[]⟩, .bool false, .int .i64 0], 39) (.head _)).1; have qb : wc1.heap[b1]? = some (.cells #[.int .i64 op, .string name, .string text, .int .i64 num, .int .u64 ticks, .int .i64 now, .int .i64 limit] 37 (0, 0)) := (hS.keep (b1, #[.int .i64 op, .string name, .string text, .int .i64 num, .int .u64 ticks, .int .i64 now, .int .i64 limit], 37) (.tail _ (.head _))).1; have n7 : b1 ≠ p7 := blk_ne qb q7 (by decide); have y0 : wc1.cell? ⟨p7, 0, none⟩ = some (.string ⟨#[]⟩) := blk_cell q7 0; have y1 : wc1.cell? ⟨p7, 1, none⟩ = some (.bool false) := blk_cell q7 1; have y2 : wc1.cell? ⟨p7, 2, none⟩ = some (.int .i64 0) := blk_cell q7 2; have f0 : wc1.frozen? ⟨p7, 0, none⟩ = false := blk_frozen q7 0; have f1 : wc1.frozen? ⟨p7, 1, none⟩ = false := blk_frozen q7 1; have f2 : wc1.frozen? ⟨p7, 2, none⟩ = false := blk_frozen q7 2; have n8 := n7.symm))))
    · have hS1 := hS.push #[.string ⟨#[]⟩, .bool false, .int .i64 0] 39
      have hS2 := hS1.sub (bl' := [(wc1.heap.size, #[.string ⟨#[]⟩, .bool false, .int .i64 0], 39)]) (fun x hx => by rcases List.mem_singleton.1 hx with rfl; exact .head _)
      generalize wc1.alloc (.cells #[.string ⟨#[]⟩, .bool false, .int .i64 0] 39) = W9 at *
      generalize wc1.heap.size = p9 at *
      exact ⟨p9, hS2, rfl, rfl⟩
    · have hst := st3c wc1 p7 ⟨#[]⟩ false 0 (hS.keep (p7, #[.string ⟨#[]⟩, .bool false, .int .i64 0], 39) (.head _)).1
      exact ⟨p7, hS.put (bl' := []) (.head _) hst.1 hst.2 (fun x hx => by cases hx), rfl, rfl⟩
    · have hst := st3c wc1 p7 ⟨#[]⟩ false 0 (hS.keep (p7, #[.string ⟨#[]⟩, .bool false, .int .i64 0], 39) (.head _)).1
      exact ⟨p7, hS.put (bl' := []) (.head _) hst.1 hst.2 (fun x hx => by cases hx), rfl, rfl⟩
  · intro p W hW
    have q7 : W.heap[p]? = some (.cells #[.string ⟨#[]⟩, .bool false, .int .i64 0] 39 (0, 0)) := (hW.keep (p, #[.string ⟨#[]⟩, .bool false, .int .i64 0], 39) (.head _)).1
    have y0 : W.cell? ⟨p, 0, none⟩ = some (.string ⟨#[]⟩) := blk_cell q7 0
    have y1 : W.cell? ⟨p, 1, none⟩ = some (.bool false) := blk_cell q7 1
    have y2 : W.cell? ⟨p, 2, none⟩ = some (.int .i64 0) := blk_cell q7 2
    have hB := hW.below
    clear hW q7 hS HB1 HO HD
    go_wp2_with fail
    refine (Size_nil _).mono ?_
    rintro e w2 ⟨rfl, rfl⟩
    go_wp2_with fail
    refine (Text_nil _).mono ?_
    rintro e w3 ⟨rfl, hb3⟩
    go_wp2_with fail
    refine (awake_ _).mono ?_
    rintro e w4 ⟨rfl, hb4⟩
    go_wp2_with fail
    go_ret
    exact ⟨rfl, (hB.trans (hb3.mono hB.size)).trans (hb4.mono (hB.trans (hb3.mono hB.size)).size)⟩
end Go.Proofs.YtnccofpkanhfhaaGreatDoor.Part
