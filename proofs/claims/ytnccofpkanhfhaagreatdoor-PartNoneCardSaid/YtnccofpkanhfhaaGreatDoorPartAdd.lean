/-
  part.Part's Add: the deed, found and done.
-/
import Derived.Test.YtnccofpkanhfhaaGreatDoorPart
set_option linter.unusedVariables false
set_option linter.unusedSimpArgs false
namespace Go.Proofs.YtnccofpkanhfhaaGreatDoor.Part
open Go.RowKit Go.Maps Go.WideMaps Go.Proofs.YtnccofpkanhfhaaGreatDoor.Tab Go.Proofs.YtnccofpkanhfhaaGreatDoorW.PrintWords
/-- Arguments. -/
structure AR where
  name : ByteArray
  text : ByteArray
  num : Int
  ticks : Int
abbrev cellsA (a : AR) : Array Value := #[.string a.name, .string a.text, .int .i64 a.num, .int .u64 a.ticks]
abbrev ptr (b : Nat) : Value := .pointer (some ⟨b, 0, none⟩)
/-- What a deed has caught: the partition, and the arguments. -/
structure Caught (W : World) (bs b4 b6 : Nat) (a : AR) : Prop where
  c4 : W.heap[b4]? = some (.cells #[ptr bs] 25 (0, 0))
  c6 : W.heap[b6]? = some (.cells (cellsA a) 43 (0, 0))
variable {base bs b4 b6 : Nat} {W W' : World} {p p' : PS} {a : AR}
theorem Caught.move (h : Caught W bs b4 b6 a) (hb : Below W.heap.size W W') : Caught W' bs b4 b6 a := ⟨blk_below h.c4 hb, blk_below h.c6 hb⟩
/-- Blocks that are not the partition's. -/
def Off (p : PS) (bs k : Nat) : Prop := k ≠ bs ∧ ∀ i, ¬ owns p i k
theorem Caught.turn {off : Nat} {S : Nat → Prop} (h : Caught W bs b4 b6 a) (ht : Turn W W' bs off S) (h4 : b4 ≠ bs ∧ ¬ S b4) (h6 : b6 ≠ bs ∧ ¬ S b6) : Caught W' bs b4 b6 a :=
  ⟨(ht.block b4 (blk_lt h.c4) h4.1 h4.2).trans h.c4, (ht.block b6 (blk_lt h.c6) h6.1 h6.2).trans h.c6⟩
set_option maxRecDepth 100000 in
set_option maxHeartbeats 1000000 in
theorem grows_add (h : PartAt base W bs p) (hc : Caught W bs b4 b6 a) (hs : a.name.size ≤ 140737488351232) :
    Calls Tryz.prog 50 #[ptr b4, ptr b6] W fun e w' => e = .returned (.int .i64 (Counter.grows p.C a.name)) ∧ ∃ n, w' = W.drewN n := by
  have x4 : W.cell? ⟨b4, 0, none⟩ = some (ptr bs) := blk_cell hc.c4 0
  have x6 : W.cell? ⟨b6, 0, none⟩ = some (.string a.name) := blk_cell hc.c6 0
  have HG := Lib.hid (fun n => Counter.Grows (h.drewN n).book a.name hs)
  clear h hc hs
  generalize Counter.grows p.C a.name = g at *
  generalize a.name = nm at *
  go_enter Tryz.func50, Tryz.ntmps50
  go_wp2_with fail
  go_quiet (exact Calls.quiet_of_same (HG.out _))
  go_wp2_with fail
  go_ret
  exact ⟨rfl, _, rfl⟩
theorem inf39 : (Tryz.prog.info? 39).map (·.size) = some 3 := by kernel_rfl
set_option maxRecDepth 100000 in
set_option maxHeartbeats 1000000 in
theorem do_add (h : PartAt base W bs p) (hc : Caught W bs b4 b6 a) (hz : Zs p) (hn : p.nc < maxLen) (hs : a.name.size ≤ 140737488351232) :
    Calls Tryz.prog 52 #[ptr b4, ptr b6] W fun e w' => e = .returned (.agg #[.string ⟨#[]⟩, .bool false, .int .i64 (wrap64 (Counter.val p.C a.name + a.num))]) ∧
      ∃ b, (p.mc = some b ∨ p.mc = none ∧ W.heap.size ≤ b) ∧ PartAt base w' bs { p with mc := some b, nc := p.nc + 1, C := tput ks p.C a.name (wrap64 (Counter.val p.C a.name + a.num)), zc := p.zc + Counter.grows p.C a.name } ∧ Turn W w' bs 2 (fun k => k = b) := by
  have x4 : W.cell? ⟨b4, 0, none⟩ = some (ptr bs) := blk_cell hc.c4 0
  have x6 : W.cell? ⟨b6, 0, none⟩ = some (.string a.name) := blk_cell hc.c6 0
  have x7 : W.cell? ⟨b6, 2, none⟩ = some (.int .i64 a.num) := blk_cell hc.c6 2
  have HH := Lib.hid h
  have HZ := Lib.hid hz
  have HN := Lib.hid hn
  have HS := Lib.hid hs
  have hba : Below W.heap.size W (W.alloc (.cells #[.string ⟨#[]⟩, .bool false, .int .i64 0] 39)).drew := ((Below.refl _ _).alloc (Nat.le_refl _) _).drew
  have HAD := Lib.hid (Counter.Add (h.move hba).book a.name hs a.num hz.c.1 hz.c.2 hn)
  have HBA := Lib.hid hba
  have hl4 := blk_lt hc.c4
  have hl6 := blk_lt hc.c6
  clear h hc hz hn hs hba
  obtain ⟨nm, tx, num, ti⟩ := a
  simp only at x6 x7 HAD
  go_enter Tryz.func52, Tryz.ntmps52
  go_wp2_with fail
  refine Line.still_tail 7 (by kernel_rfl) (by kernel_rfl) ?_
  simp only [List.take_succ_cons, List.take_zero, List.drop_succ_cons, List.drop_zero]
  iterate 7 still_step
  refine wpStill_nil ?_
  go_wp2_with fail
  refine HAD.out.mono ?_
  rintro e w2 ⟨rfl, b, hb, hB, ht⟩
  have hW1 : PartAt base (W.alloc (.cells #[.string ⟨#[]⟩, .bool false, .int .i64 0] 39)).drew bs p := HH.out.move HBA.out
  have hsz : (W.alloc (.cells #[.string ⟨#[]⟩, .bool false, .int .i64 0] 39)).drew.heap.size = W.heap.size + 1 := by simp [World.drew]
  have hres : (W.alloc (.cells #[.string ⟨#[]⟩, .bool false, .int .i64 0] 39)).drew.heap[W.heap.size]? = some (.cells #[.string ⟨#[]⟩, .bool false, .int .i64 0] 39 (0, 0)) := heap_alloc_last _ _
  have hT1 : Turn W (W.alloc (.cells #[.string ⟨#[]⟩, .bool false, .int .i64 0] 39)).drew bs 2 (fun k => k = b) := (Turn.alloc HH.out.lt _).drew
  generalize (W.alloc (.cells #[.string ⟨#[]⟩, .bool false, .int .i64 0] 39)).drew = W1 at *
  have hbw : p.mc = some b ∨ W1.heap.size ≤ b := by
    rcases hb with e | ⟨_, e⟩
    · exact .inl e
    · exact .inr (by omega)
  have hP2 := hW1.setBook hB ht (fun k e => by subst e; exact hbw) (fun k e => by injection e with e; subst e; exact hbw)
  have hgb : W.heap.size ≠ b := by
    rcases hb with e | ⟨_, e⟩
    · have := HH.out.own_lt (i := 1) (k := b) e
      omega
    · omega
  have hg2 := (ht.block W.heap.size (by omega) (by have := HH.out.lt; omega) hgb).trans hres
  have HT2 := Lib.hid (hT1.trans ht (fun k _ e => e))
  have HP2 := Lib.hid hP2
  have HG2 := Lib.hid hg2
  have HB2 := Lib.hid (show p.mc = some b ∨ p.mc = none ∧ W.heap.size ≤ b from hb.imp id (fun h => ⟨h.1, by omega⟩))
  have HGB := Lib.hid hgb
  clear hW1 hsz hres hT1 hbw hP2 hgb hg2 hb hB ht HAD HBA
  go_wp2_with (first
    | (refine Line.Stop.at none (.store 39 (.tmp 2) (.tmp 11)) ?_))
  constructor
  refine Line.put_own rfl rfl 39 (.tmp 2) (.tmp 11) rfl W.heap.size 0 rfl (.agg #[.string ⟨#[]⟩, .bool false, .int .i64 (wrap64 (Counter.val p.C nm + num))]) rfl #[.string ⟨#[]⟩, .bool false, .int .i64 0] #[.string ⟨#[]⟩, .bool false, .int .i64 (wrap64 (Counter.val p.C nm + num))] 39 HG2.out (by simp [Value.cells]) inf39 (by simp [Value.cells, Value.oneCell']) (by simp [Value.cells]) ?_
  intro w3 h3 g3
  have hP3 := HP2.out.far g3 (by have := HH.out.lt; omega) (fun i hi => by
    match i, hi with
    | 0, hi => exact absurd (HH.out.own_lt (i := 0) (k := W.heap.size) hi) (Nat.lt_irrefl _)
    | 1, hi => exact HGB.out (Option.some.inj hi).symm
    | 2, hi => exact absurd (HH.out.own_lt (i := 2) (k := W.heap.size) hi) (Nat.lt_irrefl _)
    | 3, hi => exact absurd (HH.out.own_lt (i := 3) (k := W.heap.size) hi) (Nat.lt_irrefl _))
  have hT3 := HT2.out.trans (Turn.grownBy (off := 2) (S := fun k => k = W.heap.size) (by have := HH.out.lt; have := HT2.out.size; omega) g3 (fun e => by injection e with e; have := HH.out.lt; omega) (fun k _ e => by injection e)) (fun k hk e => by omega)
  have HF := Lib.hid (And.intro h3 (And.intro hP3 hT3))
  clear h3 g3 hP3 hT3
  go_wp2_with fail
  exact bodyPost_ret (results_cell_row rfl _ _ W.heap.size 39 _ (0, 0) _ rfl HF.out.1 Tryz.underlying39 rfl inf39) rfl ⟨rfl, b, HB2.out, HF.out.2.1, HF.out.2.2⟩
end Go.Proofs.YtnccofpkanhfhaaGreatDoor.Part
