/-
  Several texts of mine in one, in their order.
-/
import Derived.Test.YtdnhmlpjohojdaaProg
import Derived.Below
import Derived.Deep.Draws
import Derived.Deep.AppendLies
import Derived.Maps.AppendAt
import Derived.OwnWalk
import Derived.Laws.BytesArg
import Derived.Laws.MakeOwn
import Derived.Laws.OwnMore
import Derived.Deep.OwnRows
import Derived.Tactics
import Derived.Lib.ConvBytes
import Derived.Laws.Slices
import Derived.WalkKit
import Derived.KernelRfl
import Derived.RowKit3
import Derived.Deep.LoopGhost
import Derived.Deep.QuietTactic
import Derived.BigQuiet
import Derived.WideLaws
import Derived.Deep.DeepCutAuto
import Derived.Deep.CutBlock
import Derived.Deep.RegionHeld3
import Derived.Laws.Rows
import Derived.Lib.AppendStr
import Derived.ArgAppend
import Derived.Laws.IdiomCopy
import Derived.OrdersHeld
import Derived.Laws.BitsLemmas
import Derived.RowKit
import Derived.Test.YtdnhmlpjohojdaaWWords
import Derived.Test.YtdnhmlpjohojdaaWLast
import Derived.Test.YtdnhmlpjohojdaaWTab
import Derived.Test.YtdnhmlpjohojdaaWFour
import Derived.Test.YtdnhmlpjohojdaaWQPut
import Derived.Test.YtdnhmlpjohojdaaWApart
import Derived.Test.YtdnhmlpjohojdaaWArr
import Derived.Test.YtdnhmlpjohojdaaWZeros
import Derived.Test.YtdnhmlpjohojdaaWFoot
import Derived.Test.YtdnhmlpjohojdaaWKept
import Derived.Test.YtdnhmlpjohojdaaWShare
import Derived.Test.YtdnhmlpjohojdaaWN
import Derived.Test.YtdnhmlpjohojdaaWFootNe
import Derived.Test.YtdnhmlpjohojdaaWAt
import Derived.Test.YtdnhmlpjohojdaaWEqStruct
import Derived.Test.YtdnhmlpjohojdaaWRepsOne
import Derived.Test.YtdnhmlpjohojdaaWInv
import Derived.Test.YtdnhmlpjohojdaaWInvWords
import Derived.Test.YtdnhmlpjohojdaaWGuard
import Derived.Test.YtdnhmlpjohojdaaWNEv
import Derived.Test.YtdnhmlpjohojdaaWMore
import Derived.Maps.OwnSet
import Derived.Deep.Quiet
import Derived.WalkMore
import Derived.WalkSpells
import Derived.WalkArith
import Derived.Outline
import Derived.Lib.Hide
import Derived.Maps.RangeWalk
import Derived.Orders
import Derived.Deep.WholeRow
import Derived.StillTailTactics
import Derived.RangeFuncNested
import Derived.RangeFuncBound
import Derived.RangeFuncCalls
import Derived.RangeFuncLeaves
import Derived.Shelf.Abstract
import Derived.Shelf.RegionOpen
import Derived.OwnWalkIn
import Derived.TacticsInMore
import Derived.LoopNIn
import Derived.LoopIn
import Derived.Deep.MidRow
import Derived.Still
import Derived.StillTactics
import Derived.OrdersIn
import Derived.TacticsIn
import Derived.Deep.DeepFit
import Derived.Shelf.Strings.Builder1
import Derived.Shelf.Small.Bits
import Derived.Shelf.Small.Wraps
import Derived.Shelf.Strings.BuilderF
import Derived.Shelf.Strings.BuilderK
import Derived.Shelf.Strconv.Itoa0
import Derived.Shelf.Sort.Plain
import Derived.Shelf.Strings.BuilderCap
import Derived.Ground.Names2Prog
import Derived.Shelf.Slices.SearchI
import Derived.Shelf.Slices.In.SortNone
import Derived.Shelf.SlIterI.Nil
import Derived.Shelf.SortM.Plain
import Derived.Shelf.SortM.SortNone
import Derived.Ground.GgzProg
import Derived.Ground.SlgmProg
import Derived.Lib.Builder
import Derived.Lib.OthersKept
import Derived.Deep.Slices
import Derived.Deep.Strs
import Derived.SizedLaws
import Derived.ProofKit
import Derived.OpenShut
import Derived.ChangeArms
import Derived.Deep.DrawnRows
set_option linter.unusedVariables false
set_option linter.unusedSimpArgs false
-- PRINTED by print.py (a twelfth state) out of the translation. Not trusted: Lean checks it.
namespace Go.Proofs.Ytdnhmlpjohojdaa.R
open Go.RowKit Go.Proofs.YtdnhmlpjohojdaaW.PrintWords Go.Proofs.YtdnhmlpjohojdaaW.PrintLast Go.Proofs.YtdnhmlpjohojdaaW.PrintMore
attribute [local go_sem] max2_int min2_int max_two min_two max_three min_three max_four min_four   -- for this text's walks alone



def errW : Option Int → Value
  | none => .nilIface
  | some c => .iface 0 (.int .i64 c)
theorem errW_none : errW none = .nilIface := rfl
theorem errW_some (c : Int) : errW (some c) = .iface 0 (.int .i64 c) := rfl

theorem info3 : (Try.prog.info? 3).map (fun i => (i.zero, i.size, i.bytes)) = some (some (.int .i64 0), 1, 8) := by kernel_rfl
theorem info5 : (Try.prog.info? 5).map (fun i => (i.zero, i.size, i.bytes)) = some (some (.int .u8 0), 1, 1) := by kernel_rfl
theorem info75 : (Try.prog.info? 75).map (fun i => (i.zero, i.size, i.bytes)) = some (some (.agg #[(.bool false), (.bool false), (.int .i64 0), (.int .i64 0), (.int .i64 0), (.int .i64 0), (.int .i64 0), (.int .i64 0), (.int .i64 0), (.int .i64 0), (.int .i64 0)]), 11, 80) := by kernel_rfl
-- the values' own types
/-! #### struct type 24 -/
structure S24 where
  f0 : Int
  f1 : Int
  f2 : Int
  f3 : Int
  f4 : Int
  f5 : Int
  f6 : Int
  f7 : Int
  f8 : Int
def z24 : S24 := ⟨(0 : Int), (0 : Int), (0 : Int), (0 : Int), (0 : Int), (0 : Int), (0 : Int), (0 : Int), (0 : Int)⟩
def k24 : Kd S24 := Kd.iso (Kd.pair (Kd.int .i64) (Kd.pair (Kd.int .i64) (Kd.pair (Kd.int .i64) (Kd.pair (Kd.int .i64) (Kd.pair (Kd.int .i64) (Kd.pair (Kd.int .i64) (Kd.pair (Kd.int .i64) (Kd.pair (Kd.int .i64) (Kd.int .i64))))))))) (fun x : S24 => (x.f0, x.f1, x.f2, x.f3, x.f4, x.f5, x.f6, x.f7, x.f8))
theorem k24_open {w : World} {x : S24} {cs : List Value} (h : k24.K w x cs) : cs = [.int .i64 x.f0, .int .i64 x.f1, .int .i64 x.f2, .int .i64 x.f3, .int .i64 x.f4, .int .i64 x.f5, .int .i64 x.f6, .int .i64 x.f7, .int .i64 x.f8] := by
  obtain ⟨_, _, rfl, rfl, ⟨_, _, rfl, rfl, ⟨_, _, rfl, rfl, ⟨_, _, rfl, rfl, ⟨_, _, rfl, rfl, ⟨_, _, rfl, rfl, ⟨_, _, rfl, rfl, ⟨_, _, rfl, rfl, rfl⟩⟩⟩⟩⟩⟩⟩⟩ := h
  exact rfl
theorem k24_openM {w : World} {base : Nat} {ok : Nat → Prop} {x : S24} {cs : List Value} (h : k24.M w base ok x cs) : cs = [.int .i64 x.f0, .int .i64 x.f1, .int .i64 x.f2, .int .i64 x.f3, .int .i64 x.f4, .int .i64 x.f5, .int .i64 x.f6, .int .i64 x.f7, .int .i64 x.f8] := by
  obtain ⟨_, _, rfl, rfl, ⟨_, _, rfl, rfl, ⟨_, _, rfl, rfl, ⟨_, _, rfl, rfl, ⟨_, _, rfl, rfl, ⟨_, _, rfl, rfl, ⟨_, _, rfl, rfl, ⟨_, _, rfl, rfl, rfl⟩⟩⟩⟩⟩⟩⟩⟩ := h
  exact rfl
theorem k24_mk (w : World) (x : S24)  : k24.K w x [.int .i64 x.f0, .int .i64 x.f1, .int .i64 x.f2, .int .i64 x.f3, .int .i64 x.f4, .int .i64 x.f5, .int .i64 x.f6, .int .i64 x.f7, .int .i64 x.f8] := ⟨[.int .i64 x.f0], [.int .i64 x.f1, .int .i64 x.f2, .int .i64 x.f3, .int .i64 x.f4, .int .i64 x.f5, .int .i64 x.f6, .int .i64 x.f7, .int .i64 x.f8], rfl, rfl, ⟨[.int .i64 x.f1], [.int .i64 x.f2, .int .i64 x.f3, .int .i64 x.f4, .int .i64 x.f5, .int .i64 x.f6, .int .i64 x.f7, .int .i64 x.f8], rfl, rfl, ⟨[.int .i64 x.f2], [.int .i64 x.f3, .int .i64 x.f4, .int .i64 x.f5, .int .i64 x.f6, .int .i64 x.f7, .int .i64 x.f8], rfl, rfl, ⟨[.int .i64 x.f3], [.int .i64 x.f4, .int .i64 x.f5, .int .i64 x.f6, .int .i64 x.f7, .int .i64 x.f8], rfl, rfl, ⟨[.int .i64 x.f4], [.int .i64 x.f5, .int .i64 x.f6, .int .i64 x.f7, .int .i64 x.f8], rfl, rfl, ⟨[.int .i64 x.f5], [.int .i64 x.f6, .int .i64 x.f7, .int .i64 x.f8], rfl, rfl, ⟨[.int .i64 x.f6], [.int .i64 x.f7, .int .i64 x.f8], rfl, rfl, ⟨[.int .i64 x.f7], [.int .i64 x.f8], rfl, rfl, rfl⟩⟩⟩⟩⟩⟩⟩⟩
theorem k24_mkM (w : World) (base : Nat) (ok : Nat → Prop) (x : S24)  : k24.M w base ok x [.int .i64 x.f0, .int .i64 x.f1, .int .i64 x.f2, .int .i64 x.f3, .int .i64 x.f4, .int .i64 x.f5, .int .i64 x.f6, .int .i64 x.f7, .int .i64 x.f8] := ⟨[.int .i64 x.f0], [.int .i64 x.f1, .int .i64 x.f2, .int .i64 x.f3, .int .i64 x.f4, .int .i64 x.f5, .int .i64 x.f6, .int .i64 x.f7, .int .i64 x.f8], rfl, rfl, ⟨[.int .i64 x.f1], [.int .i64 x.f2, .int .i64 x.f3, .int .i64 x.f4, .int .i64 x.f5, .int .i64 x.f6, .int .i64 x.f7, .int .i64 x.f8], rfl, rfl, ⟨[.int .i64 x.f2], [.int .i64 x.f3, .int .i64 x.f4, .int .i64 x.f5, .int .i64 x.f6, .int .i64 x.f7, .int .i64 x.f8], rfl, rfl, ⟨[.int .i64 x.f3], [.int .i64 x.f4, .int .i64 x.f5, .int .i64 x.f6, .int .i64 x.f7, .int .i64 x.f8], rfl, rfl, ⟨[.int .i64 x.f4], [.int .i64 x.f5, .int .i64 x.f6, .int .i64 x.f7, .int .i64 x.f8], rfl, rfl, ⟨[.int .i64 x.f5], [.int .i64 x.f6, .int .i64 x.f7, .int .i64 x.f8], rfl, rfl, ⟨[.int .i64 x.f6], [.int .i64 x.f7, .int .i64 x.f8], rfl, rfl, ⟨[.int .i64 x.f7], [.int .i64 x.f8], rfl, rfl, rfl⟩⟩⟩⟩⟩⟩⟩⟩
def rd_T24 (xs : List S24) (i : Int) : S24 := xs.getD i.toNat z24
theorem at_T24 {w : World} {A : Option Addr} {n : Nat} {xs : List S24} (h : Kd.C k24 w A n xs) (i : Int) (h0 : 0 ≤ i) (h1 : i < n) : ∃ ad , A = some ad ∧ w.cell? (ad.add (i.toNat * 9)) = some (.int .i64 (rd_T24 xs i).f0) ∧ w.cell? ⟨(ad.add (i.toNat * 9)).block, (ad.add (i.toNat * 9)).off + 1, none⟩ = some (.int .i64 (rd_T24 xs i).f1) ∧ w.cell? ⟨(ad.add (i.toNat * 9)).block, (ad.add (i.toNat * 9)).off + 2, none⟩ = some (.int .i64 (rd_T24 xs i).f2) ∧ w.cell? ⟨(ad.add (i.toNat * 9)).block, (ad.add (i.toNat * 9)).off + 3, none⟩ = some (.int .i64 (rd_T24 xs i).f3) ∧ w.cell? ⟨(ad.add (i.toNat * 9)).block, (ad.add (i.toNat * 9)).off + 4, none⟩ = some (.int .i64 (rd_T24 xs i).f4) ∧ w.cell? ⟨(ad.add (i.toNat * 9)).block, (ad.add (i.toNat * 9)).off + 5, none⟩ = some (.int .i64 (rd_T24 xs i).f5) ∧ w.cell? ⟨(ad.add (i.toNat * 9)).block, (ad.add (i.toNat * 9)).off + 6, none⟩ = some (.int .i64 (rd_T24 xs i).f6) ∧ w.cell? ⟨(ad.add (i.toNat * 9)).block, (ad.add (i.toNat * 9)).off + 7, none⟩ = some (.int .i64 (rd_T24 xs i).f7) ∧ w.cell? ⟨(ad.add (i.toNat * 9)).block, (ad.add (i.toNat * 9)).off + 8, none⟩ = some (.int .i64 (rd_T24 xs i).f8) := by
  obtain ⟨ad, c, e, _, hK, hc0⟩ := Kd.C_get h z24 i h0 h1
  have hc : ∀ j u, c[j]? = some u → w.cell? (ad.add (i.toNat * 9 + j)) = some u := hc0
  obtain rfl := k24_open hK
  exact ⟨ad, e, hc 0 _ rfl, by rw [← add_field _ _ 1 (by omega)]; exact hc 1 _ rfl, by rw [← add_field _ _ 2 (by omega)]; exact hc 2 _ rfl, by rw [← add_field _ _ 3 (by omega)]; exact hc 3 _ rfl, by rw [← add_field _ _ 4 (by omega)]; exact hc 4 _ rfl, by rw [← add_field _ _ 5 (by omega)]; exact hc 5 _ rfl, by rw [← add_field _ _ 6 (by omega)]; exact hc 6 _ rfl, by rw [← add_field _ _ 7 (by omega)]; exact hc 7 _ rfl, by rw [← add_field _ _ 8 (by omega)]; exact hc 8 _ rfl⟩

/-! #### struct type 75 -/
structure S75 where
  f0 : Bool
  f1 : Bool
  f2 : S24
def z75 : S75 := ⟨false, false, z24⟩
def k75 : Kd S75 := Kd.iso (Kd.pair Kd.bool (Kd.pair Kd.bool k24)) (fun x : S75 => (x.f0, x.f1, x.f2))
theorem k75_open {w : World} {x : S75} {cs : List Value} (h : k75.K w x cs) : cs = [.bool x.f0, .bool x.f1, .int .i64 x.f2.f0, .int .i64 x.f2.f1, .int .i64 x.f2.f2, .int .i64 x.f2.f3, .int .i64 x.f2.f4, .int .i64 x.f2.f5, .int .i64 x.f2.f6, .int .i64 x.f2.f7, .int .i64 x.f2.f8] := by
  obtain ⟨_, _, rfl, rfl, ⟨_, _, rfl, rfl, s2⟩⟩ := h
  obtain rfl := k24_open s2
  exact rfl
theorem k75_openM {w : World} {base : Nat} {ok : Nat → Prop} {x : S75} {cs : List Value} (h : k75.M w base ok x cs) : cs = [.bool x.f0, .bool x.f1, .int .i64 x.f2.f0, .int .i64 x.f2.f1, .int .i64 x.f2.f2, .int .i64 x.f2.f3, .int .i64 x.f2.f4, .int .i64 x.f2.f5, .int .i64 x.f2.f6, .int .i64 x.f2.f7, .int .i64 x.f2.f8] := by
  obtain ⟨_, _, rfl, rfl, ⟨_, _, rfl, rfl, s2⟩⟩ := h
  obtain rfl := k24_openM s2
  exact rfl
theorem k75_mk (w : World) (x : S75)  : k75.K w x [.bool x.f0, .bool x.f1, .int .i64 x.f2.f0, .int .i64 x.f2.f1, .int .i64 x.f2.f2, .int .i64 x.f2.f3, .int .i64 x.f2.f4, .int .i64 x.f2.f5, .int .i64 x.f2.f6, .int .i64 x.f2.f7, .int .i64 x.f2.f8] := ⟨[.bool x.f0], [.bool x.f1, .int .i64 x.f2.f0, .int .i64 x.f2.f1, .int .i64 x.f2.f2, .int .i64 x.f2.f3, .int .i64 x.f2.f4, .int .i64 x.f2.f5, .int .i64 x.f2.f6, .int .i64 x.f2.f7, .int .i64 x.f2.f8], rfl, rfl, ⟨[.bool x.f1], [.int .i64 x.f2.f0, .int .i64 x.f2.f1, .int .i64 x.f2.f2, .int .i64 x.f2.f3, .int .i64 x.f2.f4, .int .i64 x.f2.f5, .int .i64 x.f2.f6, .int .i64 x.f2.f7, .int .i64 x.f2.f8], rfl, rfl, (k24_mk w x.f2 )⟩⟩
theorem k75_mkM (w : World) (base : Nat) (ok : Nat → Prop) (x : S75)  : k75.M w base ok x [.bool x.f0, .bool x.f1, .int .i64 x.f2.f0, .int .i64 x.f2.f1, .int .i64 x.f2.f2, .int .i64 x.f2.f3, .int .i64 x.f2.f4, .int .i64 x.f2.f5, .int .i64 x.f2.f6, .int .i64 x.f2.f7, .int .i64 x.f2.f8] := ⟨[.bool x.f0], [.bool x.f1, .int .i64 x.f2.f0, .int .i64 x.f2.f1, .int .i64 x.f2.f2, .int .i64 x.f2.f3, .int .i64 x.f2.f4, .int .i64 x.f2.f5, .int .i64 x.f2.f6, .int .i64 x.f2.f7, .int .i64 x.f2.f8], rfl, rfl, ⟨[.bool x.f1], [.int .i64 x.f2.f0, .int .i64 x.f2.f1, .int .i64 x.f2.f2, .int .i64 x.f2.f3, .int .i64 x.f2.f4, .int .i64 x.f2.f5, .int .i64 x.f2.f6, .int .i64 x.f2.f7, .int .i64 x.f2.f8], rfl, rfl, (k24_mkM w base ok x.f2 )⟩⟩
def rd_T75 (xs : List S75) (i : Int) : S75 := xs.getD i.toNat z75
theorem at_T75 {w : World} {A : Option Addr} {n : Nat} {xs : List S75} (h : Kd.C k75 w A n xs) (i : Int) (h0 : 0 ≤ i) (h1 : i < n) : ∃ ad , A = some ad ∧ w.cell? (ad.add (i.toNat * 11)) = some (.bool (rd_T75 xs i).f0) ∧ w.cell? ⟨(ad.add (i.toNat * 11)).block, (ad.add (i.toNat * 11)).off + 1, none⟩ = some (.bool (rd_T75 xs i).f1) ∧ w.cell? ⟨(ad.add (i.toNat * 11)).block, (ad.add (i.toNat * 11)).off + 2, none⟩ = some (.int .i64 (rd_T75 xs i).f2.f0) ∧ w.cell? ⟨(ad.add (i.toNat * 11)).block, (ad.add (i.toNat * 11)).off + 3, none⟩ = some (.int .i64 (rd_T75 xs i).f2.f1) ∧ w.cell? ⟨(ad.add (i.toNat * 11)).block, (ad.add (i.toNat * 11)).off + 4, none⟩ = some (.int .i64 (rd_T75 xs i).f2.f2) ∧ w.cell? ⟨(ad.add (i.toNat * 11)).block, (ad.add (i.toNat * 11)).off + 5, none⟩ = some (.int .i64 (rd_T75 xs i).f2.f3) ∧ w.cell? ⟨(ad.add (i.toNat * 11)).block, (ad.add (i.toNat * 11)).off + 6, none⟩ = some (.int .i64 (rd_T75 xs i).f2.f4) ∧ w.cell? ⟨(ad.add (i.toNat * 11)).block, (ad.add (i.toNat * 11)).off + 7, none⟩ = some (.int .i64 (rd_T75 xs i).f2.f5) ∧ w.cell? ⟨(ad.add (i.toNat * 11)).block, (ad.add (i.toNat * 11)).off + 8, none⟩ = some (.int .i64 (rd_T75 xs i).f2.f6) ∧ w.cell? ⟨(ad.add (i.toNat * 11)).block, (ad.add (i.toNat * 11)).off + 9, none⟩ = some (.int .i64 (rd_T75 xs i).f2.f7) ∧ w.cell? ⟨(ad.add (i.toNat * 11)).block, (ad.add (i.toNat * 11)).off + 10, none⟩ = some (.int .i64 (rd_T75 xs i).f2.f8) := by
  obtain ⟨ad, c, e, _, hK, hc0⟩ := Kd.C_get h z75 i h0 h1
  have hc : ∀ j u, c[j]? = some u → w.cell? (ad.add (i.toNat * 11 + j)) = some u := hc0
  obtain rfl := k75_open hK
  exact ⟨ad, e, hc 0 _ rfl, by rw [← add_field _ _ 1 (by omega)]; exact hc 1 _ rfl, by rw [← add_field _ _ 2 (by omega)]; exact hc 2 _ rfl, by rw [← add_field _ _ 3 (by omega)]; exact hc 3 _ rfl, by rw [← add_field _ _ 4 (by omega)]; exact hc 4 _ rfl, by rw [← add_field _ _ 5 (by omega)]; exact hc 5 _ rfl, by rw [← add_field _ _ 6 (by omega)]; exact hc 6 _ rfl, by rw [← add_field _ _ 7 (by omega)]; exact hc 7 _ rfl, by rw [← add_field _ _ 8 (by omega)]; exact hc 8 _ rfl, by rw [← add_field _ _ 9 (by omega)]; exact hc 9 _ rfl, by rw [← add_field _ _ 10 (by omega)]; exact hc 10 _ rfl⟩

end Go.Proofs.Ytdnhmlpjohojdaa.R
/-
  A map by what it holds: a list of keys and values, rising. Laws at the operations (look-up, store, delete), for a nil map too; a struct of a map and a size behind a pointer; what turns when it is written.
-/
namespace Go.Proofs.Ytdnhmlpjohojdaa.Tab
open Go.RowKit Go.Maps Go.ChangeMaps

/-- A fact laid aside: the walk's simp does not look into it; '.out' gives it back. -/
theorem hid {p : Prop} (h : p) : Hid p := h

/-- An element of whatever type, held as it is. -/
def heldR (v : Value) : Option (DataW Value × List MemPlace) := some (.held v, [])

section
variable {κ α : Type} (ke : κ → Lit) (ve : α → Value)

def dat (M : List (κ × α)) : DataW Value := .map (M.map fun p => (ke p.1, .held (ve p.2)))
def tlook (M : List (κ × α)) (k : κ) : Option α := (M.find? fun p => (ke p.1).sameKey (ke k)).map (·.2)
def tins (x : κ × α) : List (κ × α) → List (κ × α)
  | [] => [x]
  | y :: r => if (ke x.1).before (ke y.1) then x :: y :: r else y :: tins x r
def tdel (M : List (κ × α)) (k : κ) : List (κ × α) := M.filter fun p => !(ke p.1).sameKey (ke k)
def tput (M : List (κ × α)) (k : κ) (a : α) : List (κ × α) := tins ke (k, a) (tdel ke M k)
def Rising (M : List (κ × α)) : Prop := M.Pairwise fun p q => (ke p.1).before (ke q.1) = true

theorem dat_ins (x : κ × α) : ∀ M : List (κ × α), DataW.insert (ke x.1, .held (ve x.2)) (M.map fun p => (ke p.1, DataW.held (ve p.2))) = (tins ke x M).map fun p => (ke p.1, DataW.held (ve p.2))
  | [] => rfl
  | y :: r => by
    simp only [List.map_cons, DataW.insert, tins]
    split
    · simp
    · simp [dat_ins x r]
theorem dat_del (M : List (κ × α)) (k : κ) : (dat ke ve M).del (ke k) = dat ke ve (tdel ke M k) := by
  show DataW.map _ = DataW.map _
  rw [List.filter_map]
  rfl
theorem dat_put (M : List (κ × α)) (k : κ) (a : α) : (dat ke ve M).put (ke k) (.held (ve a)) = dat ke ve (tput ke M k a) := by
  show DataW.map _ = DataW.map _
  unfold tput
  rw [← dat_ins ke ve (k, a), List.filter_map]
  rfl
theorem dat_has (M : List (κ × α)) (k : κ) : Maps.has (dat ke ve M) (ke k) = (tlook ke M k).isSome := by
  show (M.map _).any _ = _
  unfold tlook
  rw [List.any_map, Option.isSome_map, List.isSome_find?]
  rfl
theorem dat_at (M : List (κ × α)) (k : κ) (z : Value) : (dat ke ve M).atKey (ke k) (.held z) = .held (((tlook ke M k).map ve).getD z) := by
  simp only [dat, DataW.atKey, tlook, List.find?_map, Function.comp_def]
  cases M.find? (fun p => (ke p.1).sameKey (ke k)) <;> rfl
theorem dat_size (M : List (κ × α)) : Maps.size (dat ke ve M) = M.length := by simp [Maps.size, dat]

/-- A map's value: nil, and empty; or block b, which holds M, at most n entries. -/
def MapAt (P : Program) (K : TypeId) (w : World) (mb : Option Nat) (n : Nat) (M : List (κ × α)) : Prop :=
  match mb with
  | none => M = []
  | some b => w.ownsMap P K heldR b n (dat ke ve M)
variable {ke ve}
variable {P : Program} {K : TypeId} {w w' : World} {mb : Option Nat} {n : Nat} {M : List (κ × α)}
theorem MapAt.mono {n' : Nat} (h : MapAt ke ve P K w mb n M) (hn : n ≤ n') : MapAt ke ve P K w mb n' M := by
  cases mb with
  | none => exact h
  | some b => exact World.ownsMap.mono h hn
theorem MapAt.lt {b : Nat} (h : MapAt ke ve P K w (some b) n M) : b < w.heap.size := World.ownsMap.lt h
theorem MapAt.move (h : MapAt ke ve P K w mb n M) (hm : ∀ b, mb = some b → w'.heap[b]? = w.heap[b]?) : MapAt ke ve P K w' mb n M := by
  cases mb with
  | none => exact h
  | some b =>
    obtain ⟨es, clock, hb, F, hs, hD⟩ := h
    exact ⟨es, clock, (hm b rfl).trans hb, F, hs, hD⟩
theorem MapAt.size (h : MapAt ke ve P K w mb n M) : M.length ≤ n := by
  cases mb with
  | none => cases h; exact Nat.zero_le _
  | some b => have := World.ownsMap.size_le h; rwa [dat_size] at this
theorem MapAt.isMap {b : Nat} (h : MapAt ke ve P K w (some b) n M) : ∃ es clock, w.heap[b]? = some (.map es clock) := by
  obtain ⟨es, clock, hb, _⟩ := h
  exact ⟨es, clock, hb⟩
theorem MapAt.rising (law : Keyed P K) (h : MapAt ke ve P K w mb n M) : Rising ke M := by
  cases mb with
  | none => cases h; exact List.Pairwise.nil
  | some b =>
    obtain ⟨es, clock, hb, F, hs, hD⟩ := h
    have hr := Maps.sorted_sorted law.one (es.toList.map (WideElems.rg P K heldR)) (Maps.fit_keys F) (Maps.fit_apart law F)
    simp only [dat, DataW.map.injEq] at hD
    rw [← hD] at hr
    exact List.pairwise_map.1 hr
end

/-! ### the operations -/
section
variable {κ α : Type} {ke : κ → Lit} {ve : α → Value} {P : Program} {K : TypeId} {w : World} {mb : Option Nat} {n : Nat} {M : List (κ × α)}

/-- 'm[k]', 'v, ok := m[k]', a nil map let in: an equation on the run. -/
theorem MapAt.run_look (c : Bool) (h : MapAt ke ve P K w mb n M) (law : Keyed P K) {t e : TypeId} (ht : P.underlying t = some (.map K e)) {z : Value} (hz : (zeroValue e).run P w = .ok z w) {key : Value} (k : κ) (hkey : keyOf P K key = some (ke k)) :
    (Instr.lookup t (.map mb) key c).run P w = .ok (if c then .tuple #[((tlook ke M k).map ve).getD z, .bool (tlook ke M k).isSome] else ((tlook ke M k).map ve).getD z) w := by
  cases mb with
  | none =>
    cases h
    simpa [tlook] using Maps.look_nil c law ht hz hkey
  | some b =>
    cases c with
    | true =>
      obtain ⟨v, ps, hrun, hv⟩ := World.ownsMap.look_ok h law ht hz (zd := .held z) (zp := []) rfl hkey
      rw [dat_at] at hv
      simp only [heldR, Option.some.injEq, Prod.mk.injEq, DataW.held.injEq] at hv
      rw [hrun, dat_has, ← hv.1]
      rfl
    | false =>
      obtain ⟨v, ps, hrun, hv⟩ := World.ownsMap.lookup h law ht hz (zd := .held z) (zp := []) rfl hkey
      rw [dat_at] at hv
      simp only [heldR, Option.some.injEq, Prod.mk.injEq, DataW.held.injEq] at hv
      rw [hrun, ← hv.1]
      rfl
variable {ops : Array Oper} {rest : List Oper} {o : Oper} {a : Act} {Q : Exit → Act → World → Prop}
theorem wpList_look (hg : o.guard = none) (m x : Operand) (t : TypeId) (c : Bool) (hop : o.op = Op.lookup t m x c) (e : TypeId) (law : Keyed P K) (ht : P.underlying t = some (.map K e)) (z : Value) (hz : (zeroValue e).run P w = .ok z w)
    (hm : a.eval m = .map mb) (h : MapAt ke ve P K w mb n M) (key : Value) (hx : a.eval x = key) (k : κ) (hkey : keyOf P K key = some (ke k))
    (hK : wpList P ops Q rest (a.put o.dst (if c then .tuple #[((tlook ke M k).map ve).getD z, .bool (tlook ke M k).isSome] else ((tlook ke M k).map ve).getD z)) w) : wpList P ops Q (o :: rest) a w := by
  refine wpList_plain hg fun K' hK' => ?_
  unfold Oper.wp
  simp only [execOp, hop, hm, hx, Sem.run_bind, h.run_look c law ht hz k hkey, Result.andThen_ok, Sem.run_pure]
  exact hK' _ _ hK
theorem wpList_store (hg : o.guard = none) (m x v : Operand) (t : TypeId) (hop : o.op = Op.mapUpdate t m x v) (e : TypeId) (law : Keyed P K) (ht : P.underlying t = some (.map K e)) (b : Nat)
    (hm : a.eval m = .map (some b)) (h : MapAt ke ve P K w (some b) n M) (hn : n < maxLen) (key : Value) (hx : a.eval x = key) (k : κ) (hkey : keyOf P K key = some (ke k)) (y : α) (hv : a.eval v = ve y)
    (hK : ∀ w', MapAt ke ve P K w' (some b) (n + 1) (tput ke M k y) → w.grownBy w' (some b) → wpList P ops Q rest (a.put o.dst undef) w') : wpList P ops Q (o :: rest) a w :=
  wpList_mapUpdate_own w hg m x v t hop K e law ht heldR b n (dat ke ve M) hm h hn key (ve y) (ke k) hx hv hkey (.held (ve y)) [] rfl
    fun w' r1 r2 => hK w' (by rw [dat_put] at r1; exact r1) r2
theorem wpList_drop (hg : o.guard = none) (m x : Operand) (t : TypeId) (hop : o.op = Op.call { callee := Callee.builtin Builtin.delete, args := #[m, x], argTypes := #[t, K] }) (e : TypeId) (law : Keyed P K) (ht : P.underlying t = some (.map K e)) (b : Nat)
    (hm : a.eval m = .map (some b)) (h : MapAt ke ve P K w (some b) n M) (key : Value) (hx : a.eval x = key) (k : κ) (hkey : keyOf P K key = some (ke k))
    (hK : ∀ w', MapAt ke ve P K w' (some b) n (tdel ke M k) → w.grownBy w' (some b) → wpList P ops Q rest (a.put o.dst (.tuple #[])) w') : wpList P ops Q (o :: rest) a w :=
  wpList_delete_own w hg m x t K hop e law ht heldR b n (dat ke ve M) hm h key (ke k) hx hkey
    fun w' r1 r2 => hK w' (by rw [dat_del] at r1; exact r1) r2.grown
end

/-! ### what turns: two cells of one block, and the blocks of a set -/
structure Turn (w w' : World) (bs off : Nat) (S : Nat → Prop) : Prop where
  os : w'.os = w.os
  tape : w'.tape = w.tape
  output : w'.output = w.output
  size : w.heap.size ≤ w'.heap.size
  block : ∀ k, k < w.heap.size → k ≠ bs → ¬ S k → w'.heap[k]? = w.heap[k]?
  cell : ∀ i, i ≠ off → i ≠ off + 1 → w'.cell? ⟨bs, i, none⟩ = w.cell? ⟨bs, i, none⟩
  frozen : ∀ i, w'.frozen? ⟨bs, i, none⟩ = w.frozen? ⟨bs, i, none⟩
  typ : ∀ T, (∃ cs fr, w.heap[bs]? = some (.cells cs T fr)) → ∃ cs fr, w'.heap[bs]? = some (.cells cs T fr)
section
variable {w w1 w2 : World} {bs off : Nat} {S S' : Nat → Prop}
theorem Turn.refl (w : World) (bs off : Nat) (S : Nat → Prop) : Turn w w bs off S := ⟨rfl, rfl, rfl, Nat.le_refl _, fun _ _ _ _ => rfl, fun _ _ _ => rfl, fun _ => rfl, fun _ h => h⟩
theorem Turn.trans (h : Turn w w1 bs off S) (h' : Turn w1 w2 bs off S') (hS : ∀ k, k < w.heap.size → S' k → S k) : Turn w w2 bs off S :=
  ⟨h'.os.trans h.os, h'.tape.trans h.tape, h'.output.trans h.output, Nat.le_trans h.size h'.size,
    fun k hk hne hs => (h'.block k (Nat.lt_of_lt_of_le hk h.size) hne (fun hs' => hs (hS k hk hs'))).trans (h.block k hk hne hs),
    fun i h0 h1 => (h'.cell i h0 h1).trans (h.cell i h0 h1), fun i => (h'.frozen i).trans (h.frozen i), fun T hT => h'.typ T (h.typ T hT)⟩
theorem Turn.mono (h : Turn w w1 bs off S) (hS : ∀ k, k < w.heap.size → S k → S' k) : Turn w w1 bs off S' :=
  ⟨h.os, h.tape, h.output, h.size, fun k hk hne hs => h.block k hk hne (fun hs' => hs (hS k hk hs')), h.cell, h.frozen, h.typ⟩
/-- What keeps block bs, and writes what is of S alone. -/
theorem Turn.grownBy (hb : bs < w.heap.size) {row : Option Nat} (hg : w.grownBy w1 row) (hne : some bs ≠ row) (hS : ∀ k, k < w.heap.size → some k = row → S k) : Turn w w1 bs off S :=
  have e := hg.block bs hb hne
  ⟨hg.os, hg.tape, hg.output, hg.size, fun k hk _ hs => hg.block k hk (fun h => hs (hS k hk h)), fun _ _ _ => World.cell?_of_block e, fun _ => World.frozen?_of_block e, fun T hT => by rw [e]; exact hT⟩
theorem Turn.below (hb : bs < w.heap.size) (h : Below w.heap.size w w1) : Turn w w1 bs off S :=
  Turn.grownBy hb (row := none) ⟨h.os, h.tape, h.output, h.size, fun k hk _ => h.block k hk⟩ (by simp) (fun _ _ h => by cases h)
theorem Turn.alloc (hb : bs < w.heap.size) (o : Obj) : Turn w (w.alloc o) bs off S := Turn.grownBy hb (World.grownBy_alloc w o none) (by simp) (fun _ _ h => by cases h)
/-- Below B nothing has turned, if what may turn lies from B on. -/
theorem Turn.under {B : Nat} (h : Turn w w1 bs off S) (hB : B ≤ w.heap.size) (hb : B ≤ bs) (hS : ∀ k, S k → B ≤ k) : Below B w w1 :=
  ⟨h.os, h.tape, h.output, h.size, fun k hk => h.block k (Nat.lt_of_lt_of_le hk hB) (by omega) (fun hs => by have := hS k hs; omega)⟩
theorem Turn.drew (h : Turn w w1 bs off S) : Turn w w1.drew bs off S := ⟨h.os, h.tape, h.output, h.size, h.block, h.cell, h.frozen, h.typ⟩
theorem Turn.setCell (w : World) (bs off : Nat) (S : Nat → Prop) {i : Nat} (hi : i = off ∨ i = off + 1) (v : Value) : Turn w (w.setCell ⟨bs, i, none⟩ v) bs off S := by
  refine ⟨rfl, rfl, rfl, by simp [World.setCell], fun k _ hne _ => Below.heap_setCell _ _ _ _ hne, fun j h0 h1 => ?_, fun j => World.frozen?_setCell _ _ _ _, fun T hT => ?_⟩
  · simp only [World.cell?, World.setCell, Array.getElem?_modify, if_true]
    cases w.heap[bs]? with
    | none => rfl
    | some ob =>
      cases ob <;> simp
      rw [Array.getElem?_setIfInBounds_ne]
      omega
  · obtain ⟨cs, fr, h⟩ := hT
    simp only [World.setCell, Array.getElem?_modify, if_true, h]
    exact ⟨_, fr, rfl⟩
end

/-! ### a struct of a map and a size, behind a pointer -/
section
variable {κ α : Type} (ke : κ → Lit) (ve : α → Value)
structure TabAt (P : Program) (K : TypeId) (w : World) (bs off : Nat) (mb : Option Nat) (n : Nat) (M : List (κ × α)) (sz : Int) : Prop where
  c0 : w.cell? ⟨bs, off, none⟩ = some (.map mb)
  c1 : w.cell? ⟨bs, off + 1, none⟩ = some (.int .i64 sz)
  f0 : w.frozen? ⟨bs, off, none⟩ = false
  f1 : w.frozen? ⟨bs, off + 1, none⟩ = false
  map : MapAt ke ve P K w mb n M
variable {ke ve} {P : Program} {K : TypeId} {w w' : World} {bs off : Nat} {mb : Option Nat} {n : Nat} {M : List (κ × α)} {sz : Int}
theorem TabAt.lt (h : TabAt ke ve P K w bs off mb n M sz) : bs < w.heap.size := World.block_lt_of_cell? w _ h.c0
theorem TabAt.ne (h : TabAt ke ve P K w bs off mb n M sz) : mb ≠ some bs := by
  rintro rfl
  obtain ⟨es, clock, hb⟩ := h.map.isMap
  have := h.c0
  simp [World.cell?, hb] at this
theorem TabAt.move (h : TabAt ke ve P K w bs off mb n M sz) (hb : w'.heap[bs]? = w.heap[bs]?) (hm : ∀ b, mb = some b → w'.heap[b]? = w.heap[b]?) : TabAt ke ve P K w' bs off mb n M sz :=
  ⟨(World.cell?_of_block hb).trans h.c0, (World.cell?_of_block hb).trans h.c1, (World.frozen?_of_block hb).trans h.f0, (World.frozen?_of_block hb).trans h.f1, h.map.move hm⟩
theorem TabAt.below (h : TabAt ke ve P K w bs off mb n M sz) (hb : Below w.heap.size w w') : TabAt ke ve P K w' bs off mb n M sz :=
  h.move (hb.block bs h.lt) (fun b e => by subst e; exact hb.block b h.map.lt)
/-- One that was made just now: no map, nothing in it. -/
theorem TabAt.new (w : World) (T : TypeId) (n : Nat) : TabAt ke ve P K (w.alloc (.cells #[.map none, .int .i64 0] T)) w.heap.size 0 none n ([] : List (κ × α)) 0 :=
  ⟨World.cell?_alloc_at _ _ _ _ rfl, World.cell?_alloc_at _ _ _ _ rfl, World.frozen?_alloc_at _ _ _ _ rfl, World.frozen?_alloc_at _ _ _ _ rfl, rfl⟩
theorem TabAt.drew (h : TabAt ke ve P K w bs off mb n M sz) : TabAt ke ve P K w.drew bs off mb n M sz := h.move rfl (fun _ _ => rfl)
/-- Another one has turned. -/
theorem TabAt.turn (h : TabAt ke ve P K w bs off mb n M sz) {bs' off' : Nat} {S : Nat → Prop} (ht : Turn w w' bs' off' S) (hne : bs = bs' → off + 1 < off' ∨ off' + 1 < off) (hS : ¬ S bs) (hm : ∀ b, mb = some b → b ≠ bs' ∧ ¬ S b) : TabAt ke ve P K w' bs off mb n M sz := by
  have hmap : MapAt ke ve P K w' mb n M := h.map.move (fun b e => by
    obtain ⟨h0, h1⟩ := hm b e
    subst e
    exact ht.block b h.map.lt h0 h1)
  by_cases e : bs = bs'
  · subst e
    have := hne rfl
    exact ⟨(ht.cell _ (by omega) (by omega)).trans h.c0, (ht.cell _ (by omega) (by omega)).trans h.c1, (ht.frozen _).trans h.f0, (ht.frozen _).trans h.f1, hmap⟩
  · have hb := ht.block bs h.lt e hS
    exact ⟨(World.cell?_of_block hb).trans h.c0, (World.cell?_of_block hb).trans h.c1, (World.frozen?_of_block hb).trans h.f0, (World.frozen?_of_block hb).trans h.f1, hmap⟩
end

/-- Of two that share no map, one turns: the other one stays; and they share none behind. -/
theorem TabAt.other {κ α β : Type} {ke : κ → Lit} {ve : α → Value} {ve' : β → Value} {P : Program} {K : TypeId} {w w' : World} {ba bb oa ob : Nat} {ma mb : Option Nat} {n n' : Nat} {M : List (κ × α)} {M' : List (κ × β)} {sz sz' : Int} {k : Nat}
    (hA : TabAt ke ve P K w ba oa ma n M sz) (hB : TabAt ke ve' P K w bb ob mb n' M' sz') (hab : bb = ba → ob + 1 < oa ∨ oa + 1 < ob) (hmm : ∀ k, ma = some k → mb ≠ some k) (hk : ma = some k ∨ ma = none ∧ k = w.heap.size) (ht : Turn w w' ba oa (fun j => j = k)) :
    TabAt ke ve' P K w' bb ob mb n' M' sz' ∧ mb ≠ some k := by
  have hmk : mb ≠ some k := by
    rcases hk with hk | ⟨_, hk⟩
    · exact hmm k hk
    · rintro rfl
      have := hB.map.lt
      omega
  refine ⟨hB.turn ht hab (fun e => ?_) (fun b e => ⟨fun e' => ?_, fun e' => hmk (by rw [e, e'])⟩), hmk⟩
  · subst e
    rcases hk with hk | ⟨_, hk⟩
    · subst hk
      obtain ⟨es, clock, hb⟩ := hA.map.isMap
      have := hB.c0
      simp [World.cell?, hb] at this
    · have := hB.lt
      omega
  · subst e e'
    obtain ⟨es, clock, hb⟩ := hB.map.isMap
    have := hA.c0
    simp [World.cell?, hb] at this

/-! ### a size and an entry written -/
section
variable {κ α : Type} {ke : κ → Lit} {ve : α → Value} {P : Program} {K : TypeId} {w w1 w2 : World} {bs off b n n' : Nat} {M M' : List (κ × α)} {sz sz' : Int}
theorem cell_setCell_same {a : Addr} {u v : Value} (h : w.cell? a = some u) : (w.setCell a v).cell? a = some v := by
  obtain ⟨bl, i, sp⟩ := a
  simp only [World.cell?, World.setCell, Array.getElem?_modify, if_true] at h ⊢
  cases hb : w.heap[bl]? with
  | none => rw [hb] at h; cases h
  | some ob =>
    rw [hb] at h
    cases ob <;> simp at h ⊢
    obtain ⟨h1, h2⟩ := h
    have hi := (Array.getElem?_eq_some_iff.1 h2).1
    simp [h1, hi]
theorem TabAt.sized (h : TabAt ke ve P K w bs off (some b) n M sz) (sz' : Int) : TabAt ke ve P K (w.setCell ⟨bs, off + 1, none⟩ (.int .i64 sz')) bs off (some b) n M sz' := by
  have T : Turn w (w.setCell ⟨bs, off + 1, none⟩ (.int .i64 sz')) bs off (fun _ => False) := Turn.setCell w bs off _ (.inr rfl) _
  refine ⟨?_, cell_setCell_same h.c1, by rw [World.frozen?_setCell]; exact h.f0, by rw [World.frozen?_setCell]; exact h.f1, h.map.move fun b' e => Below.heap_setCell _ _ _ _ fun e' => h.ne (by rw [e, e'])⟩
  exact (World.cell?_setCell_other _ _ _ _ (fun e => by injection e; omega)).trans h.c0
/-- A map is made where there was none. -/
theorem TabAt.made (h : TabAt ke ve P K w bs off none n M sz) (sz' : Int) : TabAt ke ve P K (((w.setCell ⟨bs, off + 1, none⟩ (.int .i64 sz')).setCell ⟨bs, off, none⟩ (.map (some w.heap.size))).alloc (.map #[] 0)) bs off (some w.heap.size) 0 M sz' := by
  have hm : M = [] := h.map
  subst hm
  have hlt := h.lt
  have hz : ((w.setCell ⟨bs, off + 1, none⟩ (.int .i64 sz')).setCell ⟨bs, off, none⟩ (.map (some w.heap.size))).heap.size = w.heap.size := by simp [World.setCell]
  have hb := Below.heap_alloc ((w.setCell ⟨bs, off + 1, none⟩ (.int .i64 sz')).setCell ⟨bs, off, none⟩ (.map (some w.heap.size))) (.map #[] 0) bs (by rw [hz]; exact hlt)
  have c1 := cell_setCell_same (v := .int .i64 sz') h.c1
  have c0 : (w.setCell ⟨bs, off + 1, none⟩ (.int .i64 sz')).cell? ⟨bs, off, none⟩ = some (.map none) := (World.cell?_setCell_other _ _ _ _ (fun e => by injection e; omega)).trans h.c0
  refine ⟨(World.cell?_of_block hb).trans (cell_setCell_same c0), (World.cell?_of_block hb).trans ((World.cell?_setCell_other _ _ _ _ (fun e => by injection e; omega)).trans c1), (World.frozen?_of_block hb).trans (by rw [World.frozen?_setCell, World.frozen?_setCell]; exact h.f0), (World.frozen?_of_block hb).trans (by rw [World.frozen?_setCell, World.frozen?_setCell]; exact h.f1), ?_⟩
  have h2 := World.ownsMap_made (H := Value) ((w.setCell ⟨bs, off + 1, none⟩ (.int .i64 sz')).setCell ⟨bs, off, none⟩ (.map (some w.heap.size))) P K heldR
  rw [hz] at h2
  exact h2
/-- The map's block b is written; what lies in it is told anew. -/
theorem TabAt.stored (h : TabAt ke ve P K w bs off (some b) n M sz) (hg : w.grownBy w1 (some b)) (hm : MapAt ke ve P K w1 (some b) n' M') : TabAt ke ve P K w1 bs off (some b) n' M' sz := by
  have e := hg.block bs h.lt (fun e => h.ne e.symm)
  exact ⟨(World.cell?_of_block e).trans h.c0, (World.cell?_of_block e).trans h.c1, (World.frozen?_of_block e).trans h.f0, (World.frozen?_of_block e).trans h.f1, hm⟩
theorem TabAt.begun (h : TabAt ke ve P K w bs off none n M sz) (hg : (((w.setCell ⟨bs, off + 1, none⟩ (.int .i64 sz')).setCell ⟨bs, off, none⟩ (.map (some w.heap.size))).alloc (.map #[] 0)).drew.grownBy w1 (some w.heap.size)) (hm : MapAt ke ve P K w1 (some w.heap.size) n' M') :
    TabAt ke ve P K w1 bs off (some w.heap.size) n' M' sz' ∧ Turn w w1 bs off (fun k => k = w.heap.size) := by
  have hlt := h.lt
  refine ⟨(h.made sz').drew.stored hg hm, ?_⟩
  have T : Turn w (((w.setCell ⟨bs, off + 1, none⟩ (.int .i64 sz')).setCell ⟨bs, off, none⟩ (.map (some w.heap.size))).alloc (.map #[] 0)).drew bs off (fun k => k = w.heap.size) :=
    (((Turn.setCell w bs off _ (.inr rfl) _).trans (Turn.setCell _ bs off _ (.inl rfl) _) (fun _ _ h => h)).trans (Turn.alloc (S := fun k => k = w.heap.size) (by simpa [World.setCell] using hlt) _) (fun _ _ h => h)).drew
  exact T.trans (Turn.grownBy (off := off) (S := fun k => k = w.heap.size) (by have := T.size; omega) hg (fun e => by injection e; omega) (fun k _ e => by simpa using e)) (fun _ _ h => h)
theorem TabAt.written (h : TabAt ke ve P K w bs off (some b) n M sz) (hg : (w.setCell ⟨bs, off + 1, none⟩ (.int .i64 sz')).drew.grownBy w1 (some b)) (hm : MapAt ke ve P K w1 (some b) n' M') :
    TabAt ke ve P K w1 bs off (some b) n' M' sz' ∧ Turn w w1 bs off (fun k => k = b) := by
  refine ⟨(h.sized sz').drew.stored hg hm, ?_⟩
  have T : Turn w (w.setCell ⟨bs, off + 1, none⟩ (.int .i64 sz')).drew bs off (fun k => k = b) := (Turn.setCell w bs off _ (.inr rfl) _).drew
  exact T.trans (Turn.grownBy (off := off) (S := fun k => k = b) (by have := h.lt; simpa [World.setCell, World.drew] using this) hg (fun e => h.ne e.symm) (fun k _ e => by simpa using e)) (fun _ _ h => h)
end

/-! ### what one gives behind another -/
section
variable {κ α : Type} {ke : κ → Lit}
/-- Keys that are one read as one. -/
def OneKey (ke : κ → Lit) : Prop := ∀ a b, (ke a).sameKey (ke b) = true ↔ a = b
theorem OneKey.ne (h : OneKey ke) {a b : κ} (hne : a ≠ b) : (ke a).sameKey (ke b) = false := by
  cases e : (ke a).sameKey (ke b)
  · rfl
  · exact absurd ((h a b).1 e) hne
theorem OneKey.self (h : OneKey ke) (a : κ) : (ke a).sameKey (ke a) = true := (h a a).2 rfl
theorem find_tins_hit {f : κ × α → Bool} {x : κ × α} (hx : f x = true) : ∀ l : List (κ × α), (∀ p ∈ l, f p = false) → (tins ke x l).find? f = some x
  | [], _ => by simp [tins, hx]
  | y :: r, h => by
    unfold tins
    split
    · simp [hx]
    · simp [h y (by simp), find_tins_hit hx r (fun p hp => h p (by simp [hp]))]
theorem find_tins_miss {f : κ × α → Bool} {x : κ × α} (hx : f x = false) : ∀ l : List (κ × α), (tins ke x l).find? f = l.find? f
  | [] => by simp [tins, hx]
  | y :: r => by
    unfold tins
    split
    · simp [hx]
    · cases hy : f y <;> simp [hy, find_tins_miss hx r]
theorem find_tdel (h : OneKey ke) {M : List (κ × α)} {k k' : κ} (hne : k ≠ k') : (tdel ke M k).find? (fun p => (ke p.1).sameKey (ke k')) = M.find? (fun p => (ke p.1).sameKey (ke k')) := by
  unfold tdel
  refine Maps.find_filter_keep (fun p hp => ?_) M
  have e := (h _ _).1 hp
  rw [e, h.ne (Ne.symm hne)]
  rfl
theorem tlook_put_same (h : OneKey ke) (M : List (κ × α)) (k : κ) (a : α) : tlook ke (tput ke M k a) k = some a := by
  unfold tlook tput
  rw [find_tins_hit (f := fun p => (ke p.1).sameKey (ke k)) (h.self k)]
  · rfl
  · intro p hp
    unfold tdel at hp
    simpa using (List.mem_filter.1 hp).2
theorem tlook_put_other (h : OneKey ke) (M : List (κ × α)) {k k' : κ} (hne : k ≠ k') (a : α) : tlook ke (tput ke M k a) k' = tlook ke M k' := by
  unfold tlook tput
  rw [find_tins_miss (f := fun p => (ke p.1).sameKey (ke k')) (h.ne hne), find_tdel h hne]
theorem tlook_del_same (h : OneKey ke) (M : List (κ × α)) (k : κ) : tlook ke (tdel ke M k) k = none := by
  unfold tlook
  rw [List.find?_eq_none.2 (fun p hp => by unfold tdel at hp; simpa using (List.mem_filter.1 hp).2)]
  rfl
theorem tlook_del_other (h : OneKey ke) (M : List (κ × α)) {k k' : κ} (hne : k ≠ k') : tlook ke (tdel ke M k) k' = tlook ke M k' := by
  unfold tlook
  rw [find_tdel h hne]
theorem mem_tins (x p : κ × α) : ∀ l : List (κ × α), p ∈ tins ke x l ↔ p = x ∨ p ∈ l
  | [] => by simp [tins]
  | y :: r => by
    unfold tins
    split
    · simp
    · simp only [List.mem_cons, mem_tins x p r]
      constructor
      · rintro (h | h | h)
        · exact .inr (.inl h)
        · exact .inl h
        · exact .inr (.inr h)
      · rintro (h | h | h)
        · exact .inr (.inl h)
        · exact .inl h
        · exact .inr (.inr h)
theorem length_tins (x : κ × α) : ∀ l : List (κ × α), (tins ke x l).length = l.length + 1
  | [] => rfl
  | y :: r => by
    unfold tins
    split
    · rfl
    · simp [length_tins x r]
theorem map_tins_sum (f : κ × α → Int) (x : κ × α) : ∀ l : List (κ × α), ((tins ke x l).map f).sum = f x + (l.map f).sum
  | [] => by simp [tins]
  | y :: r => by
    unfold tins
    split
    · simp
    · simp only [List.map_cons, List.sum_cons, map_tins_sum f x r]
      omega
end
/-- Keys that are strings. -/
abbrev ks (s : ByteArray) : Lit := .string s.data.toList
theorem bytes_ext {s t : ByteArray} (h : s.data.toList = t.data.toList) : s = t := by
  cases s; cases t
  simp only [ByteArray.mk.injEq]
  exact Array.toList_inj.1 h
theorem ks_one : OneKey ks := fun a b => ⟨fun h => bytes_ext (by simpa [ks, Lit.sameKey] using h), fun h => by subst h; simp [ks, Lit.sameKey]⟩
end Go.Proofs.Ytdnhmlpjohojdaa.Tab
/-
  A region that draws its order, whose operations only read and whose calls keep a property of the world: walked once, in the order of the text.
-/
namespace Go.Proofs.Ytdnhmlpjohojdaa.Line
open Go.RowKit
/-- A world of which F holds. -/
structure Cls (F : World → Prop) where
  W : World
  h : F W
variable {P : Program} {F : World → Prop}
theorem wp_region_cls {id : Nat} {Q : Exit → Act → World → Prop} {a : Act} {w : World} {l : List Oper} (hm : P.follows .mixedOrders = true) (hB : Region.lexB .any l.toArray = true) (hF : F w.drew)
    (h : wpQuiet P l.toArray (fun w' => ∃ d : Cls F, w' = d.W) (fun a' => ∀ W', F W' → Q .normal a' W') l a) : (Code.region id l.toArray true).wp P Q a w := by
  refine wp_region_quiet (C := fun w' => ∃ d : Cls F, w' = d.W) hm hB ⟨⟨_, hF⟩, rfl⟩ ?_
  have e : (fun a' => ∀ W', F W' → Q .normal a' W') = (fun a' => ∀ w', (∃ d : Cls F, w' = d.W) → Q .normal a' w') := by
    funext a'
    exact propext ⟨fun h w' ⟨d, hd⟩ => hd ▸ h d.W d.h, fun h W' hW => h _ ⟨⟨W', hW⟩, rfl⟩⟩
  rw [← e]
  exact h
/-- A call that keeps F. -/
theorem cls_call {f : FuncId} {args : Array Value} {v : Value} (mv : ∀ W W', F W → Below W.heap.size W W' → F W') (h : ∀ W, F W → Calls P f args W fun e w' => e = .returned v ∧ Below W.heap.size W w') (d : Cls F) :
    Calls P f args d.W fun e w'' => e = .returned v ∧ ∃ d' : Cls F, w'' = d'.W :=
  (h d.W d.h).mono fun e w' ⟨he, hb⟩ => ⟨he, ⟨w', mv _ _ d.h hb⟩, rfl⟩
end Go.Proofs.Ytdnhmlpjohojdaa.Line
/-
  span.Reader: its functions, by their contracts.
-/
namespace Go.Proofs.Ytdnhmlpjohojdaa.Span
open Go.RowKit Go.Proofs.Ytdnhmlpjohojdaa.Tab Go.Proofs.Ytdnhmlpjohojdaa.R Go.Proofs.YtdnhmlpjohojdaaW.PrintWords Go.Proofs.YtdnhmlpjohojdaaW.PrintLast Go.Proofs.YtdnhmlpjohojdaaW.PrintMore
/-- A reader of b that has taken i bytes. -/
structure RdAt (w : World) (p : Nat) (b : ByteArray) (i : Nat) (e : Int) : Prop where
  box : w.heap[p]? = some (.cells #[.string b, .int .i64 i, .int .i64 e] 100 (0, 0))
theorem RdAt.below {w w' : World} {p : Nat} {b : ByteArray} {i : Nat} {e : Int} (h : RdAt w p b i e) (hb : Below w.heap.size w w') : RdAt w' p b i e := ⟨(hb.block _ (blk_lt h.box)).trans h.box⟩
theorem grown_below {w w' : World} {p : Nat} (hb : Below w.heap.size w w') : w.grownBy w' (some p) := ⟨hb.os, hb.tape, hb.output, hb.size, fun k hk _ => hb.block k hk⟩
theorem grown_set {w w' : World} {p i : Nat} {v : Value} (h : w.grownBy w' (some p)) : w.grownBy (w'.setCell ⟨p, i, none⟩ v) (some p) :=
  ⟨h.os, h.tape, h.output, by simpa using h.size, fun k hk hne => (Below.heap_setCell w' ⟨p, i, none⟩ v k (fun e => hne (by rw [e]))).trans (h.block k hk hne)⟩
theorem grown_trans {w w1 w2 : World} {p : Nat} (h : w.grownBy w1 (some p)) (h' : w1.grownBy w2 (some p)) : w.grownBy w2 (some p) :=
  ⟨h'.os.trans h.os, h'.tape.trans h.tape, h'.output.trans h.output, Nat.le_trans h.size h'.size, fun k hk hne => (h'.block k (Nat.lt_of_lt_of_le hk h.size) hne).trans (h.block k hk hne)⟩
/-- A reader's own block turns alone. -/
def RdPost (w : World) (p : Nat) (b : ByteArray) (v : Value) (i : Nat) (e0 : Int) (e : Ending) (w' : World) : Prop := e = .returned v ∧ RdAt w' p b i e0 ∧ w.grownBy w' (some p)

set_option maxRecDepth 100000 in
set_option maxHeartbeats 1000000 in
theorem take_u_off {w : World} {p : Nat} {b : ByteArray} {i : Nat} {e0 : Int} (h : RdAt w p b i e0) (he : e0 ≠ 0) (fv : Value) : Calls Try.prog 54 #[.pointer (some ⟨p, 0, none⟩), fv] w (RdPost w p b (.int .u64 0) i e0) := by
  have x2 : w.cell? ⟨p, 2, none⟩ = some (.int .i64 e0) := blk_cell h.box 2
  have H := Lib.hid h
  have h1 : (e0 != 0) = true := bne_iff_ne.2 he
  have h2 : (e0 == 0) = false := beq_eq_false_iff_ne.2 he
  have h3 : decide (e0 = 0) = false := decide_eq_false he
  clear h he
  go_enter Try.func54, Try.ntmps54
  go_wp2
  go_ret
  exact ⟨rfl, H.out, grown_below (Below.refl _ _)⟩
set_option maxRecDepth 100000 in
set_option maxHeartbeats 1000000 in
theorem take_u {w : World} {p : Nat} {b : ByteArray} {i : Nat} (h : RdAt w p b i 0) (hi : i ≤ b.size) (hm : b.size ≤ 9223372036854775807) (n : Int) (k : Nat) (e1 : Int) (hk : i + k ≤ b.size)
    (HV : ∀ W, Below w.heap.size w W → Calls Try.prog 55 #[.string (b.extract i b.size)] W fun e w' => e = .returned (.tuple #[.int .u64 n, .int .i64 k, .int .i64 e1]) ∧ Below W.heap.size W w') :
    Calls Try.prog 54 #[.pointer (some ⟨p, 0, none⟩), .func (.func 55) #[] #[]] w (if e1 = 0 then RdPost w p b (.int .u64 n) (i + k) 0 else RdPost w p b (.int .u64 0) i e1) := by
  obtain ⟨F, hFe⟩ : ∃ F : World → Prop, F = fun W => Below w.heap.size w W := ⟨_, rfl⟩
  have hF : F w.drew := by rw [hFe]; exact (Below.refl _ _).drew
  have bx : ∀ W, F W → W.heap[p]? = some (.cells #[.string b, .int .i64 i, .int .i64 0] 100 (0, 0)) := fun W hW => by rw [hFe] at hW; exact (h.below hW).box
  have y0 : ∀ d : Line.Cls F, d.W.cell? ⟨p, 0, none⟩ = some (.string b) := fun d => blk_cell (bx _ d.h) 0
  have y1 : ∀ d : Line.Cls F, d.W.cell? ⟨p, 1, none⟩ = some (.int .i64 i) := fun d => blk_cell (bx _ d.h) 1
  have mv : ∀ W W', F W → Below W.heap.size W W' → F W' := fun W W' h hb => by rw [hFe] at h ⊢; exact h.trans (hb.mono h.size)
  have QV := Lib.hid (Line.cls_call mv (fun W hW => HV W (by rw [hFe] at hW; exact hW)))
  have ne : Nonempty (Line.Cls F) := ⟨⟨_, hF⟩⟩
  have BX := Lib.hid bx
  have HFE := Lib.hid hFe
  have x2 : w.cell? ⟨p, 2, none⟩ = some (.int .i64 0) := blk_cell h.box 2
  have i0 : (0 : Int) ≤ (i : Int) := by omega
  have i1 : (i : Int) ≤ (b.size : Int) := by omega
  have ik : (i : Int) + (k : Int) ≤ 9223372036854775807 := by omega
  clear hFe bx mv HV h
  by_cases he : e1 = 0
  · subst he
    rw [if_pos rfl]
    go_enter Try.func54, Try.ntmps54
    go_wp2
    refine Line.wp_region_cls (F := F) (by kernel_rfl) (by kernel_rfl) hF ?_
    repeat (go_big_quiet_step (exact QV.out _))
    refine wpQuiet_nil ?_
    intro W1 h1
    have bb := BX.out _ h1
    rw [HFE.out] at h1
    have H1 := Lib.hid h1
    have c1 : W1.cell? ⟨p, 1, none⟩ = some (.int .i64 i) := blk_cell bb 1
    have f1 : W1.frozen? ⟨p, 1, none⟩ = false := blk_frozen bb 1
    have BB := Lib.hid bb
    clear bb h1 y0 y1 ne QV HFE BX
    go_wp2
    go_ret
    refine ⟨rfl, ⟨?_⟩, grown_set (grown_below H1.out)⟩
    exact blk_put BB.out 1 _ rfl
  · rw [if_neg he]
    have h1 : (e1 != 0) = true := bne_iff_ne.2 he
    have h2 : (e1 == 0) = false := beq_eq_false_iff_ne.2 he
    have h3 : decide (e1 = 0) = false := decide_eq_false he
    go_enter Try.func54, Try.ntmps54
    go_wp2
    refine Line.wp_region_cls (F := F) (by kernel_rfl) (by kernel_rfl) hF ?_
    repeat (go_big_quiet_step (exact QV.out _))
    refine wpQuiet_nil ?_
    intro W1 h1'
    have bb := BX.out _ h1'
    rw [HFE.out] at h1'
    have H1 := Lib.hid h1'
    have c2 : W1.cell? ⟨p, 2, none⟩ = some (.int .i64 0) := blk_cell bb 2
    have f2 : W1.frozen? ⟨p, 2, none⟩ = false := blk_frozen bb 2
    have BB := Lib.hid bb
    clear bb h1' y0 y1 ne QV HFE BX
    go_wp2
    go_ret
    refine ⟨rfl, ⟨?_⟩, grown_set (grown_below H1.out)⟩
    exact blk_put BB.out 2 _ rfl

set_option maxRecDepth 100000 in
set_option maxHeartbeats 1000000 in
theorem take_i_off {w : World} {p : Nat} {b : ByteArray} {i : Nat} {e0 : Int} (h : RdAt w p b i e0) (he : e0 ≠ 0) (fv : Value) : Calls Try.prog 56 #[.pointer (some ⟨p, 0, none⟩), fv] w (RdPost w p b (.int .i64 0) i e0) := by
  have x2 : w.cell? ⟨p, 2, none⟩ = some (.int .i64 e0) := blk_cell h.box 2
  have H := Lib.hid h
  have h1 : (e0 != 0) = true := bne_iff_ne.2 he
  have h2 : (e0 == 0) = false := beq_eq_false_iff_ne.2 he
  have h3 : decide (e0 = 0) = false := decide_eq_false he
  clear h he
  go_enter Try.func56, Try.ntmps56
  go_wp2
  go_ret
  exact ⟨rfl, H.out, grown_below (Below.refl _ _)⟩
set_option maxRecDepth 100000 in
set_option maxHeartbeats 1000000 in
theorem take_i {w : World} {p : Nat} {b : ByteArray} {i : Nat} (h : RdAt w p b i 0) (hi : i ≤ b.size) (hm : b.size ≤ 9223372036854775807) (x : Value) (n : Int) (k : Nat) (e1 : Int) (hk : i + k ≤ b.size)
    (HV : ∀ W, Below w.heap.size w W → Calls Try.prog 57 #[.string (b.extract i b.size), x] W fun e w' => e = .returned (.tuple #[.int .i64 n, .int .i64 k, .int .i64 e1]) ∧ Below W.heap.size W w') :
    Calls Try.prog 56 #[.pointer (some ⟨p, 0, none⟩), .func (.func 57) #[] #[x]] w (if e1 = 0 then RdPost w p b (.int .i64 n) (i + k) 0 else RdPost w p b (.int .i64 0) i e1) := by
  obtain ⟨F, hFe⟩ : ∃ F : World → Prop, F = fun W => Below w.heap.size w W := ⟨_, rfl⟩
  have hF : F w.drew := by rw [hFe]; exact (Below.refl _ _).drew
  have bx : ∀ W, F W → W.heap[p]? = some (.cells #[.string b, .int .i64 i, .int .i64 0] 100 (0, 0)) := fun W hW => by rw [hFe] at hW; exact (h.below hW).box
  have y0 : ∀ d : Line.Cls F, d.W.cell? ⟨p, 0, none⟩ = some (.string b) := fun d => blk_cell (bx _ d.h) 0
  have y1 : ∀ d : Line.Cls F, d.W.cell? ⟨p, 1, none⟩ = some (.int .i64 i) := fun d => blk_cell (bx _ d.h) 1
  have mv : ∀ W W', F W → Below W.heap.size W W' → F W' := fun W W' h hb => by rw [hFe] at h ⊢; exact h.trans (hb.mono h.size)
  have QV := Lib.hid (Line.cls_call mv (fun W hW => HV W (by rw [hFe] at hW; exact hW)))
  have ne : Nonempty (Line.Cls F) := ⟨⟨_, hF⟩⟩
  have BX := Lib.hid bx
  have HFE := Lib.hid hFe
  have x2 : w.cell? ⟨p, 2, none⟩ = some (.int .i64 0) := blk_cell h.box 2
  have i0 : (0 : Int) ≤ (i : Int) := by omega
  have i1 : (i : Int) ≤ (b.size : Int) := by omega
  have ik : (i : Int) + (k : Int) ≤ 9223372036854775807 := by omega
  clear hFe bx mv HV h
  by_cases he : e1 = 0
  · subst he
    rw [if_pos rfl]
    go_enter Try.func56, Try.ntmps56
    go_wp2
    refine Line.wp_region_cls (F := F) (by kernel_rfl) (by kernel_rfl) hF ?_
    repeat (go_big_quiet_step (exact QV.out _))
    refine wpQuiet_nil ?_
    intro W1 h1
    have bb := BX.out _ h1
    rw [HFE.out] at h1
    have H1 := Lib.hid h1
    have c1 : W1.cell? ⟨p, 1, none⟩ = some (.int .i64 i) := blk_cell bb 1
    have f1 : W1.frozen? ⟨p, 1, none⟩ = false := blk_frozen bb 1
    have BB := Lib.hid bb
    clear bb h1 y0 y1 ne QV HFE BX
    go_wp2
    go_ret
    refine ⟨rfl, ⟨?_⟩, grown_set (grown_below H1.out)⟩
    exact blk_put BB.out 1 _ rfl
  · rw [if_neg he]
    have h1 : (e1 != 0) = true := bne_iff_ne.2 he
    have h2 : (e1 == 0) = false := beq_eq_false_iff_ne.2 he
    have h3 : decide (e1 = 0) = false := decide_eq_false he
    go_enter Try.func56, Try.ntmps56
    go_wp2
    refine Line.wp_region_cls (F := F) (by kernel_rfl) (by kernel_rfl) hF ?_
    repeat (go_big_quiet_step (exact QV.out _))
    refine wpQuiet_nil ?_
    intro W1 h1'
    have bb := BX.out _ h1'
    rw [HFE.out] at h1'
    have H1 := Lib.hid h1'
    have c2 : W1.cell? ⟨p, 2, none⟩ = some (.int .i64 0) := blk_cell bb 2
    have f2 : W1.frozen? ⟨p, 2, none⟩ = false := blk_frozen bb 2
    have BB := Lib.hid bb
    clear bb h1' y0 y1 ne QV HFE BX
    go_wp2
    go_ret
    refine ⟨rfl, ⟨?_⟩, grown_set (grown_below H1.out)⟩
    exact blk_put BB.out 2 _ rfl

set_option maxRecDepth 100000 in
set_option maxHeartbeats 1000000 in
theorem take_s_off {w : World} {p : Nat} {b : ByteArray} {i : Nat} {e0 : Int} (h : RdAt w p b i e0) (he : e0 ≠ 0) (fv : Value) : Calls Try.prog 58 #[.pointer (some ⟨p, 0, none⟩), fv] w (RdPost w p b (.string ⟨#[]⟩) i e0) := by
  have x2 : w.cell? ⟨p, 2, none⟩ = some (.int .i64 e0) := blk_cell h.box 2
  have H := Lib.hid h
  have h1 : (e0 != 0) = true := bne_iff_ne.2 he
  have h2 : (e0 == 0) = false := beq_eq_false_iff_ne.2 he
  have h3 : decide (e0 = 0) = false := decide_eq_false he
  clear h he
  go_enter Try.func58, Try.ntmps58
  go_wp2
  go_ret
  exact ⟨rfl, H.out, grown_below (Below.refl _ _)⟩
set_option maxRecDepth 100000 in
set_option maxHeartbeats 1000000 in
theorem take_s {w : World} {p : Nat} {b : ByteArray} {i : Nat} (h : RdAt w p b i 0) (hi : i ≤ b.size) (hm : b.size ≤ 9223372036854775807) (n : ByteArray) (k : Nat) (e1 : Int) (hk : i + k ≤ b.size)
    (HV : ∀ W, Below w.heap.size w W → Calls Try.prog 59 #[.string (b.extract i b.size)] W fun e w' => e = .returned (.tuple #[.string n, .int .i64 k, .int .i64 e1]) ∧ Below W.heap.size W w') :
    Calls Try.prog 58 #[.pointer (some ⟨p, 0, none⟩), .func (.func 59) #[] #[]] w (if e1 = 0 then RdPost w p b (.string n) (i + k) 0 else RdPost w p b (.string ⟨#[]⟩) i e1) := by
  obtain ⟨F, hFe⟩ : ∃ F : World → Prop, F = fun W => Below w.heap.size w W := ⟨_, rfl⟩
  have hF : F w.drew := by rw [hFe]; exact (Below.refl _ _).drew
  have bx : ∀ W, F W → W.heap[p]? = some (.cells #[.string b, .int .i64 i, .int .i64 0] 100 (0, 0)) := fun W hW => by rw [hFe] at hW; exact (h.below hW).box
  have y0 : ∀ d : Line.Cls F, d.W.cell? ⟨p, 0, none⟩ = some (.string b) := fun d => blk_cell (bx _ d.h) 0
  have y1 : ∀ d : Line.Cls F, d.W.cell? ⟨p, 1, none⟩ = some (.int .i64 i) := fun d => blk_cell (bx _ d.h) 1
  have mv : ∀ W W', F W → Below W.heap.size W W' → F W' := fun W W' h hb => by rw [hFe] at h ⊢; exact h.trans (hb.mono h.size)
  have QV := Lib.hid (Line.cls_call mv (fun W hW => HV W (by rw [hFe] at hW; exact hW)))
  have ne : Nonempty (Line.Cls F) := ⟨⟨_, hF⟩⟩
  have BX := Lib.hid bx
  have HFE := Lib.hid hFe
  have x2 : w.cell? ⟨p, 2, none⟩ = some (.int .i64 0) := blk_cell h.box 2
  have i0 : (0 : Int) ≤ (i : Int) := by omega
  have i1 : (i : Int) ≤ (b.size : Int) := by omega
  have ik : (i : Int) + (k : Int) ≤ 9223372036854775807 := by omega
  clear hFe bx mv HV h
  by_cases he : e1 = 0
  · subst he
    rw [if_pos rfl]
    go_enter Try.func58, Try.ntmps58
    go_wp2
    refine Line.wp_region_cls (F := F) (by kernel_rfl) (by kernel_rfl) hF ?_
    repeat (go_big_quiet_step (exact QV.out _))
    refine wpQuiet_nil ?_
    intro W1 h1
    have bb := BX.out _ h1
    rw [HFE.out] at h1
    have H1 := Lib.hid h1
    have c1 : W1.cell? ⟨p, 1, none⟩ = some (.int .i64 i) := blk_cell bb 1
    have f1 : W1.frozen? ⟨p, 1, none⟩ = false := blk_frozen bb 1
    have BB := Lib.hid bb
    clear bb h1 y0 y1 ne QV HFE BX
    go_wp2
    go_ret
    refine ⟨rfl, ⟨?_⟩, grown_set (grown_below H1.out)⟩
    exact blk_put BB.out 1 _ rfl
  · rw [if_neg he]
    have h1 : (e1 != 0) = true := bne_iff_ne.2 he
    have h2 : (e1 == 0) = false := beq_eq_false_iff_ne.2 he
    have h3 : decide (e1 = 0) = false := decide_eq_false he
    go_enter Try.func58, Try.ntmps58
    go_wp2
    refine Line.wp_region_cls (F := F) (by kernel_rfl) (by kernel_rfl) hF ?_
    repeat (go_big_quiet_step (exact QV.out _))
    refine wpQuiet_nil ?_
    intro W1 h1'
    have bb := BX.out _ h1'
    rw [HFE.out] at h1'
    have H1 := Lib.hid h1'
    have c2 : W1.cell? ⟨p, 2, none⟩ = some (.int .i64 0) := blk_cell bb 2
    have f2 : W1.frozen? ⟨p, 2, none⟩ = false := blk_frozen bb 2
    have BB := Lib.hid bb
    clear bb h1' y0 y1 ne QV HFE BX
    go_wp2
    go_ret
    refine ⟨rfl, ⟨?_⟩, grown_set (grown_below H1.out)⟩
    exact blk_put BB.out 2 _ rfl
end Go.Proofs.Ytdnhmlpjohojdaa.Span
namespace Go.Proofs.Ytdnhmlpjohojdaa.R
open Go.RowKit Go.Proofs.YtdnhmlpjohojdaaW.PrintWords Go.Proofs.YtdnhmlpjohojdaaW.PrintLast Go.Proofs.YtdnhmlpjohojdaaW.PrintMore
attribute [local go_sem] max2_int min2_int max_two min_two max_three min_three max_four min_four   -- for this text's walks alone

/-! ### concourseref01_Take: function 38 -/
mutual
def concourseref01_Take.l0 : Nat → ByteArray → Int → Int → Int → Option (Int × Int × Int)
  | 0, _, _, _, _ => none
  | k + 1, x0, x5, x6, x7 => if x7 < (x0.size : Int) then (concourseref01_Take.j1 k x0 x5 x6 x7 (decide (x7 < 10))) else (concourseref01_Take.j1 k x0 x5 x6 x7 false)
def concourseref01_Take.j1 : Nat → ByteArray → Int → Int → Int → Bool → Option (Int × Int × Int)
  | 0, _, _, _, _, _ => none
  | k + 1, x0, x5, x6, x7, x16 => if x16 = true then (if 0 ≤ x7 then (if x7 < (x0.size : Int) then (if x7 > 0 then (if (IntKind.u64.wrap (bt x0 x7)) = 0 then (concourseref01_Take.j2 k x0 x5 x6 x7 (IntKind.u64.wrap (bt x0 x7)) true) else (if x7 = 9 then (concourseref01_Take.j2 k x0 x5 x6 x7 (IntKind.u64.wrap (bt x0 x7)) (decide ((IntKind.u64.wrap (bt x0 x7)) > 1))) else (concourseref01_Take.j2 k x0 x5 x6 x7 (IntKind.u64.wrap (bt x0 x7)) false))) else (if x7 = 9 then (concourseref01_Take.j2 k x0 x5 x6 x7 (IntKind.u64.wrap (bt x0 x7)) (decide ((IntKind.u64.wrap (bt x0 x7)) > 1))) else (concourseref01_Take.j2 k x0 x5 x6 x7 (IntKind.u64.wrap (bt x0 x7)) false))) else (none)) else (none)) else (some (0, 0, 2))
def concourseref01_Take.j2 : Nat → ByteArray → Int → Int → Int → Int → Bool → Option (Int × Int × Int)
  | 0, _, _, _, _, _, _ => none
  | k + 1, x0, x5, x6, x7, x8, x36 => if x36 = true then (some (0, 0, 1)) else (if x8 < 128 then (some (IntKind.u64.wrap (x5 + (IntKind.u64.wrap ((Int.tmod x8 128) * x6))), wrap64 (x7 + 1), 0)) else (concourseref01_Take.l0 k x0 (IntKind.u64.wrap (x5 + (IntKind.u64.wrap ((Int.tmod x8 128) * x6)))) (IntKind.u64.wrap (x6 * 128)) (wrap64 (x7 + 1))))
end
def concourseref01_Take.f (k : Nat) (a0 : ByteArray) : Option (Int × Int × Int) := concourseref01_Take.l0 k a0 0 1 0
theorem concourseref01_Take.mono_l : ∀ k, (∀ y0 y1 y2 y3, LeO (concourseref01_Take.l0 k y0 y1 y2 y3) (concourseref01_Take.l0 (k + 1) y0 y1 y2 y3)) ∧ (∀ y0 y1 y2 y3 y4, LeO (concourseref01_Take.j1 k y0 y1 y2 y3 y4) (concourseref01_Take.j1 (k + 1) y0 y1 y2 y3 y4)) ∧ (∀ y0 y1 y2 y3 y4 y5, LeO (concourseref01_Take.j2 k y0 y1 y2 y3 y4 y5) (concourseref01_Take.j2 (k + 1) y0 y1 y2 y3 y4 y5))
  | 0 => ⟨fun _ _ _ _ r h => by simp [concourseref01_Take.l0] at h, fun _ _ _ _ _ r h => by simp [concourseref01_Take.j1] at h, fun _ _ _ _ _ _ r h => by simp [concourseref01_Take.j2] at h⟩
  | k + 1 => by
    obtain ⟨ih0, ih1, ih2⟩ := concourseref01_Take.mono_l k
    refine ⟨?_, ?_, ?_⟩
    · intro y0 y1 y2 y3
      unfold concourseref01_Take.l0
      repeat' first
      | (with_reducible exact ih0 _ _ _ _)
      | (with_reducible exact ih1 _ _ _ _ _)
      | (with_reducible exact ih2 _ _ _ _ _ _)
      | (with_reducible exact LeO.refl _)
      | (with_reducible exact LeO.none _)
      | (with_reducible refine LeO.ite ?_ ?_)
      | (with_reducible refine LeO.bind ?_ (fun _ => ?_))
      | exact ih0 _ _ _ _
      | exact ih1 _ _ _ _ _
      | exact ih2 _ _ _ _ _ _
      | exact LeO.none _
      | refine LeO.ite ?_ ?_
      | refine LeO.bind ?_ (fun _ => ?_)
    · intro y0 y1 y2 y3 y4
      unfold concourseref01_Take.j1
      repeat' first
      | (with_reducible exact ih0 _ _ _ _)
      | (with_reducible exact ih1 _ _ _ _ _)
      | (with_reducible exact ih2 _ _ _ _ _ _)
      | (with_reducible exact LeO.refl _)
      | (with_reducible exact LeO.none _)
      | (with_reducible refine LeO.ite ?_ ?_)
      | (with_reducible refine LeO.bind ?_ (fun _ => ?_))
      | exact ih0 _ _ _ _
      | exact ih1 _ _ _ _ _
      | exact ih2 _ _ _ _ _ _
      | exact LeO.none _
      | refine LeO.ite ?_ ?_
      | refine LeO.bind ?_ (fun _ => ?_)
    · intro y0 y1 y2 y3 y4 y5
      unfold concourseref01_Take.j2
      repeat' first
      | (with_reducible exact ih0 _ _ _ _)
      | (with_reducible exact ih1 _ _ _ _ _)
      | (with_reducible exact ih2 _ _ _ _ _ _)
      | (with_reducible exact LeO.refl _)
      | (with_reducible exact LeO.none _)
      | (with_reducible refine LeO.ite ?_ ?_)
      | (with_reducible refine LeO.bind ?_ (fun _ => ?_))
      | exact ih0 _ _ _ _
      | exact ih1 _ _ _ _ _
      | exact ih2 _ _ _ _ _ _
      | exact LeO.none _
      | refine LeO.ite ?_ ?_
      | refine LeO.bind ?_ (fun _ => ?_)
theorem concourseref01_Take.mono : ∀ a0 k, LeO (concourseref01_Take.f k a0) (concourseref01_Take.f (k + 1) a0) := by
  intro a0 k
  obtain ⟨ih0, ih1, ih2⟩ := concourseref01_Take.mono_l k
  unfold concourseref01_Take.f
  repeat' first
      | (with_reducible exact ih0 _ _ _ _)
      | (with_reducible exact ih1 _ _ _ _ _)
      | (with_reducible exact ih2 _ _ _ _ _ _)
      | (with_reducible exact LeO.refl _)
      | (with_reducible exact LeO.none _)
      | (with_reducible refine LeO.ite ?_ ?_)
      | (with_reducible refine LeO.bind ?_ (fun _ => ?_))
      | exact ih0 _ _ _ _
      | exact ih1 _ _ _ _ _
      | exact ih2 _ _ _ _ _ _
      | exact LeO.none _
      | refine LeO.ite ?_ ?_
      | refine LeO.bind ?_ (fun _ => ?_)
set_option maxHeartbeats 8000000 in
set_option maxRecDepth 100000 in
theorem concourseref01_Take.calls (k : Nat) (a0 : ByteArray) (r1 : Int) (r2 : Int) (r3 : Int) (w : World) (h : concourseref01_Take.f k a0 = some (r1, r2, r3)) :
    Calls Try.prog 38 #[.string a0] w fun e w' => e = .returned (.tuple #[.int .u64 r1, .int .i64 r2, .int .i64 r3]) ∧ Drawn0 w w' := by
  have H : (concourseref01_Take.l0 k a0 0 1 0) = some (r1, r2, r3) := h
  clear h
  have H' := Aside0.mk H
  clear H
  go_enter Try.func38, Try.ntmps38
  go_wp2
  go_loopg [5, 6, 7] k (fun kq v5 v6 v7 w' => ∃ (x5_1 : Int) (x6_1 : Int) (x7_1 : Int), v5 = .int .u64 x5_1 ∧ v6 = .int .u64 x6_1 ∧ v7 = .int .i64 x7_1 ∧ Aside0 (concourseref01_Take.l0 kq a0 x5_1 x6_1 x7_1 = some (r1, r2, r3)) ∧ Aside0 (kq ≤ k) ∧ Drawn0 w w')
  case atStart => exact ⟨(0), (1), (0), (by first | rfl | (simp; done) | (simp [*]; done)), (by first | rfl | (simp; done) | (simp [*]; done)), (by first | rfl | (simp; done) | (simp [*]; done)), H', ⟨Nat.le_refl _⟩, by repeat (first | exact Drawn0.refl _ | apply Drawn0.step)⟩
  case round =>
    clear H'
    obtain ⟨x5_1, x6_1, x7_1, rfl, rfl, rfl, HA, HK1, ⟨m1, rfl⟩⟩ := hrel
    cases gk with
    | zero => exact absurd HA.out (by simp [concourseref01_Take.l0])
    | succ k1 =>
      have H := HA.out
      clear HA
      simp only [concourseref01_Take.l0] at H
      have HC2 := Aside0.mk H
      clear H
      go_upto_region 4 with (fail)
      go_cut [16] (fun v16 wc => ∃ (kq : Nat) (x16_1 : Bool), v16 = .bool x16_1 ∧ Aside0 (concourseref01_Take.j1 kq a0 x5_1 x6_1 x7_1 x16_1 = some (r1, r2, r3)) ∧ Aside0 (kq ≤ k1) ∧ Drawn0 w wc)
      case first =>
        have H := HC2.out
        clear HC2
        by_cases c3 : x7_1 < (a0.size : Int)
        · rw [if_pos c3] at H
          have c3b0 : decide (x7_1 < (a0.size : Int)) = true := decide_eq_true c3
          clear c3
          (first | rw [c3b0] | (simp only [i64_w, i32_w]; rw [c3b0]) | skip)
          have H' := Aside0.mk H
          clear H
          go_wp2
          go_meet
          case rel => exact ⟨_, (decide (x7_1 < 10)), (by first | rfl | (simp; done) | (simp [*]; done)), H', ⟨by have := HK1.out; first | omega | exact Nat.le_refl _⟩, by repeat (first | exact Drawn0.refl _ | apply Drawn0.step)⟩
        · rw [if_neg c3] at H
          have c3b0 : decide (x7_1 < (a0.size : Int)) = false := decide_eq_false c3
          clear c3
          (first | rw [c3b0] | (simp only [i64_w, i32_w]; rw [c3b0]) | skip)
          have H' := Aside0.mk H
          clear H
          go_wp2
          go_meet
          case rel => exact ⟨_, (false), (by first | rfl | (simp; done) | (simp [*]; done)), H', ⟨by have := HK1.out; first | omega | exact Nat.le_refl _⟩, by repeat (first | exact Drawn0.refl _ | apply Drawn0.step)⟩
      case rest =>
        clear HC2
        try clear p2
        try clear c3
        try clear c3b0
        obtain ⟨kq, x16_1, rfl, HA, HJ1, ⟨mc1, rfl⟩⟩ := hcut
        cases kq with
        | zero => exact absurd HA.out (by simp [concourseref01_Take.j1])
        | succ kj1 =>
          have H := HA.out
          clear HA
          simp only [concourseref01_Take.j1] at H
          by_cases c4 : x16_1 = true
          · subst c4
            have H1 : (if 0 ≤ x7_1 then (if x7_1 < (a0.size : Int) then (if x7_1 > 0 then (if (IntKind.u64.wrap (bt a0 x7_1)) = 0 then (concourseref01_Take.j2 kj1 a0 x5_1 x6_1 x7_1 (IntKind.u64.wrap (bt a0 x7_1)) true) else (if x7_1 = 9 then (concourseref01_Take.j2 kj1 a0 x5_1 x6_1 x7_1 (IntKind.u64.wrap (bt a0 x7_1)) (decide ((IntKind.u64.wrap (bt a0 x7_1)) > 1))) else (concourseref01_Take.j2 kj1 a0 x5_1 x6_1 x7_1 (IntKind.u64.wrap (bt a0 x7_1)) false))) else (if x7_1 = 9 then (concourseref01_Take.j2 kj1 a0 x5_1 x6_1 x7_1 (IntKind.u64.wrap (bt a0 x7_1)) (decide ((IntKind.u64.wrap (bt a0 x7_1)) > 1))) else (concourseref01_Take.j2 kj1 a0 x5_1 x6_1 x7_1 (IntKind.u64.wrap (bt a0 x7_1)) false))) else (none)) else (none)) = some (r1, r2, r3) := by rw [if_pos rfl] at H; exact H
            clear H
            have H := H1
            clear H1
            by_cases c5 : 0 ≤ x7_1
            · rw [if_pos c5] at H
              have c5b0 : decide (0 ≤ x7_1) = true := decide_eq_true c5
              clear c5
              by_cases c6 : x7_1 < (a0.size : Int)
              · rw [if_pos c6] at H
                have c6b0 : decide (x7_1 < (a0.size : Int)) = true := decide_eq_true c6
                clear c6
                have HC8 := Aside0.mk H
                clear H
                have p7 : 0 ≤ (x7_1 : Int) := of_decide_eq_true (by first | (with_reducible assumption) | assumption)
                have q7 : x7_1 < (a0.size : Int) := of_decide_eq_true (by first | (with_reducible assumption) | assumption)
                have hx7 := bt_at a0 x7_1
                replace p7 := eq_true p7
                replace q7 := eq_true q7
                go_upto_region 7 with (fail)
                go_cut [36] (fun v36 wc => ∃ (kq : Nat) (x36_7 : Bool), v36 = .bool x36_7 ∧ Aside0 (concourseref01_Take.j2 kq a0 x5_1 x6_1 x7_1 (IntKind.u64.wrap (bt a0 x7_1)) x36_7 = some (r1, r2, r3)) ∧ Aside0 (kq ≤ kj1) ∧ Drawn0 w wc)
                case first =>
                  have H := HC8.out
                  clear HC8
                  by_cases c9 : x7_1 > 0
                  · rw [if_pos c9] at H
                    have c9b0 : decide (0 < x7_1) = true := decide_eq_true c9
                    clear c9
                    (first | rw [c9b0] | (simp only [i64_w, i32_w]; rw [c9b0]) | skip)
                    by_cases c10 : (IntKind.u64.wrap (bt a0 x7_1)) = 0
                    · rw [if_pos c10] at H
                      have c10b0 : ((IntKind.u64.wrap (bt a0 x7_1)) == 0) = true := beq_iff_eq.mpr c10
                      have c10b1 : ((IntKind.u64.wrap (bt a0 x7_1)) != 0) = false := bne_eq_false_iff_eq.mpr c10
                      clear c10
                      have H' := Aside0.mk H
                      clear H
                      go_wp2
                      go_meet
                      case rel => exact ⟨_, (true), (by first | rfl | (simp; done) | (simp [*]; done)), H', ⟨by have := HK1.out; have := HJ1.out; first | omega | exact Nat.le_refl _⟩, by repeat (first | exact Drawn0.refl _ | apply Drawn0.step)⟩
                    · rw [if_neg c10] at H
                      have c10b0 : ((IntKind.u64.wrap (bt a0 x7_1)) == 0) = false := beq_eq_false_iff_ne.mpr c10
                      have c10b1 : ((IntKind.u64.wrap (bt a0 x7_1)) != 0) = true := bne_iff_ne.mpr c10
                      by_cases c11 : x7_1 = 9
                      · rw [if_pos c11] at H
                        have c11b0 : (x7_1 == 9) = true := beq_iff_eq.mpr c11
                        have c11b1 : (x7_1 != 9) = false := bne_eq_false_iff_eq.mpr c11
                        clear c11
                        have H' := Aside0.mk H
                        clear H
                        go_wp2
                        go_meet
                        case rel => exact ⟨_, (decide ((IntKind.u64.wrap (bt a0 x7_1)) > 1)), (by first | rfl | (simp; done) | (simp [*]; done)), H', ⟨by have := HK1.out; have := HJ1.out; first | omega | exact Nat.le_refl _⟩, by repeat (first | exact Drawn0.refl _ | apply Drawn0.step)⟩
                      · rw [if_neg c11] at H
                        have c11b0 : (x7_1 == 9) = false := beq_eq_false_iff_ne.mpr c11
                        have c11b1 : (x7_1 != 9) = true := bne_iff_ne.mpr c11
                        have H' := Aside0.mk H
                        clear H
                        go_wp2
                        go_meet
                        case rel => exact ⟨_, (false), (by first | rfl | (simp; done) | (simp [*]; done)), H', ⟨by have := HK1.out; have := HJ1.out; first | omega | exact Nat.le_refl _⟩, by repeat (first | exact Drawn0.refl _ | apply Drawn0.step)⟩
                  · rw [if_neg c9] at H
                    have c9b0 : decide (0 < x7_1) = false := decide_eq_false c9
                    clear c9
                    (first | rw [c9b0] | (simp only [i64_w, i32_w]; rw [c9b0]) | skip)
                    by_cases c12 : x7_1 = 9
                    · rw [if_pos c12] at H
                      have c12b0 : (x7_1 == 9) = true := beq_iff_eq.mpr c12
                      have c12b1 : (x7_1 != 9) = false := bne_eq_false_iff_eq.mpr c12
                      clear c12
                      have H' := Aside0.mk H
                      clear H
                      go_wp2
                      go_meet
                      case rel => exact ⟨_, (decide ((IntKind.u64.wrap (bt a0 x7_1)) > 1)), (by first | rfl | (simp; done) | (simp [*]; done)), H', ⟨by have := HK1.out; have := HJ1.out; first | omega | exact Nat.le_refl _⟩, by repeat (first | exact Drawn0.refl _ | apply Drawn0.step)⟩
                    · rw [if_neg c12] at H
                      have c12b0 : (x7_1 == 9) = false := beq_eq_false_iff_ne.mpr c12
                      have c12b1 : (x7_1 != 9) = true := bne_iff_ne.mpr c12
                      have H' := Aside0.mk H
                      clear H
                      go_wp2
                      go_meet
                      case rel => exact ⟨_, (false), (by first | rfl | (simp; done) | (simp [*]; done)), H', ⟨by have := HK1.out; have := HJ1.out; first | omega | exact Nat.le_refl _⟩, by repeat (first | exact Drawn0.refl _ | apply Drawn0.step)⟩
                case rest =>
                  clear HC8
                  try clear c1
                  try clear p2
                  try clear c3
                  try clear c3b0
                  try clear c4
                  try clear c5
                  try clear c5b0
                  try clear c6
                  try clear c6b0
                  try clear p7
                  try clear q7
                  try clear hx7
                  try clear c9
                  try clear c9b0
                  try clear c10
                  try clear c10b0
                  try clear c10b1
                  try clear c11
                  try clear c11b0
                  try clear c11b1
                  try clear c12
                  try clear c12b0
                  try clear c12b1
                  try clear p2
                  try clear p7
                  try clear q7
                  obtain ⟨kq, x36_7, rfl, HA, HJ7, ⟨mc7, rfl⟩⟩ := hcut
                  cases kq with
                  | zero => exact absurd HA.out (by simp [concourseref01_Take.j2])
                  | succ kj7 =>
                    have H := HA.out
                    clear HA
                    simp only [concourseref01_Take.j2] at H
                    by_cases c13 : x36_7 = true
                    · subst c13
                      have H1 : (some (0, 0, 1)) = some (r1, r2, r3) := by rw [if_pos rfl] at H; exact H
                      clear H
                      have H := H1
                      clear H1
                      simp only [Option.some.injEq, Prod.mk.injEq] at H
                      obtain ⟨rfl, rfl, rfl⟩ := H
                      go_wp2
                      go_ret3
                      exact ⟨by first | rfl | (simp; done) | (simp [*]; done), by repeat (first | exact Drawn0.refl _ | apply Drawn0.step)⟩
                    · replace c13 := Bool.eq_false_iff.mpr c13
                      subst c13
                      have H1 : (if (IntKind.u64.wrap (bt a0 x7_1)) < 128 then (some (IntKind.u64.wrap (x5_1 + (IntKind.u64.wrap ((Int.tmod (IntKind.u64.wrap (bt a0 x7_1)) 128) * x6_1))), wrap64 (x7_1 + 1), 0)) else (concourseref01_Take.l0 kj7 a0 (IntKind.u64.wrap (x5_1 + (IntKind.u64.wrap ((Int.tmod (IntKind.u64.wrap (bt a0 x7_1)) 128) * x6_1)))) (IntKind.u64.wrap (x6_1 * 128)) (wrap64 (x7_1 + 1)))) = some (r1, r2, r3) := by rw [if_neg (show ¬ (false = true) by decide)] at H; exact H
                      clear H
                      have H := H1
                      clear H1
                      by_cases c14 : (IntKind.u64.wrap (bt a0 x7_1)) < 128
                      · rw [if_pos c14] at H
                        have c14b0 : decide ((IntKind.u64.wrap (bt a0 x7_1)) < 128) = true := decide_eq_true c14
                        clear c14
                        simp only [Option.some.injEq, Prod.mk.injEq] at H
                        obtain ⟨rfl, rfl, rfl⟩ := H
                        go_wp2
                        go_ret3
                        exact ⟨by first | rfl | (simp; done) | (simp [*]; done), by repeat (first | exact Drawn0.refl _ | apply Drawn0.step)⟩
                      · rw [if_neg c14] at H
                        have c14b0 : decide ((IntKind.u64.wrap (bt a0 x7_1)) < 128) = false := decide_eq_false c14
                        clear c14
                        have H' := Aside0.mk H
                        clear H
                        go_wp2
                        go_roundg kj7
                        case measure => have := HK1.out; have := HJ1.out; have := HJ7.out; omega
                        case rel => exact ⟨(IntKind.u64.wrap (x5_1 + (IntKind.u64.wrap ((Int.tmod (IntKind.u64.wrap (bt a0 x7_1)) 128) * x6_1)))), (IntKind.u64.wrap (x6_1 * 128)), (wrap64 (x7_1 + 1)), (by first | rfl | (simp; done) | (simp [*]; done)), (by first | rfl | (simp; done) | (simp [*]; done)), (by first | rfl | (simp; done) | (simp [*]; done)), H', ⟨by have := HK1.out; have := HJ1.out; have := HJ7.out; omega⟩, by repeat (first | exact Drawn0.refl _ | apply Drawn0.step)⟩
              · rw [if_neg c6] at H
                exact absurd H (by simp)
            · rw [if_neg c5] at H
              exact absurd H (by simp)
          · replace c4 := Bool.eq_false_iff.mpr c4
            subst c4
            have H1 : (some (0, 0, 2)) = some (r1, r2, r3) := by rw [if_neg (show ¬ (false = true) by decide)] at H; exact H
            clear H
            have H := H1
            clear H1
            simp only [Option.some.injEq, Prod.mk.injEq] at H
            obtain ⟨rfl, rfl, rfl⟩ := H
            go_wp2
            go_ret3
            exact ⟨by first | rfl | (simp; done) | (simp [*]; done), by repeat (first | exact Drawn0.refl _ | apply Drawn0.step)⟩

end Go.Proofs.Ytdnhmlpjohojdaa.R
namespace Go.Proofs.Ytdnhmlpjohojdaa.R
open Go.RowKit Go.Proofs.YtdnhmlpjohojdaaW.PrintWords Go.Proofs.YtdnhmlpjohojdaaW.PrintLast Go.Proofs.YtdnhmlpjohojdaaW.PrintMore
attribute [local go_sem] max2_int min2_int max_two min_two max_three min_three max_four min_four   -- for this text's walks alone

/-! ### varint_Take: function 55 -/
mutual
def varint_Take.l0 : Nat → ByteArray → Int → Int → Int → Option (Int × Int × Int)
  | 0, _, _, _, _ => none
  | k + 1, x0, x5, x10, x11 => if x11 < x10 then (if 0 ≤ x11 then (if x11 < (x0.size : Int) then (if x11 = 9 then (varint_Take.j1 k x0 x5 x11 (bt x0 x11) x10 x11 (decide ((bt x0 x11) > 1))) else (varint_Take.j1 k x0 x5 x11 (bt x0 x11) x10 x11 false)) else (none)) else (none)) else (some (0, 0, 2))
def varint_Take.j1 : Nat → ByteArray → Int → Int → Int → Int → Int → Bool → Option (Int × Int × Int)
  | 0, _, _, _, _, _, _, _ => none
  | k + 1, x0, x5, x6, x7, x10, x11, x17 => if x17 = true then (varint_Take.j2 k x0 x5 x6 x7 x10 x11 x17) else (if x7 = 0 then (varint_Take.j2 k x0 x5 x6 x7 x10 x11 (decide (x6 > 0))) else (varint_Take.j2 k x0 x5 x6 x7 x10 x11 false))
def varint_Take.j2 : Nat → ByteArray → Int → Int → Int → Int → Int → Bool → Option (Int × Int × Int)
  | 0, _, _, _, _, _, _, _ => none
  | k + 1, x0, x5, x6, x7, x10, x11, x17 => if x17 = true then (some (0, 0, 1)) else (if 0 ≤ (wrap64 (7 * x6)) then (if x7 < 128 then (some (Go.bits .or .u64 x5 (shl .u64 (IntKind.u64.wrap (Go.bits .and .u8 x7 127)) (wrap64 (7 * x6))), wrap64 (x6 + 1), 0)) else (varint_Take.l0 k x0 (Go.bits .or .u64 x5 (shl .u64 (IntKind.u64.wrap (Go.bits .and .u8 x7 127)) (wrap64 (7 * x6)))) x10 (wrap64 (x11 + 1)))) else (none))
end
def varint_Take.f (k : Nat) (a0 : ByteArray) : Option (Int × Int × Int) := varint_Take.l0 k a0 0 (mn (a0.size : Int) 10) 0
theorem varint_Take.mono_l : ∀ k, (∀ y0 y1 y2 y3, LeO (varint_Take.l0 k y0 y1 y2 y3) (varint_Take.l0 (k + 1) y0 y1 y2 y3)) ∧ (∀ y0 y1 y2 y3 y4 y5 y6, LeO (varint_Take.j1 k y0 y1 y2 y3 y4 y5 y6) (varint_Take.j1 (k + 1) y0 y1 y2 y3 y4 y5 y6)) ∧ (∀ y0 y1 y2 y3 y4 y5 y6, LeO (varint_Take.j2 k y0 y1 y2 y3 y4 y5 y6) (varint_Take.j2 (k + 1) y0 y1 y2 y3 y4 y5 y6))
  | 0 => ⟨fun _ _ _ _ r h => by simp [varint_Take.l0] at h, fun _ _ _ _ _ _ _ r h => by simp [varint_Take.j1] at h, fun _ _ _ _ _ _ _ r h => by simp [varint_Take.j2] at h⟩
  | k + 1 => by
    obtain ⟨ih0, ih1, ih2⟩ := varint_Take.mono_l k
    refine ⟨?_, ?_, ?_⟩
    · intro y0 y1 y2 y3
      unfold varint_Take.l0
      repeat' first
      | (with_reducible exact ih0 _ _ _ _)
      | (with_reducible exact ih1 _ _ _ _ _ _ _)
      | (with_reducible exact ih2 _ _ _ _ _ _ _)
      | (with_reducible exact LeO.refl _)
      | (with_reducible exact LeO.none _)
      | (with_reducible refine LeO.ite ?_ ?_)
      | (with_reducible refine LeO.bind ?_ (fun _ => ?_))
      | exact ih0 _ _ _ _
      | exact ih1 _ _ _ _ _ _ _
      | exact ih2 _ _ _ _ _ _ _
      | exact LeO.none _
      | refine LeO.ite ?_ ?_
      | refine LeO.bind ?_ (fun _ => ?_)
    · intro y0 y1 y2 y3 y4 y5 y6
      unfold varint_Take.j1
      repeat' first
      | (with_reducible exact ih0 _ _ _ _)
      | (with_reducible exact ih1 _ _ _ _ _ _ _)
      | (with_reducible exact ih2 _ _ _ _ _ _ _)
      | (with_reducible exact LeO.refl _)
      | (with_reducible exact LeO.none _)
      | (with_reducible refine LeO.ite ?_ ?_)
      | (with_reducible refine LeO.bind ?_ (fun _ => ?_))
      | exact ih0 _ _ _ _
      | exact ih1 _ _ _ _ _ _ _
      | exact ih2 _ _ _ _ _ _ _
      | exact LeO.none _
      | refine LeO.ite ?_ ?_
      | refine LeO.bind ?_ (fun _ => ?_)
    · intro y0 y1 y2 y3 y4 y5 y6
      unfold varint_Take.j2
      repeat' first
      | (with_reducible exact ih0 _ _ _ _)
      | (with_reducible exact ih1 _ _ _ _ _ _ _)
      | (with_reducible exact ih2 _ _ _ _ _ _ _)
      | (with_reducible exact LeO.refl _)
      | (with_reducible exact LeO.none _)
      | (with_reducible refine LeO.ite ?_ ?_)
      | (with_reducible refine LeO.bind ?_ (fun _ => ?_))
      | exact ih0 _ _ _ _
      | exact ih1 _ _ _ _ _ _ _
      | exact ih2 _ _ _ _ _ _ _
      | exact LeO.none _
      | refine LeO.ite ?_ ?_
      | refine LeO.bind ?_ (fun _ => ?_)
theorem varint_Take.mono : ∀ a0 k, LeO (varint_Take.f k a0) (varint_Take.f (k + 1) a0) := by
  intro a0 k
  obtain ⟨ih0, ih1, ih2⟩ := varint_Take.mono_l k
  unfold varint_Take.f
  repeat' first
      | (with_reducible exact ih0 _ _ _ _)
      | (with_reducible exact ih1 _ _ _ _ _ _ _)
      | (with_reducible exact ih2 _ _ _ _ _ _ _)
      | (with_reducible exact LeO.refl _)
      | (with_reducible exact LeO.none _)
      | (with_reducible refine LeO.ite ?_ ?_)
      | (with_reducible refine LeO.bind ?_ (fun _ => ?_))
      | exact ih0 _ _ _ _
      | exact ih1 _ _ _ _ _ _ _
      | exact ih2 _ _ _ _ _ _ _
      | exact LeO.none _
      | refine LeO.ite ?_ ?_
      | refine LeO.bind ?_ (fun _ => ?_)
set_option maxHeartbeats 8000000 in
set_option maxRecDepth 100000 in
theorem varint_Take.calls (k : Nat) (a0 : ByteArray) (r1 : Int) (r2 : Int) (r3 : Int) (w : World) (h : varint_Take.f k a0 = some (r1, r2, r3)) :
    Calls Try.prog 55 #[.string a0] w fun e w' => e = .returned (.tuple #[.int .u64 r1, .int .i64 r2, .int .i64 r3]) ∧ Below w.heap.size w w' := by
  have HB := Aside0.mk (Below.refl w.heap.size w)
  have H : (varint_Take.l0 k a0 0 (mn (a0.size : Int) 10) 0) = some (r1, r2, r3) := h
  clear h
  obtain ⟨ji2, hji2⟩ : ∃ j_ : Int, (mn (a0.size : Int) 10) = j_ := ⟨_, rfl⟩
  replace H : (varint_Take.l0 k a0 0 ji2 0) = some (r1, r2, r3) := by first | (rw [hji2] at H; exact H) | (simp only [hji2] at H ⊢; exact H)
  (try (have hji2h : ji2 ≤ 10 := by (rw [← hji2]; unfold mn; (repeat' split) <;> omega)))
  (try (have hji2g : ji2 ≤ 64 := by omega))
  (try (have hji2l : 0 ≤ ji2 := by (rw [← hji2]; unfold mn; (repeat' split) <;> omega)))
  (try (have hji2m : 0 ≤ ji2 := by omega))
  have hji2_ : (if 10 < (a0.size : Int) then 10 else (a0.size : Int)) = ji2 := hji2
  have H' := Aside0.mk H
  clear H
  go_enter Try.func55, Try.ntmps55
  go_wp2
  go_loopg [5, 11] k (fun kq v5 v11 w' => ∃ (x5_1 : Int) (x11_1 : Int), v5 = .int .u64 x5_1 ∧ v11 = .int .i64 x11_1 ∧ Aside0 (varint_Take.l0 kq a0 x5_1 ji2 x11_1 = some (r1, r2, r3)) ∧ Aside0 (kq ≤ k) ∧ Aside0 (Below w.heap.size w w'))
  case atStart => exact ⟨(0), (0), (by first | rfl | (simp; done) | (simp [*]; done)), (by first | rfl | (simp; done) | (simp [*]; done)), H', ⟨Nat.le_refl _⟩, ⟨by repeat (first | (with_reducible first | exact HB.out | apply below_alloc | apply pw_below_drewN | apply below_drew1) | exact HB.out)⟩⟩
  case round =>
    clear H'
    try clear p2
    obtain ⟨x5_1, x11_1, rfl, rfl, HA, HK1, HB⟩ := hrel
    cases gk with
    | zero => exact absurd HA.out (by simp [varint_Take.l0])
    | succ k1 =>
      have H := HA.out
      clear HA
      simp only [varint_Take.l0] at H
      by_cases c3 : x11_1 < ji2
      · rw [if_pos c3] at H
        have c3b0 : decide (x11_1 < ji2) = true := decide_eq_true c3
        clear c3
        by_cases c4 : 0 ≤ x11_1
        · rw [if_pos c4] at H
          have c4b0 : decide (0 ≤ x11_1) = true := decide_eq_true c4
          clear c4
          by_cases c5 : x11_1 < (a0.size : Int)
          · rw [if_pos c5] at H
            have c5b0 : decide (x11_1 < (a0.size : Int)) = true := decide_eq_true c5
            clear c5
            have HC7 := Aside0.mk H
            clear H
            have p6 : 0 ≤ (x11_1 : Int) := of_decide_eq_true (by first | (with_reducible assumption) | assumption)
            have q6 : x11_1 < (a0.size : Int) := of_decide_eq_true (by first | (with_reducible assumption) | assumption)
            have hx6 := bt_at a0 x11_1
            replace p6 := eq_true p6
            replace q6 := eq_true q6
            go_upto_region 6 with (fail)
            go_cut [17] (fun v17 wc => ∃ (kq : Nat) (x17_6 : Bool), v17 = .bool x17_6 ∧ Aside0 (varint_Take.j1 kq a0 x5_1 x11_1 (bt a0 x11_1) ji2 x11_1 x17_6 = some (r1, r2, r3)) ∧ Aside0 (kq ≤ k1) ∧ Aside0 (Below w.heap.size w wc))
            case first =>
              have H := HC7.out
              clear HC7
              by_cases c8 : x11_1 = 9
              · rw [if_pos c8] at H
                have c8b0 : (x11_1 == 9) = true := beq_iff_eq.mpr c8
                have c8b1 : (x11_1 != 9) = false := bne_eq_false_iff_eq.mpr c8
                clear c8
                (first | rw [c8b0] | (simp only [i64_w, i32_w]; rw [c8b0]) | skip)
                have H' := Aside0.mk H
                clear H
                go_wp2
                go_meet
                case rel => exact ⟨_, (decide ((bt a0 x11_1) > 1)), (by first | rfl | (simp; done) | (simp [*]; done)), H', ⟨by have := HK1.out; first | omega | exact Nat.le_refl _⟩, ⟨by repeat (first | (with_reducible first | exact HB.out | apply below_alloc | apply pw_below_drewN | apply below_drew1) | exact HB.out)⟩⟩
              · rw [if_neg c8] at H
                have c8b0 : (x11_1 == 9) = false := beq_eq_false_iff_ne.mpr c8
                have c8b1 : (x11_1 != 9) = true := bne_iff_ne.mpr c8
                (first | rw [c8b0] | (simp only [i64_w, i32_w]; rw [c8b0]) | skip)
                have H' := Aside0.mk H
                clear H
                go_wp2
                go_meet
                case rel => exact ⟨_, (false), (by first | rfl | (simp; done) | (simp [*]; done)), H', ⟨by have := HK1.out; first | omega | exact Nat.le_refl _⟩, ⟨by repeat (first | (with_reducible first | exact HB.out | apply below_alloc | apply pw_below_drewN | apply below_drew1) | exact HB.out)⟩⟩
            case rest =>
              clear HC7
              try clear p2
              try clear c3
              try clear c3b0
              try clear c4
              try clear c4b0
              try clear c5
              try clear c5b0
              try clear p6
              try clear q6
              try clear hx6
              try clear c8
              try clear c8b0
              try clear c8b1
              try clear p2
              try clear p6
              try clear q6
              obtain ⟨kq, x17_6, rfl, HA, HJ6, HB⟩ := hcut
              cases kq with
              | zero => exact absurd HA.out (by simp [varint_Take.j1])
              | succ kj6 =>
                have H := HA.out
                clear HA
                simp only [varint_Take.j1] at H
                have HC9 := Aside0.mk H
                clear H
                go_upto_if 17 with (fail)
                go_cut [17] (fun v17 wc => ∃ (kq : Nat) (x17_8 : Bool), v17 = .bool x17_8 ∧ Aside0 (varint_Take.j2 kq a0 x5_1 x11_1 (bt a0 x11_1) ji2 x11_1 x17_8 = some (r1, r2, r3)) ∧ Aside0 (kq ≤ kj6) ∧ Aside0 (Below w.heap.size w wc))
                case first =>
                  have H := HC9.out
                  clear HC9
                  by_cases c10 : x17_6 = true
                  · subst c10
                    have H1 : (varint_Take.j2 kj6 a0 x5_1 x11_1 (bt a0 x11_1) ji2 x11_1 true) = some (r1, r2, r3) := by rw [if_pos rfl] at H; exact H
                    clear H
                    have H := H1
                    clear H1
                    have H' := Aside0.mk H
                    clear H
                    go_wp2
                    go_meet
                    case rel => exact ⟨_, (true), (by first | rfl | (simp; done) | (simp [*]; done)), H', ⟨by have := HK1.out; have := HJ6.out; first | omega | exact Nat.le_refl _⟩, ⟨by repeat (first | (with_reducible first | exact HB.out | apply below_alloc | apply pw_below_drewN | apply below_drew1) | exact HB.out)⟩⟩
                  · replace c10 := Bool.eq_false_iff.mpr c10
                    subst c10
                    have H1 : (if (bt a0 x11_1) = 0 then (varint_Take.j2 kj6 a0 x5_1 x11_1 (bt a0 x11_1) ji2 x11_1 (decide (x11_1 > 0))) else (varint_Take.j2 kj6 a0 x5_1 x11_1 (bt a0 x11_1) ji2 x11_1 false)) = some (r1, r2, r3) := by rw [if_neg (show ¬ (false = true) by decide)] at H; exact H
                    clear H
                    have H := H1
                    clear H1
                    by_cases c11 : (bt a0 x11_1) = 0
                    · rw [if_pos c11] at H
                      have c11b0 : ((bt a0 x11_1) == 0) = true := beq_iff_eq.mpr c11
                      have c11b1 : ((bt a0 x11_1) != 0) = false := bne_eq_false_iff_eq.mpr c11
                      clear c11
                      (first | rw [c11b0] | (simp only [i64_w, i32_w]; rw [c11b0]) | skip)
                      have H' := Aside0.mk H
                      clear H
                      go_wp2
                      go_meet
                      case rel => exact ⟨_, (decide (x11_1 > 0)), (by first | rfl | (simp; done) | (simp [*]; done)), H', ⟨by have := HK1.out; have := HJ6.out; first | omega | exact Nat.le_refl _⟩, ⟨by repeat (first | (with_reducible first | exact HB.out | apply below_alloc | apply pw_below_drewN | apply below_drew1) | exact HB.out)⟩⟩
                    · rw [if_neg c11] at H
                      have c11b0 : ((bt a0 x11_1) == 0) = false := beq_eq_false_iff_ne.mpr c11
                      have c11b1 : ((bt a0 x11_1) != 0) = true := bne_iff_ne.mpr c11
                      (first | rw [c11b0] | (simp only [i64_w, i32_w]; rw [c11b0]) | skip)
                      have H' := Aside0.mk H
                      clear H
                      go_wp2
                      go_meet
                      case rel => exact ⟨_, (false), (by first | rfl | (simp; done) | (simp [*]; done)), H', ⟨by have := HK1.out; have := HJ6.out; first | omega | exact Nat.le_refl _⟩, ⟨by repeat (first | (with_reducible first | exact HB.out | apply below_alloc | apply pw_below_drewN | apply below_drew1) | exact HB.out)⟩⟩
                case rest =>
                  clear HC9
                  try clear c1
                  try clear p2
                  try clear c3
                  try clear c3b0
                  try clear c4
                  try clear c4b0
                  try clear c5
                  try clear c5b0
                  try clear p6
                  try clear q6
                  try clear hx6
                  try clear c8
                  try clear c8b0
                  try clear c8b1
                  try clear c10
                  try clear c11
                  try clear c11b0
                  try clear c11b1
                  try clear p2
                  try clear p6
                  try clear q6
                  obtain ⟨kq, x17_8, rfl, HA, HJ8, HB⟩ := hcut
                  cases kq with
                  | zero => exact absurd HA.out (by simp [varint_Take.j2])
                  | succ kj8 =>
                    have H := HA.out
                    clear HA
                    simp only [varint_Take.j2] at H
                    by_cases c12 : x17_8 = true
                    · subst c12
                      have H1 : (some (0, 0, 1)) = some (r1, r2, r3) := by rw [if_pos rfl] at H; exact H
                      clear H
                      have H := H1
                      clear H1
                      simp only [Option.some.injEq, Prod.mk.injEq] at H
                      obtain ⟨rfl, rfl, rfl⟩ := H
                      go_wp2
                      go_ret3
                      exact ⟨by first | rfl | (simp [errW_none, errW_some] <;> rfl) | (simp only [← hji2]; first | rfl | (simp [errW_none, errW_some] <;> rfl)) | (simp [*, errW_none, errW_some] <;> rfl), by repeat (first | (with_reducible first | exact HB.out | apply below_alloc | apply pw_below_drewN | apply below_drew1) | exact HB.out)⟩
                    · replace c12 := Bool.eq_false_iff.mpr c12
                      subst c12
                      have H1 : (if 0 ≤ (wrap64 (7 * x11_1)) then (if (bt a0 x11_1) < 128 then (some (Go.bits .or .u64 x5_1 (shl .u64 (IntKind.u64.wrap (Go.bits .and .u8 (bt a0 x11_1) 127)) (wrap64 (7 * x11_1))), wrap64 (x11_1 + 1), 0)) else (varint_Take.l0 kj8 a0 (Go.bits .or .u64 x5_1 (shl .u64 (IntKind.u64.wrap (Go.bits .and .u8 (bt a0 x11_1) 127)) (wrap64 (7 * x11_1)))) ji2 (wrap64 (x11_1 + 1)))) else (none)) = some (r1, r2, r3) := by rw [if_neg (show ¬ (false = true) by decide)] at H; exact H
                      clear H
                      have H := H1
                      clear H1
                      obtain ⟨ji13, hji13⟩ : ∃ j_ : Int, (wrap64 (7 * x11_1)) = j_ := ⟨_, rfl⟩
                      replace H : (if 0 ≤ (ji13) then (if (bt a0 x11_1) < 128 then (some (Go.bits .or .u64 x5_1 (shl .u64 (IntKind.u64.wrap (Go.bits .and .u8 (bt a0 x11_1) 127)) (ji13)), wrap64 (x11_1 + 1), 0)) else (varint_Take.l0 kj8 a0 (Go.bits .or .u64 x5_1 (shl .u64 (IntKind.u64.wrap (Go.bits .and .u8 (bt a0 x11_1) 127)) (ji13))) ji2 (wrap64 (x11_1 + 1)))) else (none)) = some (r1, r2, r3) := by first | (rw [hji13] at H; exact H) | (simp only [hji13] at H ⊢; exact H)
                      have hji13w : (IntKind.i64.wrap (7 * x11_1)) = ji13 := (i64_w _).trans hji13
                      by_cases c14 : 0 ≤ (ji13)
                      · rw [if_pos c14] at H
                        have c14b0 := eq_true c14
                        have c14b1 : decide (0 ≤ (ji13)) = true := decide_eq_true c14
                        clear c14
                        obtain ⟨ji15, hji15⟩ : ∃ j_ : Int, (shl .u64 (IntKind.u64.wrap (Go.bits .and .u8 (bt a0 x11_1) 127)) (ji13)) = j_ := ⟨_, rfl⟩
                        replace H : (if (bt a0 x11_1) < 128 then (some (Go.bits .or .u64 x5_1 (ji15), wrap64 (x11_1 + 1), 0)) else (varint_Take.l0 kj8 a0 (Go.bits .or .u64 x5_1 (ji15)) ji2 (wrap64 (x11_1 + 1)))) = some (r1, r2, r3) := by first | (rw [hji15] at H; exact H) | (simp only [hji15] at H ⊢; exact H)
                        have hji15_ : (IntKind.u64.wrap ((IntKind.u64.wrap (Go.bits .and .u8 (bt a0 x11_1) 127)) * 2 ^ min (ji13).toNat 64)) = ji15 := hji15
                        have hji15z : (ji13) ≤ 64 → (IntKind.u64.wrap ((IntKind.u64.wrap (Go.bits .and .u8 (bt a0 x11_1) 127)) * 2 ^ (ji13).toNat)) = ji15 := shl_small hji15
                        by_cases c16 : (bt a0 x11_1) < 128
                        · rw [if_pos c16] at H
                          have c16b0 : decide ((bt a0 x11_1) < 128) = true := decide_eq_true c16
                          clear c16
                          simp only [Option.some.injEq, Prod.mk.injEq] at H
                          obtain ⟨rfl, rfl, rfl⟩ := H
                          go_wp2
                          go_ret3
                          exact ⟨by first | rfl | (simp [errW_none, errW_some] <;> rfl) | (simp only [← hji2, ← hji13, ← hji15]; first | rfl | (simp [errW_none, errW_some] <;> rfl)) | (simp [*, errW_none, errW_some] <;> rfl), by repeat (first | (with_reducible first | exact HB.out | apply below_alloc | apply pw_below_drewN | apply below_drew1) | exact HB.out)⟩
                        · rw [if_neg c16] at H
                          have c16b0 : decide ((bt a0 x11_1) < 128) = false := decide_eq_false c16
                          clear c16
                          have H' := Aside0.mk H
                          clear H
                          go_wp2
                          go_roundg kj8
                          case measure => have := HK1.out; have := HJ6.out; have := HJ8.out; omega
                          case rel => exact ⟨(Go.bits .or .u64 x5_1 (ji15)), (wrap64 (x11_1 + 1)), (by first | rfl | (simp; done) | (simp only [← hji15] <;> (first | rfl | simp)) | (simp [*]; done)), (by first | rfl | (simp; done) | (simp [*]; done)), H', ⟨by have := HK1.out; have := HJ6.out; have := HJ8.out; omega⟩, ⟨by repeat (first | (with_reducible first | exact HB.out | apply below_alloc | apply pw_below_drewN | apply below_drew1) | exact HB.out)⟩⟩
                      · rw [if_neg c14] at H
                        exact absurd H (by simp)
          · rw [if_neg c5] at H
            exact absurd H (by simp)
        · rw [if_neg c4] at H
          exact absurd H (by simp)
      · rw [if_neg c3] at H
        have c3b0 : decide (x11_1 < ji2) = false := decide_eq_false c3
        clear c3
        simp only [Option.some.injEq, Prod.mk.injEq] at H
        obtain ⟨rfl, rfl, rfl⟩ := H
        go_wp2
        go_ret3
        exact ⟨by first | rfl | (simp [errW_none, errW_some] <;> rfl) | (simp only [← hji2]; first | rfl | (simp [errW_none, errW_some] <;> rfl)) | (simp [*, errW_none, errW_some] <;> rfl), by repeat (first | (with_reducible first | exact HB.out | apply below_alloc | apply pw_below_drewN | apply below_drew1) | exact HB.out)⟩

end Go.Proofs.Ytdnhmlpjohojdaa.R
/-
  varint.Put, by its contract: seven bits a byte.
-/
namespace Go.Proofs.Ytdnhmlpjohojdaa.Adm
open Go.RowKit Go.Proofs.Ytdnhmlpjohojdaa.Tab Go.Proofs.Ytdnhmlpjohojdaa.R Go.Proofs.YtdnhmlpjohojdaaW.PrintWords
theorem infoB : (Try.prog.info? 5).map (fun i => (i.zero, i.size, i.bytes)) = some (some (.int .u8 0), 1, 1) := by kernel_rfl
/-- A number's bytes. -/
def vl (m : Nat) : List Int := if h : m < 128 then [(m : Int)] else ((m % 128 + 128 : Nat) : Int) :: vl (m / 128)
termination_by m
decreasing_by omega
theorem vl_small {m : Nat} (h : m < 128) : vl m = [(m : Int)] := by rw [vl, dif_pos h]
theorem vl_big {m : Nat} (h : ¬ m < 128) : vl m = ((m % 128 + 128 : Nat) : Int) :: vl (m / 128) := by rw [vl, dif_neg h]
theorem vl_len (k : Nat) : ∀ m : Nat, m < 128 ^ (k + 1) → (vl m).length ≤ k + 1 := by
  induction k with
  | zero => intro m h; rw [vl_small (by simpa using h)]; simp
  | succ k ih =>
    intro m h
    by_cases hm : m < 128
    · rw [vl_small hm]; simp
    · rw [vl_big hm]
      have := ih (m / 128) (Nat.div_lt_of_lt_mul (by rw [Nat.pow_succ] at h; omega))
      simp only [List.length_cons]
      omega
theorem vl_len10 {m : Nat} (h : m < 18446744073709551616) : (vl m).length ≤ 10 := by
  have e : (128 : Nat) ^ 10 = 1180591620717411303424 := by decide
  exact vl_len 9 m (by show m < 128 ^ 10; omega)
theorem or_all : ∀ x : Fin 256, bits BinOp.or IntKind.u8 ((x.1 : Nat) : Int) 128 = ((x.1 % 128 + 128 : Nat) : Int) := by decide +kernel
theorem or_128 (m : Nat) : bits BinOp.or IntKind.u8 ((m : Int) % 256) 128 = ((m % 128 + 128 : Nat) : Int) := by
  have h := or_all ⟨m % 256, by omega⟩
  simp only at h
  rw [show ((m % 256 : Nat) : Int) = (m : Int) % 256 by omega] at h
  rw [h]
  omega
set_option maxRecDepth 100000 in
set_option maxHeartbeats 2000000 in
theorem Put_ (w : World) (n : Nat) (hn : n < 18446744073709551616) :
    Calls Try.prog 26 #[.int .u64 n] w fun e w' => e = .returned (.string (strOfNums (vl n))) ∧ Below w.heap.size w w' := by
  go_enter Try.func26, Try.ntmps26
  go_wp2
  go_step3
  go_wp2
  go_step3
  go_wp2
  have hS : Kd.R (Kd.int .u8) 5 w w.heap.size (fun _ => True) (.slice none 0 0) ([] : List Int) := Kd.R_nil _ _ _ _ _
  go_loopw [0, 3] (fun v0 v3 wr => ∃ (m : Nat) (acc : List Int), v0 = .int .u64 m ∧ Hid (m < 18446744073709551616 ∧ acc ++ vl m = vl n ∧ Kd.R (Kd.int .u8) 5 wr w.heap.size (fun _ => True) v3 acc ∧ Below w.heap.size w wr)) (fun v0 _ _ => (intOf v0).toNat)
  case atStart => exact ⟨n, [], rfl, hid ⟨hn, rfl, hS, Below.refl _ _⟩⟩
  case round =>
    clear hS
    obtain ⟨m, acc, rfl, HI⟩ := hrel
    have hlen : acc.length ≤ 10 := by
      have h1 := congrArg List.length HI.out.2.1
      have h2 := vl_len10 hn
      rw [List.length_append] at h1
      omega
    have hs1 : 0 < (Kd.int .u8).sz := Nat.zero_lt_one
    have hb1' : 0 < 1 := Nat.zero_lt_one
    have hroom : (acc.length + 1) * 1 ≤ 140737488355328 := by omega
    by_cases hm : m < 128
    · have hm1 : ((m : Int) < 128) := by omega
      have hw1 : IntKind.u8.wrap (m : Int) = (m : Int) := by simp [IntKind.wrap, IntKind.signed, IntKind.bits]; omega
      go_wp2_with (first
        | (at_builtin; refine Kd.R_append (Kd.int .u8) (w0 := w) w.heap.size ?a1 (.tmp 6) (.tmp 9) 88 5 (.int .u8 0) 1 ?a2 ?a3 ?a4 ?a5 ?a6 ?a7 u3 acc (m : Int) [.int .u8 m] (fun _ => True) (fun _ => False) ?a8 ?a9 ?aP ?aK ?aF ?aO ?aB ?aS ?aL ?_; (case a1 => rfl); (case a2 => rfl); (case a3 => exact Try.underlying88); (case a4 => exact infoB); (case a5 => rfl); (case a6 => exact hs1); (case a7 => exact hb1'); (case a8 => rfl); (case a9 => rfl); (case aP => rfl); (case aK => exact fun _ hk => hk.elim); (case aF => exact fun _ _ => trivial); (case aO => exact HI.out.2.2.1); (case aB => exact HI.out.2.2.2); (case aS => exact HI.out.2.2.2.size); (case aL => exact hroom); intro v1 w2 ho1 hb1 hg1 hat1; obtain ⟨A1, c1, rfl, hl1, hr1⟩ := Kd.R_reads ho1; have hcs := Kd.C_string (P := Try.prog) (c := c1) Try.underlying88 Try.underlying5 Try.underlying9 hr1; simp only [List.length_append, List.length_cons, List.length_nil, Nat.zero_add] at hcs; have HB1 := hid hb1; clear ho1 hb1 hg1 hat1 hl1 hr1; go_frame))
      rw [Exit.noGoto_ret]
      go_ret
      have hv : acc ++ [(m : Int)] = vl n := by rw [← HI.out.2.1, vl_small hm]
      rw [hv]
      exact ⟨rfl, HB1.out⟩
    · have hm1 : ¬ ((m : Int) < 128) := by omega
      go_wp2_with (first
        | (at_builtin; refine Kd.R_append (Kd.int .u8) (w0 := w) w.heap.size ?a1 (.tmp 11) (.tmp 15) 88 5 (.int .u8 0) 1 ?a2 ?a3 ?a4 ?a5 ?a6 ?a7 u3 acc (bits BinOp.or IntKind.u8 ((m : Int) % 256) 128) [.int .u8 (bits BinOp.or IntKind.u8 ((m : Int) % 256) 128)] (fun _ => True) (fun _ => False) ?a8 ?a9 ?aP ?aK ?aF ?aO ?aB ?aS ?aL ?_; (case a1 => rfl); (case a2 => rfl); (case a3 => exact Try.underlying88); (case a4 => exact infoB); (case a5 => rfl); (case a6 => exact hs1); (case a7 => exact hb1'); (case a8 => rfl); (case a9 => rfl); (case aP => rfl); (case aK => exact fun _ hk => hk.elim); (case aF => exact fun _ _ => trivial); (case aO => exact HI.out.2.2.1); (case aB => exact HI.out.2.2.2); (case aS => exact HI.out.2.2.2.size); (case aL => exact hroom); intro v1 w2 ho1 hb1 hg1 hat1; have HO1 := hid ho1; have HB1 := hid hb1; clear ho1 hb1 hg1 hat1; go_frame))
      refine ⟨⟨m / 128, acc ++ [bits BinOp.or IntKind.u8 ((m : Int) % 256) 128], congrArg (Value.int .u64) (by omega), hid ⟨by have := HI.out.1; omega, ?_, HO1.out, HB1.out⟩⟩, by simp only [intOf]; omega⟩
      rw [← HI.out.2.1, vl_big hm, or_128, List.append_assoc]
      rfl
end Go.Proofs.Ytdnhmlpjohojdaa.Adm
/-
  The number with which bytes begin: what varint.Take and the document's Take answer, and what it has to do with a number's bytes.
-/
namespace Go.Proofs.Ytdnhmlpjohojdaa.Tk
open Go.RowKit Go.Proofs.Ytdnhmlpjohojdaa.Tab Go.Proofs.Ytdnhmlpjohojdaa.R Go.Proofs.Ytdnhmlpjohojdaa.Adm Go.Proofs.YtdnhmlpjohojdaaW.PrintWords Go.Proofs.YtdnhmlpjohojdaaW.PrintLast Go.Proofs.YtdnhmlpjohojdaaW.PrintMore
/-- What is taken of bytes, the i-th byte being the first, n being there. -/
def tkl : List UInt8 → Nat → Nat → Int × Int × Int
  | [], _, _ => (0, 0, 2)
  | c :: r, i, n =>
    if i < 10 then
      if (i = 9 ∧ 1 < c.toNat) ∨ (c.toNat = 0 ∧ 0 < i) then (0, 0, 1)
      else if c.toNat < 128 then (((n + c.toNat % 128 * 128 ^ i : Nat) : Int), ((i + 1 : Nat) : Int), 0)
      else tkl r (i + 1) (n + c.toNat % 128 * 128 ^ i)
    else (0, 0, 2)
def tk (s : ByteArray) : Int × Int × Int := tkl s.data.toList 0 0
theorem drop_cons (s : ByteArray) (i : Nat) (h : i < s.size) : s.data.toList.drop i = s[i] :: s.data.toList.drop (i + 1) := by
  rw [List.drop_eq_getElem_cons (by simpa using h)]
  rfl
theorem bt_nat (s : ByteArray) (i : Nat) (h : i < s.size) : bt s (i : Int) = ((s[i]).toNat : Int) := by
  unfold bt
  simp only [Int.toNat_natCast]
  rw [dif_pos h]
theorem c_lt (c : UInt8) : c.toNat < 256 := c.toNat_lt
theorem pow_le_63 {i : Nat} (h : i < 10) : 128 ^ i ≤ 9223372036854775808 := by
  have : 128 ^ i ≤ 128 ^ 9 := Nat.pow_le_pow_right (by decide) (by omega)
  exact Nat.le_trans this (by decide)
/-- What is below the i-th place, and a figure there. -/
theorem fit {i n c : Nat} (hi : i < 10) (hn : n < 128 ^ i) (hc : c < 128) (h9 : i = 9 → c ≤ 1) : n + c * 128 ^ i < 18446744073709551616 := by
  by_cases e : i = 9
  · subst e
    have h1 : (128 : Nat) ^ 9 = 9223372036854775808 := by decide
    rw [h1] at hn ⊢
    have := h9 rfl
    have : c = 0 ∨ c = 1 := by omega
    rcases this with rfl | rfl <;> omega
  · have h8 : (128 : Nat) ^ i ≤ 128 ^ 8 := Nat.pow_le_pow_right (by decide) (by omega)
    have h1 : (128 : Nat) ^ 8 = 72057594037927936 := by decide
    rw [h1] at h8
    have h2 : c * 128 ^ i ≤ 127 * 72057594037927936 := Nat.mul_le_mul (by omega) h8
    omega
theorem next_lt {i n c : Nat} (hn : n < 128 ^ i) : n + c % 128 * 128 ^ i < 128 ^ (i + 1) := by
  rw [Nat.pow_succ]
  have h1 : c % 128 * 128 ^ i ≤ 127 * 128 ^ i := Nat.mul_le_mul_right _ (by omega)
  omega
theorem dec_true {p : Prop} [Decidable p] (h : p) : true = decide p := (decide_eq_true h).symm
theorem dec_false {p : Prop} [Decidable p] (h : ¬ p) : false = decide p := (decide_eq_false h).symm
/-! ### the document's -/
theorem ref_step (b : ByteArray) : ∀ (m i n : Nat), i + m = min b.size 10 → n < 128 ^ i → ∀ k, 3 * m + 2 ≤ k → concourseref01_Take.l0 k b (n : Int) (((128 ^ i % 18446744073709551616 : Nat) : Int)) (i : Int) = some (tkl (b.data.toList.drop i) i n)
  | 0, i, n, hi, hn, k, hk => by
    obtain ⟨k, rfl⟩ : ∃ k', k = k' + 2 := ⟨k - 2, by omega⟩
    rw [concourseref01_Take.l0]
    by_cases hs : (i : Int) < (b.size : Int)
    · have h10 : i = 10 := by omega
      subst h10
      rw [if_pos hs, show decide (((10 : Nat) : Int) < 10) = false by decide]
      rw [concourseref01_Take.j1, if_neg (by decide)]
      rw [drop_cons b 10 (by omega), tkl, if_neg (by decide)]
    · rw [if_neg hs, concourseref01_Take.j1, if_neg (by decide)]
      rw [List.drop_eq_nil_of_le (by simp; omega), tkl]
  | m + 1, i, n, hi, hn, k, hk => by
    obtain ⟨k, rfl⟩ : ∃ k', k = k' + 3 := ⟨k - 3, by omega⟩
    have hs : i < b.size := by omega
    have h10 : i < 10 := by omega
    have hk' : 3 * m + 2 ≤ k := by omega
    have hi' : i + 1 + m = min b.size 10 := by omega
    have ih := fun n h => ref_step b m (i + 1) n hi' h k hk'
    rw [concourseref01_Take.l0, if_pos (by omega), show decide ((i : Int) < 10) = true from decide_eq_true (by omega)]
    rw [concourseref01_Take.j1, if_pos rfl, if_pos (by omega), if_pos (by omega), bt_nat b i hs, drop_cons b i hs, tkl, if_pos h10]
    generalize b[i] = c at *
    have hc := c_lt c
    have hw : IntKind.u64.wrap (c.toNat : Int) = (c.toNat : Int) := by simp [IntKind.wrap, IntKind.signed, IntKind.bits]; omega
    rw [hw]
    have hbad : ∀ p : Bool, p = decide ((i = 9 ∧ 1 < c.toNat) ∨ (c.toNat = 0 ∧ 0 < i)) → concourseref01_Take.j2 (k + 1) b (n : Int) (((128 ^ i % 18446744073709551616 : Nat) : Int)) (i : Int) (c.toNat : Int) p = some (if (i = 9 ∧ 1 < c.toNat) ∨ (c.toNat = 0 ∧ 0 < i) then (0, 0, 1) else if c.toNat < 128 then (((n + c.toNat % 128 * 128 ^ i : Nat) : Int), ((i + 1 : Nat) : Int), 0) else tkl (b.data.toList.drop (i + 1)) (i + 1) (n + c.toNat % 128 * 128 ^ i)) := by
      rintro p rfl
      rw [concourseref01_Take.j2]
      by_cases hb : (i = 9 ∧ 1 < c.toNat) ∨ (c.toNat = 0 ∧ 0 < i)
      · rw [if_pos (by simpa using hb), if_pos hb]
      · rw [if_neg (by simpa using hb), if_neg hb]
        have h9 : i = 9 → c.toNat ≤ 1 := fun e => by omega
        have hp := pow_le_63 h10
        have hpm : 128 ^ i % 18446744073709551616 = 128 ^ i := Nat.mod_eq_of_lt (by omega)
        have hf := fit h10 hn (show c.toNat % 128 < 128 by omega) (fun e => by have := h9 e; omega)
        have e1 : Int.tmod (c.toNat : Int) 128 = ((c.toNat % 128 : Nat) : Int) := by rw [Int.tmod_eq_emod_of_nonneg (by omega)]; omega
        have e2 : ((c.toNat % 128 : Nat) : Int) * ((128 ^ i : Nat) : Int) = ((c.toNat % 128 * 128 ^ i : Nat) : Int) := (Int.natCast_mul _ _).symm
        rw [hpm, e1, e2]
        have wr : ∀ x : Nat, x < 18446744073709551616 → IntKind.u64.wrap (x : Int) = (x : Int) := fun x hx => by simp [IntKind.wrap, IntKind.signed, IntKind.bits]; omega
        generalize hq : c.toNat % 128 * 128 ^ i = q at *
        have e3 : IntKind.u64.wrap ((n : Int) + IntKind.u64.wrap ((q : Nat) : Int)) = ((n + q : Nat) : Int) := by
          rw [wr q (by omega), ← Int.natCast_add, wr _ hf]
        have e4 : wrap64 ((i : Int) + 1) = ((i + 1 : Nat) : Int) := by rw [IntWalk.wrap64_in _ (by omega)]; omega
        rw [e3, e4]
        by_cases h128 : c.toNat < 128
        · rw [if_pos (by omega), if_pos h128]
        · rw [if_neg (by omega), if_neg h128]
          have e5 : IntKind.u64.wrap (((128 ^ i : Nat) : Int) * 128) = ((128 ^ (i + 1) % 18446744073709551616 : Nat) : Int) := by
            rw [Nat.pow_succ]
            simp [IntKind.wrap, IntKind.signed, IntKind.bits]
          rw [e5]
          exact ih (n + q) (by rw [← hq]; exact next_lt hn)
    by_cases h0 : (i : Int) > 0
    · rw [if_pos h0]
      by_cases hz : (c.toNat : Int) = 0
      · rw [if_pos hz]
        exact hbad _ (by first | exact dec_true (by omega) | exact dec_false (by omega) | exact decide_eq_decide.2 (by omega))
      · rw [if_neg hz]
        by_cases h9 : (i : Int) = 9
        · rw [if_pos h9]
          exact hbad _ (by first | exact dec_true (by omega) | exact dec_false (by omega) | exact decide_eq_decide.2 (by omega))
        · rw [if_neg h9]
          exact hbad _ (by first | exact dec_true (by omega) | exact dec_false (by omega) | exact decide_eq_decide.2 (by omega))
    · rw [if_neg h0, if_neg (by omega)]
      exact hbad _ (by first | exact dec_true (by omega) | exact dec_false (by omega) | exact decide_eq_decide.2 (by omega))
theorem ref_tk (b : ByteArray) (k : Nat) (hk : 32 ≤ k) : concourseref01_Take.f k b = some (tk b) := by
  have := ref_step b (min b.size 10) 0 0 (by omega) (by decide) k (by omega)
  simpa [concourseref01_Take.f, tk] using this
/-! ### ours -/
theorem and_all : ∀ x : Fin 256, bits BinOp.and IntKind.u8 ((x.1 : Nat) : Int) 127 = ((x.1 % 128 : Nat) : Int) := by decide +kernel
theorem or_add {n q i : Nat} (hn : n < 2 ^ i) (hq : n + q * 2 ^ i < 18446744073709551616) : bits BinOp.or IntKind.u64 (n : Int) ((q * 2 ^ i : Nat) : Int) = ((n + q * 2 ^ i : Nat) : Int) := by
  have h := (bits_nat .u64 64 (by decide) (fun n h0 h1 => by simp [IntKind.wrap, IntKind.signed, IntKind.bits]; omega) n (q * 2 ^ i) (by omega) (by omega)).2
  rw [h]
  have := Nat.shiftLeft_add_eq_or_of_lt hn q
  rw [Nat.shiftLeft_eq] at this
  rw [Nat.or_comm, ← this]
  omega
theorem our_step (b : ByteArray) : ∀ (m i n : Nat), i + m = min b.size 10 → n < 128 ^ i → ∀ k, 3 * m + 2 ≤ k → varint_Take.l0 k b (n : Int) (mn (b.size : Int) 10) (i : Int) = some (tkl (b.data.toList.drop i) i n)
  | 0, i, n, hi, hn, k, hk => by
    obtain ⟨k, rfl⟩ : ∃ k', k = k' + 2 := ⟨k - 2, by omega⟩
    have hm : mn (b.size : Int) 10 = ((min b.size 10 : Nat) : Int) := by unfold mn; split <;> omega
    rw [varint_Take.l0, hm, if_neg (by omega)]
    by_cases hs : i < b.size
    · have h10 : i = 10 := by omega
      subst h10
      rw [drop_cons b 10 (by omega), tkl, if_neg (by decide)]
    · rw [List.drop_eq_nil_of_le (by simp; omega), tkl]
  | m + 1, i, n, hi, hn, k, hk => by
    obtain ⟨k, rfl⟩ : ∃ k', k = k' + 3 := ⟨k - 3, by omega⟩
    have hs : i < b.size := by omega
    have h10 : i < 10 := by omega
    have hk' : 3 * m + 2 ≤ k := by omega
    have hi' : i + 1 + m = min b.size 10 := by omega
    have ih := fun n h => our_step b m (i + 1) n hi' h k hk'
    have hm : mn (b.size : Int) 10 = ((min b.size 10 : Nat) : Int) := by unfold mn; split <;> omega
    rw [varint_Take.l0, hm, if_pos (by omega), if_pos (by omega), if_pos (by omega), bt_nat b i hs, drop_cons b i hs, tkl, if_pos h10]
    rw [hm] at ih
    generalize ((min b.size 10 : Nat) : Int) = mm at *
    generalize b[i] = c at *
    have hc := c_lt c
    have hbad : ∀ p : Bool, p = decide ((i = 9 ∧ 1 < c.toNat) ∨ (c.toNat = 0 ∧ 0 < i)) → varint_Take.j2 (k + 1) b (n : Int) (i : Int) (c.toNat : Int) mm (i : Int) p = some (if (i = 9 ∧ 1 < c.toNat) ∨ (c.toNat = 0 ∧ 0 < i) then (0, 0, 1) else if c.toNat < 128 then (((n + c.toNat % 128 * 128 ^ i : Nat) : Int), ((i + 1 : Nat) : Int), 0) else tkl (b.data.toList.drop (i + 1)) (i + 1) (n + c.toNat % 128 * 128 ^ i)) := by
      rintro p rfl
      rw [varint_Take.j2]
      by_cases hb : (i = 9 ∧ 1 < c.toNat) ∨ (c.toNat = 0 ∧ 0 < i)
      · rw [if_pos (by simpa using hb), if_pos hb]
      · rw [if_neg (by simpa using hb), if_neg hb]
        have h9 : i = 9 → c.toNat ≤ 1 := fun e => by omega
        have hf := fit h10 hn (show c.toNat % 128 < 128 by omega) (fun e => by have := h9 e; omega)
        have e7 : wrap64 (7 * (i : Int)) = ((7 * i : Nat) : Int) := by rw [IntWalk.wrap64_in _ (by omega)]; omega
        have e0 := and_all ⟨c.toNat, hc⟩
        simp only at e0
        have ew : IntKind.u64.wrap ((c.toNat % 128 : Nat) : Int) = ((c.toNat % 128 : Nat) : Int) := by simp [IntKind.wrap, IntKind.signed, IntKind.bits]; omega
        have p7 : (128 : Nat) ^ i = 2 ^ (7 * i) := by rw [Nat.pow_mul]
        rw [e7, e0, ew, if_pos (by omega)]
        have es : shl .u64 ((c.toNat % 128 : Nat) : Int) ((7 * i : Nat) : Int) = ((c.toNat % 128 * 2 ^ (7 * i) : Nat) : Int) := by
          unfold shl
          rw [Int.toNat_natCast, show min (7 * i) IntKind.u64.bits = 7 * i by simp [IntKind.bits]; omega]
          have e9 : ((c.toNat % 128 : Nat) : Int) * 2 ^ (7 * i) = ((c.toNat % 128 * 2 ^ (7 * i) : Nat) : Int) := by simp
          rw [e9]
          have : c.toNat % 128 * 2 ^ (7 * i) < 18446744073709551616 := by rw [← p7]; omega
          generalize c.toNat % 128 * 2 ^ (7 * i) = q at *
          simp [IntKind.wrap, IntKind.signed, IntKind.bits]
          omega
        rw [es, or_add (by rw [← p7]; exact hn) (by rw [← p7]; exact hf), ← p7]
        have e4 : wrap64 ((i : Int) + 1) = ((i + 1 : Nat) : Int) := by rw [IntWalk.wrap64_in _ (by omega)]; omega
        rw [e4]
        by_cases h128 : c.toNat < 128
        · rw [if_pos (by omega), if_pos h128]
        · rw [if_neg (by omega), if_neg h128]
          exact ih _ (next_lt hn)
    have hj : ∀ p : Bool, p = decide (i = 9 ∧ 1 < c.toNat) → varint_Take.j1 (k + 2) b (n : Int) (i : Int) (c.toNat : Int) mm (i : Int) p = some (if (i = 9 ∧ 1 < c.toNat) ∨ (c.toNat = 0 ∧ 0 < i) then (0, 0, 1) else if c.toNat < 128 then (((n + c.toNat % 128 * 128 ^ i : Nat) : Int), ((i + 1 : Nat) : Int), 0) else tkl (b.data.toList.drop (i + 1)) (i + 1) (n + c.toNat % 128 * 128 ^ i)) := by
      rintro p rfl
      rw [varint_Take.j1]
      by_cases h1 : i = 9 ∧ 1 < c.toNat
      · rw [if_pos (by simpa using h1)]
        exact hbad _ (by first | exact dec_true (by omega) | exact dec_false (by omega) | exact decide_eq_decide.2 (by omega))
      · rw [if_neg (by simpa using h1)]
        by_cases hz : (c.toNat : Int) = 0
        · rw [if_pos hz]
          exact hbad _ (by first | exact dec_true (by omega) | exact dec_false (by omega) | exact decide_eq_decide.2 (by omega))
        · rw [if_neg hz]
          exact hbad _ (by first | exact dec_true (by omega) | exact dec_false (by omega) | exact decide_eq_decide.2 (by omega))
    by_cases h9 : (i : Int) = 9
    · rw [if_pos h9]
      exact hj _ (by first | exact dec_true (by omega) | exact dec_false (by omega) | exact decide_eq_decide.2 (by omega))
    · rw [if_neg h9]
      exact hj _ (by first | exact dec_true (by omega) | exact dec_false (by omega) | exact decide_eq_decide.2 (by omega))
theorem our_tk (b : ByteArray) : varint_Take.f 32 b = some (tk b) := by
  have := our_step b (min b.size 10) 0 0 (by omega) (by decide) 32 (by omega)
  simpa [varint_Take.f, tk] using this
theorem Take_ (b : ByteArray) (w : World) : Calls Try.prog 55 #[.string b] w fun e w' => e = .returned (.tuple #[.int .u64 (tk b).1, .int .i64 (tk b).2.1, .int .i64 (tk b).2.2]) ∧ Below w.heap.size w w' :=
  varint_Take.calls 32 b _ _ _ w (our_tk b)
end Go.Proofs.Ytdnhmlpjohojdaa.Tk
/-
  A region that draws its order, of operations that yield their values in whatever world, and behind them one alloc and one store into what it made: all taken in one line, whatever the order.
-/
namespace Go.Proofs.Ytdnhmlpjohojdaa.Line
variable {P : Program} {ops : Array Oper} {Q : Exit → Act → World → Prop} {md : Region.Mode}
def dstOf (ops : Array Oper) (i : Nat) : Option Tmp := (ops[i]?).bind (·.dst)
def runL (ops : Array Oper) : List (Nat × Value) → Act → Act
  | [], a => a
  | (i, v) :: r, a => runL ops r (a.put (dstOf ops i) v)
def listL : List (Nat × Value) → Array Bool → Array Bool
  | [], l => l
  | (i, _) :: r, l => listL r (l.setIfInBounds i true)
def okL (md : Region.Mode) (ops : Array Oper) : List (Nat × Value) → Array Bool → Bool
  | [], _ => true
  | (i, _) :: r, l => Region.free md ops l i && (Region.ready md ops l).contains i && okL md ops r (l.setIfInBounds i true)
def yieldsL (P : Program) (ops : Array Oper) : List (Nat × Value) → Act → Prop
  | [], _ => True
  | (i, v) :: r, a => (∃ oi, ops[i]? = some oi ∧ Region.wanted oi (yielded ops a.tmps) = true ∧ ∀ w, (execOp a.eval oi).run P w = .ok (.value v) w) ∧ yieldsL P ops r (a.put (dstOf ops i) v)
theorem takes (hs : Region.noSelect ops = true) (hQ : ∀ c a d v w, Q (.panic c) (Act.put a d v) w → Q (.panic c) a w) : ∀ (sc : List (Nat × Value)) (l : Array Bool) (a : Act) (w : World) (fuel : Nat), okL md ops sc l = true → yieldsL P ops sc a →
    wpAny P md ops Q fuel (listL sc l) (runL ops sc a) w → wpAny P md ops Q (fuel + sc.length) l a w
  | [], _, _, _, _, _, _, h => h
  | (i, v) :: r, l, a, w, fuel, hok, ⟨⟨oi, ho, hw, hy⟩, hr⟩, h => by
    simp only [okL, Bool.and_eq_true] at hok
    obtain ⟨⟨h1, h2⟩, h3⟩ := hok
    have hd : dstOf ops i = oi.dst := by unfold dstOf; rw [ho]; rfl
    rw [hd] at hr
    have ih := takes hs hQ r (l.setIfInBounds i true) (a.put oi.dst v) w fuel h3 hr (by simpa only [listL, runL, hd] using h)
    exact wpAny_take (fuel := fuel + r.length) ho hs h1 h2 (fun c a w => hQ c a _ _ w) (.inl ⟨hw, hy⟩) ih
theorem one {i : Nat} {oi : Oper} {fuel : Nat} {l : Array Bool} {a : Act} {w w' : World} {v : Value} (hr : Region.ready md ops l = [i]) (ho : ops[i]? = some oi) (hw : Region.wanted oi (yielded ops a.tmps) = true)
    (hy : (execOp a.eval oi).run P w = .ok (.value v) w') (h : wpAny P md ops Q fuel (l.setIfInBounds i true) (a.put oi.dst v) w') : wpAny P md ops Q (fuel + 1) l a w := by
  refine wpAny_all hr (by simp) ?_
  intro k hk
  obtain rfl : k = i := by simpa using hk
  unfold wpOp
  simp only [ho, hw, if_true]
  exact .inl (by unfold Oper.wp; rw [hy]; exact h)
theorem one_skip {i : Nat} {oi : Oper} {fuel : Nat} {l : Array Bool} {a : Act} {w w' : World} (hr : Region.ready md ops l = [i]) (ho : ops[i]? = some oi) (hw : Region.wanted oi (yielded ops a.tmps) = true)
    (hy : (execOp a.eval oi).run P w = .ok .skip w') (h : wpAny P md ops Q fuel (l.setIfInBounds i true) (a.put oi.dst undef) w') : wpAny P md ops Q (fuel + 1) l a w := by
  refine wpAny_all hr (by simp) ?_
  intro k hk
  obtain rfl : k = i := by simpa using hk
  unfold wpOp
  simp only [ho, hw, if_true]
  exact .inl (by unfold Oper.wp; rw [hy]; exact h)
theorem wp_line {id : Nat} {a : Act} {w : World} (sc : List (Nat × Value)) (hm : P.follows .mixedOrders = true) (hs : Region.noSelect ops = true) (hQ : ∀ c a d v w, Q (.panic c) (Act.put a d v) w → Q (.panic c) a w)
    (hok : okL .any ops sc (Array.replicate ops.size false) = true) (hy : yieldsL P ops sc a) (fuel : Nat) (hf : ops.size = fuel + sc.length)
    (h : wpAny P .any ops Q fuel (listL sc (Array.replicate ops.size false)) (runL ops sc a) w.drew) : (Code.region id ops true).wp P Q a w :=
  wp_region_any hm (by rw [hf]; rw [hf] at hok h; exact takes hs hQ sc _ a _ fuel hok hy h)
/-- The kit's wp_region_still_tail, the world behind the draw by its name. -/
theorem still_tail {id : Nat} {a : Act} {w : World} {l : List Oper} (n : Nat) (hm : P.follows .mixedOrders = true) (hB : Region.lexTailB .any l.toArray n = true)
    (h : wpStill P l.toArray w.drew (fun a' => wpList P l.toArray Q (l.drop n) a' w.drew) (l.take n) a) : (Code.region id l.toArray true).wp P Q a w := wp_region_still_tail n hm hB h
/-- A place at which the walk stands still: an arm '(refine Stop.at dst op ?_)'; 'constructor' goes on. -/
structure Stop (p : Prop) : Prop where
  out : p
theorem Stop.at {P : Program} {ops : Array Oper} {Q : Exit → Act → World → Prop} {rest : List Oper} {a : Act} {w : World} (dst : Option Tmp) (op : Op) {t : TypeId} {pos : String} {af : Array Edge} {g : Option (Nat × Bool)} (h : Stop (wpList P ops Q (⟨dst, op, t, pos, af, g⟩ :: rest) a w)) :
    wpList P ops Q (⟨dst, op, t, pos, af, g⟩ :: rest) a w := h.out
end Go.Proofs.Ytdnhmlpjohojdaa.Line
/-
  conf.places: a configuration's nine numbers with their bounds, as an iterator.
-/
namespace Go.Proofs.Ytdnhmlpjohojdaa.Adm
open Go.RowKit Go.Shelf Go.Proofs.Ytdnhmlpjohojdaa.Tab
attribute [local go_sem] Oper.semAt_some
/-- The bounds of the number at i. -/
def least (i : Nat) : Int := if i = 0 then 1040 else 0
def most (i : Nat) : Int := if i = 4 ∨ i = 5 then 64 else if i = 6 then 16 else 1048576
def placeV (c i : Nat) : Value := .agg #[.pointer (some ⟨c, i, none⟩), .int .i64 (least i), .int .i64 (most i)]
def placeCells (c : Nat) : Array Value := #[.pointer (some ⟨c, 0, none⟩), .int .i64 1040, .int .i64 1048576, .pointer (some ⟨c, 1, none⟩), .int .i64 0, .int .i64 1048576, .pointer (some ⟨c, 2, none⟩), .int .i64 0, .int .i64 1048576,
  .pointer (some ⟨c, 3, none⟩), .int .i64 0, .int .i64 1048576, .pointer (some ⟨c, 4, none⟩), .int .i64 0, .int .i64 64, .pointer (some ⟨c, 5, none⟩), .int .i64 0, .int .i64 64, .pointer (some ⟨c, 6, none⟩), .int .i64 0, .int .i64 16,
  .pointer (some ⟨c, 7, none⟩), .int .i64 0, .int .i64 1048576, .pointer (some ⟨c, 8, none⟩), .int .i64 0, .int .i64 1048576]
def zeroCells : Array Value := #[.pointer none, .int .i64 0, .int .i64 0, .pointer none, .int .i64 0, .int .i64 0, .pointer none, .int .i64 0, .int .i64 0, .pointer none, .int .i64 0, .int .i64 0, .pointer none, .int .i64 0, .int .i64 0,
  .pointer none, .int .i64 0, .int .i64 0, .pointer none, .int .i64 0, .int .i64 0, .pointer none, .int .i64 0, .int .i64 0, .pointer none, .int .i64 0, .int .i64 0]
def four (c k i : Nat) (x y : Int) : List (Nat × Value) :=
  [(k, .pointer (some ⟨c, 0, none⟩)), (k + 1, .pointer (some ⟨c, 0, none⟩)), (k + 2, .pointer (some ⟨c, i, none⟩)), (k + 3, .agg #[.pointer (some ⟨c, i, none⟩), .int .i64 x, .int .i64 y])]
def line (c : Nat) : List (Nat × Value) :=
  four c 0 0 1040 1048576 ++ four c 4 1 0 1048576 ++ four c 8 2 0 1048576 ++ four c 12 3 0 1048576 ++ four c 16 4 0 64 ++ four c 20 5 0 64 ++ four c 24 6 0 16 ++ four c 28 7 0 1048576 ++ four c 32 8 0 1048576 ++ [(36, .agg (placeCells c))]
/-- The frame behind the nine places. -/
def frame (c : Nat) : Array Value := #[.pointer (some ⟨c, 0, none⟩), undef, .nilFunc, undef, .pointer (some ⟨c, 0, none⟩), .pointer (some ⟨c, 0, none⟩), .pointer (some ⟨c, 0, none⟩), .agg #[.pointer (some ⟨c, 0, none⟩), .int .i64 1040, .int .i64 1048576], .pointer (some ⟨c, 0, none⟩), .pointer (some ⟨c, 0, none⟩), .pointer (some ⟨c, 1, none⟩), .agg #[.pointer (some ⟨c, 1, none⟩), .int .i64 0, .int .i64 1048576], .pointer (some ⟨c, 0, none⟩), .pointer (some ⟨c, 0, none⟩), .pointer (some ⟨c, 2, none⟩), .agg #[.pointer (some ⟨c, 2, none⟩), .int .i64 0, .int .i64 1048576], .pointer (some ⟨c, 0, none⟩), .pointer (some ⟨c, 0, none⟩), .pointer (some ⟨c, 3, none⟩), .agg #[.pointer (some ⟨c, 3, none⟩), .int .i64 0, .int .i64 1048576], .pointer (some ⟨c, 0, none⟩), .pointer (some ⟨c, 0, none⟩), .pointer (some ⟨c, 4, none⟩), .agg #[.pointer (some ⟨c, 4, none⟩), .int .i64 0, .int .i64 64], .pointer (some ⟨c, 0, none⟩), .pointer (some ⟨c, 0, none⟩), .pointer (some ⟨c, 5, none⟩), .agg #[.pointer (some ⟨c, 5, none⟩), .int .i64 0, .int .i64 64], .pointer (some ⟨c, 0, none⟩), .pointer (some ⟨c, 0, none⟩), .pointer (some ⟨c, 6, none⟩), .agg #[.pointer (some ⟨c, 6, none⟩), .int .i64 0, .int .i64 16], .pointer (some ⟨c, 0, none⟩), .pointer (some ⟨c, 0, none⟩), .pointer (some ⟨c, 7, none⟩), .agg #[.pointer (some ⟨c, 7, none⟩), .int .i64 0, .int .i64 1048576], .pointer (some ⟨c, 0, none⟩), .pointer (some ⟨c, 0, none⟩), .pointer (some ⟨c, 8, none⟩), .agg #[.pointer (some ⟨c, 8, none⟩), .int .i64 0, .int .i64 1048576], .agg (placeCells c), undef]
def frame3 (w : World) (c : Nat) : Array Value := #[.pointer (some ⟨c, 0, none⟩), undef, .nilFunc, .pointer (some ⟨w.heap.size, 0, none⟩), .pointer (some ⟨c, 0, none⟩), .pointer (some ⟨c, 0, none⟩), .pointer (some ⟨c, 0, none⟩), .agg #[.pointer (some ⟨c, 0, none⟩), .int .i64 1040, .int .i64 1048576], .pointer (some ⟨c, 0, none⟩), .pointer (some ⟨c, 0, none⟩), .pointer (some ⟨c, 1, none⟩), .agg #[.pointer (some ⟨c, 1, none⟩), .int .i64 0, .int .i64 1048576], .pointer (some ⟨c, 0, none⟩), .pointer (some ⟨c, 0, none⟩), .pointer (some ⟨c, 2, none⟩), .agg #[.pointer (some ⟨c, 2, none⟩), .int .i64 0, .int .i64 1048576], .pointer (some ⟨c, 0, none⟩), .pointer (some ⟨c, 0, none⟩), .pointer (some ⟨c, 3, none⟩), .agg #[.pointer (some ⟨c, 3, none⟩), .int .i64 0, .int .i64 1048576], .pointer (some ⟨c, 0, none⟩), .pointer (some ⟨c, 0, none⟩), .pointer (some ⟨c, 4, none⟩), .agg #[.pointer (some ⟨c, 4, none⟩), .int .i64 0, .int .i64 64], .pointer (some ⟨c, 0, none⟩), .pointer (some ⟨c, 0, none⟩), .pointer (some ⟨c, 5, none⟩), .agg #[.pointer (some ⟨c, 5, none⟩), .int .i64 0, .int .i64 64], .pointer (some ⟨c, 0, none⟩), .pointer (some ⟨c, 0, none⟩), .pointer (some ⟨c, 6, none⟩), .agg #[.pointer (some ⟨c, 6, none⟩), .int .i64 0, .int .i64 16], .pointer (some ⟨c, 0, none⟩), .pointer (some ⟨c, 0, none⟩), .pointer (some ⟨c, 7, none⟩), .agg #[.pointer (some ⟨c, 7, none⟩), .int .i64 0, .int .i64 1048576], .pointer (some ⟨c, 0, none⟩), .pointer (some ⟨c, 0, none⟩), .pointer (some ⟨c, 8, none⟩), .agg #[.pointer (some ⟨c, 8, none⟩), .int .i64 0, .int .i64 1048576], .agg (placeCells c), undef]
theorem zero9 (w : World) : (zeroValue 120).run Try.prog w = .ok (.agg zeroCells) w := by kernel_rfl
set_option maxRecDepth 100000 in
set_option maxHeartbeats 4000000 in
theorem places (w : World) (c : Nat) :
    Calls Try.prog 65 #[.pointer (some ⟨c, 0, none⟩)] w fun e w' => e = .returned (.func (.func 70) #[] #[.pointer (some ⟨w.heap.size, 0, none⟩)]) ∧ w' = (w.alloc (.cells (placeCells c) 120)).drew := by
  go_enter Try.func65, Try.ntmps65
  go_wp2_with fail
  refine Line.wp_line (line c) (by kernel_rfl) (by kernel_rfl) (fun _ _ d _ _ h => by cases d <;> exact h) (by kernel_rfl) ?_ 2 (by kernel_rfl) ?_
  · unfold line four
    simp only [List.cons_append, List.nil_append]
    repeat' (first | exact trivial | refine ⟨⟨_, rfl, by kernel_rfl, fun _ => by kernel_rfl⟩, ?_⟩)
  · rw [show Line.runL _ (line c) _ = (⟨frame c, []⟩ : Act) by kernel_rfl]
    refine Line.one (i := 37) (by kernel_rfl) rfl (by kernel_rfl) (v := .pointer (some ⟨w.heap.size, 0, none⟩)) (w' := (w.alloc (.cells zeroCells 120)).drew) (by kernel_rfl) ?_
    refine Line.one_skip (i := 38) (by kernel_rfl) rfl (by kernel_rfl) (w' := (w.alloc (.cells (placeCells c) 120)).drew) ?_ ?_
    · have hs := run_storeAt_new (P := Try.prog) w.drew 120 zeroCells (placeCells c) (by kernel_rfl) rfl (by kernel_rfl)
      show (do Instr.storeAt 120 (.pointer (some ⟨w.drew.heap.size, 0, none⟩)) (.agg (placeCells c)); pure .skip : Sem Next).run Try.prog (w.drew.alloc (.cells zeroCells 120)) = _
      rw [Sem.run_bind, hs]
      rfl
    · refine wpAny_done (by kernel_rfl) ?_ 0
      show Exit.then _ _ .normal (⟨frame3 w c, []⟩ : Act) _
      simp only [Exit.then, frame3]
      rename_i hK
      refine hK _ _ ?_
      go_wp2
      go_ret
      exact ⟨rfl, rfl⟩
end Go.Proofs.Ytdnhmlpjohojdaa.Adm
/-
  conf.places' iterator: nine rounds, a place each.
-/
namespace Go.Proofs.Ytdnhmlpjohojdaa.Adm
open Go.RowKit Go.Shelf Go.Proofs.Ytdnhmlpjohojdaa.Tab
attribute [local go_sem] Oper.semAt_some
abbrev encP (c : Nat) (x : Fin 9) : Array Value := #[.int .i64 (x.1 : Int), placeV c x.1]
def upto9 (k : Nat) : List (Fin 9) := (List.finRange 9).take k
theorem upto9_succ (x : Fin 9) : upto9 (x.1 + 1) = upto9 x.1 ++ [x] := by
  unfold upto9
  rw [List.take_succ_eq_append_getElem (by simp)]
  simp
theorem upto9_len (x : Fin 9) : (upto9 x.1).length = x.1 := by unfold upto9; simp
theorem index9 (c : Nat) (x : Fin 9) (w : World) : (Instr.index 120 (.agg (placeCells c)) (.int .i64 (x.1 : Int))).run Try.prog w = .ok (placeV c x.1) w :=
  match x with
  | ⟨0, _⟩ => by kernel_rfl
  | ⟨1, _⟩ => by kernel_rfl
  | ⟨2, _⟩ => by kernel_rfl
  | ⟨3, _⟩ => by kernel_rfl
  | ⟨4, _⟩ => by kernel_rfl
  | ⟨5, _⟩ => by kernel_rfl
  | ⟨6, _⟩ => by kernel_rfl
  | ⟨7, _⟩ => by kernel_rfl
  | ⟨8, _⟩ => by kernel_rfl
theorem load_is {F : Fence} {n : Nat} {P : Program} {w : World} {ops : Array Oper} {rest : List Oper} {o : Oper} {a : Act} {Q : Exit → Act → World → Prop} (hgd : o.guard = none) (ty : TypeId) (x : Operand) (ho : o.op = .load ty x) (p : Value) (hx : a.eval x = p)
    (v : Value) (hl : (Instr.loadAt ty p).run P w = .ok v w) (h : wpListIn F n P ops Q rest (a.put o.dst v) w) : wpListIn F n P ops Q (o :: rest) a w := by
  refine wpListIn_plain hgd fun K' hK' => ?_
  unfold Oper.wpIn
  refine ⟨by simp [Oper.about, ho], ?_⟩
  rw [Oper.semAt_plain F _ _ (by rw [ho]; intro c hc'; cases hc')]
  simp [execOp, ho, hx, hl, Result.andThen]
  exact hK' _ _ h
set_option maxRecDepth 100000 in
set_option maxHeartbeats 2000000 in
theorem places1_in (F : Fence) (n : Nat) (hf : F.fn 70) (hro : F.round = none) (hn : 1 ≤ n) (l Bs c : Nat) (J Jx : List (Fin 9) → World → Prop)
    (hY : ∀ pre x W, J pre W → pre.length < 9 → YieldAt F (n - 1) Try.prog l (encP c x) W fun e W' =>
      (e = .returned (.bool true) ∧ J (pre ++ [x]) W' ∧ KeepsWalks W W') ∨ (e = .returned (.bool false) ∧ Jx (pre ++ [x]) W'))
    (W : World) (hc : (Instr.loadAt 120 (.pointer (some ⟨Bs, 0, none⟩))).run Try.prog W = .ok (.agg (placeCells c)) W) (hJ : AbidesFrom W.heap.size J) (hJx : AbidesFrom W.heap.size Jx) (h0 : J [] W) :
    CallsIn F n Try.prog 70 #[.func (.yield l) #[] #[], .pointer (some ⟨Bs, 0, none⟩)] W fun e W' => (∃ v, e = .returned v) ∧
      ((∃ ys, ys = upto9 9 ∧ J ys W') ∨ (∃ pre, True ∧ Jx pre W')) := by
  refine callsIn_of_wp Try.func70 rfl hf ?_ hro
  simp only [Try.ntmps70, List.size_toArray, List.length_cons, List.length_nil, Nat.reduceAdd, Nat.reduceSub, Array.replicate_succ, Array.replicate_zero, List.push_toArray, List.append_toArray, List.nil_append, List.cons_append]
  have HC := Lib.hid hc
  clear hc
  gi_wp2_with (refine load_is rfl 120 (.tmp 1) rfl _ rfl _ HC.out ?_)
  gi_loopw [6] (fun i wr => ∃ k : Nat, k ≤ 9 ∧ i = .int .i64 k ∧ J (upto9 k) wr ) (fun i _ => 9 - (intOf i).toNat)
  case atStart => exact ⟨0, Nat.zero_le _, rfl, h0⟩
  case round =>
    clear HC
    obtain ⟨k, hk, rfl, hJs⟩ := hrel
    by_cases hlt : k < 9
    · have hix := index9 c ⟨k, hlt⟩
      simp only [placeV] at hix
      have hJ2 : J (upto9 k) ((wr.alloc (.cells #[.pointer (some ⟨c, k, none⟩), .int .i64 (least k), .int .i64 (most k)] 114))) := hJ _ wr _ none hJs (World.grownBy_alloc wr _ none) (fun r e => by cases e)
      obtain ⟨fn, tmps, assign, body, hy, hR⟩ := hY _ ⟨k, hlt⟩ _ hJ2 (by have := upto9_len ⟨k, hlt⟩; simp only at this; omega)
      dsimp only [encP, placeV] at hy
      gi_wp2
      refine hR.mono ?_
      rintro e W3 (⟨rfl, hJ3, hk3⟩ | ⟨rfl, hJx3⟩)
      · gi_wp2
        go_roundw
        case rel => exact ⟨k + 1, by omega, by simp, by rw [upto9_succ ⟨k, hlt⟩]; exact hJ3⟩
        case measure => simp [intOf]; omega
      · gi_wp2
        refine bodyPost_ret (results_none rfl _ _ _) rfl ?_
        exact ⟨⟨_, rfl⟩, .inr ⟨_, trivial, hJx3⟩⟩
    · obtain rfl : k = 9 := by omega
      gi_wp2
      go_end0
      exact ⟨⟨_, rfl⟩, .inl ⟨_, rfl, hJs⟩⟩
theorem places_stops (F : Fence) (n : Nat) (hf : F.fn 70) (hro : F.round = none) (hn : 1 ≤ n) (Bs c : Nat) (w : World) (hB : w.heap[Bs]? = some (.cells (placeCells c) 120 (0, 0))) :
    SeqStopsK F n Try.prog 70 #[.pointer (some ⟨Bs, 0, none⟩)] (encP c) KeepsWalks (fun ys => ys = upto9 9) (fun _ => True) 9 w := fun l J Jx W hW hJ hJx hY h0 => by
  have hB' := (hW.block Bs (Array.getElem?_eq_some_iff.1 hB).1).trans hB
  refine places1_in F n hf hro hn l Bs c J Jx hY W ?_ hJ hJx h0
  simp only [Instr.loadAt, Instr.sureAddr, Sem.run_bind, Sem.run_pure, Result.andThen]
  exact run_loadVar_row W Bs 120 120 (placeCells c) (0, 0) (.array 9 114) hB' Try.underlying120 rfl (by kernel_rfl)
end Go.Proofs.Ytdnhmlpjohojdaa.Adm
/-
  A region that draws its order and leaves the world alone, walked in the order of the text: at the wide fence, within a round too.
-/
namespace Go.Proofs.Ytdnhmlpjohojdaa.Line
variable {P : Program} {ops : Array Oper} {md : Region.Mode} {w : World} {F : Fence} {n : Nat}
/-- A fence that lets all by. -/
structure Open (F : Fence) (P : Program) : Prop where
  fn : ∀ f, F.fn f
  depth : F.depth = none
  calls : ∀ n f args w R, Calls P f args w R → CallsIn F n P f args w R
theorem open_wide (P : Program) : Open Fence.wide P := ⟨fun _ => trivial, rfl, fun _ _ _ _ _ h => callsIn_wide.2 h⟩
theorem open_round (P : Program) (l : Nat) : Open (Fence.wide.inRound l) P := ⟨fun _ => trivial, rfl, fun _ _ _ _ _ h => CallsIn.inRound l (callsIn_wide.2 h)⟩
def noDefer (o : Oper) : Bool := match o.op with | .defer _ => false | _ => true
theorem noDefer_ne {o : Oper} (h : noDefer o = true) (c) : o.op ≠ .defer c := by
  intro e
  simp [noDefer, e] at h
theorem wpIn_of_still (hF : Open F P) {o : Oper} (hd : noDefer o = true) {a : Act} {K : Act → Prop} {K' : Act → World → Prop} {Q' : Exit → Act → World → Prop} (h : ∀ a, K a → K' a w) (hh : o.still P a w K) : o.wpIn F n P a w K' Q' := by
  unfold Oper.still at hh
  unfold Oper.wpIn
  refine ⟨fun f _ => hF.fn f, ?_⟩
  rw [Oper.semAt_eq _ _ _ (noDefer_ne hd)]
  generalize (execOp a.eval o).run P w = r at *
  cases r with
  | ok x w' =>
    cases x <;> simp only [Oper.stillUpon] at hh <;> simp only [Oper.uponIn]
    case enter f args =>
      obtain ⟨rfl, v, hc, hn⟩ := hh
      refine ⟨fun hs => (by rw [hF.depth] at hs; cases hs), hF.calls _ _ _ _ _ (hc.mono fun e w'' ⟨he, hw⟩ => ?_)⟩
      subst he; subst hw; exact h _ hn
    all_goals (obtain ⟨rfl, h2⟩ := hh; exact h _ h2)
  | halt x w' => simp only [Oper.stillUpon] at hh
theorem wpOpIn_of_stOp (hF : Open F P) (hd : ops.all noDefer = true) {Q' : Exit → Act → World → Prop} {i : Nat} {a : Act} {K : Act → Prop} {K' : Act → World → Prop} (h : ∀ a, K a → K' a w) (hh : stOp P ops w i K a) : wpOpIn F n P ops Q' i K' a w := by
  unfold stOp at hh
  unfold wpOpIn
  split
  · rename_i ho; simp only [ho] at hh; exact h _ hh
  · rename_i o ho
    simp only [ho] at hh
    have hn : noDefer o = true := Array.all_eq_true_iff_forall_mem.1 hd o (Array.mem_of_getElem? ho)
    split
    · rename_i hw; simp only [hw, if_true] at hh; exact wpIn_of_still hF hn h hh
    · rename_i hw; simp only [hw] at hh; exact ⟨fun f _ => hF.fn f, h _ hh⟩
theorem wpAnyIn_of_still (hF : Open F P) (hd : ops.all noDefer = true) {Q : Act → Prop} {Q' : Exit → Act → World → Prop} (hQ : ∀ a, Q a → Q' .normal a w) : ∀ (fuel : Nat) (listed : Array Bool) (a : Act),
    wpAnyS P md ops w Q fuel listed a → wpAnyIn F n P md ops Q' fuel listed a w
  | 0, _, _, h => ⟨h.1, hQ _ h.2⟩
  | fuel + 1, _, _, h => ⟨fun h0 => hQ _ (h.1 h0), fun i hi => wpOpIn_of_stOp hF hd (fun a' => wpAnyIn_of_still hF hd hQ fuel _ a') (h.2 i hi)⟩
theorem wpIn_region_still_lit (hF : Open F P) {id : Nat} {Q : Exit → Act → World → Prop} {a : Act} {l : List Oper} (hm : P.follows .mixedOrders = true) (hB : Region.lexB .any l.toArray = true) (hd : l.toArray.all noDefer = true)
    (h : wpStill P l.toArray w.drew (fun a' => Q .normal a' w.drew) l a) : (Code.region id l.toArray true).wpIn F n P Q a w := by
  simp only [Region.lexB, Bool.and_eq_true] at hB
  refine wpIn_region_any hm (wpAnyIn_of_still hF hd (Q := fun a' => Q .normal a' w.drew) (fun _ h => h) _ _ _ ?_)
  have := wpAnyS_lex (md := .any) hB.1 l 0 (Array.replicate l.toArray.size false) a (by simp) (by simpa using hB.2) h
  simpa using this
/-! ### the same for a region that only draws -/
theorem wpIn_of_quiet {C : World → Prop} (hF : Open F P) {o : Oper} (hd : noDefer o = true) {a : Act} {K : Act → Prop} {K' : Act → World → Prop} {Q' : Exit → Act → World → Prop} {w : World} (hw : C w) (h : ∀ a w', C w' → K a → K' a w') (hh : o.quiet P a C K) : o.wpIn F n P a w K' Q' := by
  obtain ⟨v, h1, h2⟩ := hh
  have h3 := h1 w hw
  unfold Oper.quietAt at h3
  unfold Oper.wpIn
  refine ⟨fun f _ => hF.fn f, ?_⟩
  rw [Oper.semAt_eq _ _ _ (noDefer_ne hd)]
  generalize (execOp a.eval o).run P w = r at *
  cases r with
  | ok x w' =>
    cases x <;> simp only [Oper.quietUpon] at h3 <;> simp only [Oper.uponIn]
    case value u =>
      obtain ⟨e1, e2⟩ := h3
      rw [e1, e2]
      exact h _ _ hw h2
    case skip =>
      obtain ⟨e1, e2⟩ := h3
      rw [e1, ← e2]
      exact h _ _ hw h2
    case enter f args =>
      obtain ⟨e1, hc⟩ := h3
      rw [e1]
      refine ⟨fun hs => (by rw [hF.depth] at hs; cases hs), hF.calls _ _ _ _ _ (hc.mono fun e w'' ⟨he, hw''⟩ => ?_)⟩
      subst he
      exact h _ _ hw'' h2
  | halt x w' => simp only [Oper.quietUpon] at h3
theorem wpOpIn_of_qOp {C : World → Prop} (hF : Open F P) (hd : ops.all noDefer = true) {i : Nat} {a : Act} {K : Act → Prop} {K' : Act → World → Prop} {Q' : Exit → Act → World → Prop} {w : World} (hC : C w) (h : ∀ a w', C w' → K a → K' a w') (hh : qOp P ops C i K a) : wpOpIn F n P ops Q' i K' a w := by
  unfold qOp at hh
  unfold wpOpIn
  split
  · rename_i ho; simp only [ho] at hh; exact h _ _ hC hh
  · rename_i o ho
    simp only [ho] at hh
    have hn : noDefer o = true := Array.all_eq_true_iff_forall_mem.1 hd o (Array.mem_of_getElem? ho)
    split
    · rename_i hw; simp only [hw, if_true] at hh; exact wpIn_of_quiet hF hn hC h hh
    · rename_i hw; simp only [hw] at hh; exact ⟨fun f _ => hF.fn f, h _ _ hC hh⟩
theorem wpAnyIn_of_quiet {C : World → Prop} (hF : Open F P) (hd : ops.all noDefer = true) {Q : Act → Prop} {Q' : Exit → Act → World → Prop} (hQ : ∀ a w, C w → Q a → Q' .normal a w) : ∀ (fuel : Nat) (listed : Array Bool) (a : Act) (w : World), C w →
    wpAnyQ P md ops C Q fuel listed a → wpAnyIn F n P md ops Q' fuel listed a w
  | 0, _, _, _, hw, h => ⟨h.1, hQ _ _ hw h.2⟩
  | fuel + 1, _, _, _, hw, h => ⟨fun h0 => hQ _ _ hw (h.1 h0), fun i hi => wpOpIn_of_qOp hF hd hw (fun a' w' hw' => wpAnyIn_of_quiet hF hd hQ fuel _ a' w' hw') (h.2 i hi)⟩
theorem wpIn_region_quiet_lit (hF : Open F P) {id : Nat} {Q : Exit → Act → World → Prop} {a : Act} {w : World} {l : List Oper} (hm : P.follows .mixedOrders = true) (hB : Region.lexB .any l.toArray = true) (hd : l.toArray.all noDefer = true)
    (h : wpQuiet P l.toArray (fun w' => ∃ n, w' = w.drewN n) (fun a' => ∀ w', (∃ n, w' = w.drewN n) → Q .normal a' w') l a) : (Code.region id l.toArray true).wpIn F n P Q a w := by
  simp only [Region.lexB, Bool.and_eq_true] at hB
  refine wpIn_region_any hm (wpAnyIn_of_quiet hF hd (Q := fun a' => ∀ w', (∃ n, w' = w.drewN n) → Q .normal a' w') (fun _ w' hw' h => h w' hw') _ _ _ _ ⟨1, rfl⟩ ?_)
  have := wpAnyQ_lex (C := fun w' => ∃ n, w' = w.drewN n) (md := .any) hB.1 l 0 (Array.replicate l.toArray.size false) a (by simp) (by simpa using hB.2) h
  simpa using this
end Go.Proofs.Ytdnhmlpjohojdaa.Line
/-
  conf.Check: by its contract.
-/
namespace Go.Proofs.Ytdnhmlpjohojdaa.Adm
open Go.RowKit Go.Shelf Go.Proofs.Ytdnhmlpjohojdaa.Tab
attribute [local go_sem] Oper.semAt_some
/-- A configuration's cells. -/
abbrev cells9 (v : Fin 9 → Int) : Array Value := #[.int .i64 (v 0), .int .i64 (v 1), .int .i64 (v 2), .int .i64 (v 3), .int .i64 (v 4), .int .i64 (v 5), .int .i64 (v 6), .int .i64 (v 7), .int .i64 (v 8)]
theorem cells9_at (v : Fin 9 → Int) (x : Fin 9) : (cells9 v)[x.1]? = some (.int .i64 (v x)) :=
  match x with
  | 0 => rfl | 1 => rfl | 2 => rfl | 3 => rfl | 4 => rfl | 5 => rfl | 6 => rfl | 7 => rfl | 8 => rfl
/-- One number is within its bounds. -/
def in9 (v : Fin 9 → Int) (x : Fin 9) : Prop := least x.1 ≤ v x ∧ v x ≤ most x.1
instance (v : Fin 9 → Int) (x : Fin 9) : Decidable (in9 v x) := by unfold in9; infer_instance
def okB (v : Fin 9 → Int) : Bool := decide (∀ x : Fin 9, in9 v x)
theorem cell_of_cells {W : World} {B : Nat} {cs : Array Value} {t : TypeId} {fr : Nat × Nat} (h : W.heap[B]? = some (.cells cs t fr)) (i : Nat) : W.cell? ⟨B, i, none⟩ = cs[i]? := by
  simp [World.cell?, h]
/-- A block that holds what it holds: whatever turns that is no cells, it stays. -/
theorem block_own {β : Type} (B : Nat) (o : Obj) (ho : o.isCells = true) : Own (fun (_ : β) W => W.heap[B]? = some o) := fun s X Y row hs hg hrow => by
  refine (hg.block B (Array.getElem?_eq_some_iff.1 hs).1 (fun e => ?_)).trans hs
  obtain ⟨o', ho', hc⟩ := hrow B e.symm
  rw [hs] at ho'
  cases ho'
  rw [ho] at hc
  cases hc
def At9 (v : Fin 9 → Int) (B : Nat) (W : World) : Prop := W.heap[B]? = some (.cells (cells9 v) 24 (0, 0))
def AxP (c : Nat) (f : Fin 9 → Value → Act) (x : Fin 9) (a' : Act) (W : World) : Prop :=
  ∃ Bx, W.heap[Bx]? = some (.cells #[.pointer (some ⟨c, x.1, none⟩), .int .i64 (least x.1), .int .i64 (most x.1)] 114 (0, 0)) ∧ a' = f x (.pointer (some ⟨Bx, 0, none⟩))
theorem axP_own (c : Nat) (f : Fin 9 → Value → Act) (B : Nat) (x : Fin 9) (a' : Act) : OwnFrom B (fun (_ : Unit) W => AxP c f x a' W) := fun s X Y row hs hg hrow => by
  obtain ⟨Bx, h2, h3⟩ := hs
  exact ⟨Bx, block_own (β := Unit) Bx _ rfl () X Y row h2 hg (fun r e => (hrow r e).2), h3⟩
theorem mem_upto9 (x : Fin 9) : x ∈ upto9 9 := by
  unfold upto9
  rw [List.take_of_length_le (by simp)]
  exact List.mem_finRange x
/-- OK, or what is formed wrongly. -/
def errB (b : Bool) : Int := if b then 0 else 1
theorem keeps_heap {W W1 W2 : World} (e : W2.heap = W1.heap) (h : KeepsOthers W W1) (B : Nat) : KeepsFrom B W W2 :=
  KeepsOthers.from ⟨by rw [e]; exact h.size, fun k o hk ho => by rw [e]; exact h.same k o hk ho⟩ B
set_option maxRecDepth 100000 in
set_option maxHeartbeats 1000000 in
theorem Check_ (v : Fin 9 → Int) (w : World) :
    Calls Try.prog 47 #[.agg (cells9 v)] w fun e w' => e = .returned (.int .i64 (errB (okB v))) ∧ Below w.heap.size w w' := by
  refine (callsIn_wide (n := 6)).1 ?_
  refine callsIn_of_wp_marks Try.func47 rfl trivial ?_ rfl
  simp only [Try.ntmps47, List.size_toArray, List.length_cons, List.length_nil, Nat.reduceAdd, Nat.reduceSub, Array.replicate_succ, Array.replicate_zero, List.push_toArray, List.append_toArray, List.nil_append, List.cons_append]
  gi_wp2_with (refine ⟨trivial, ?_⟩; gi_at_call 65; refine (callsIn_wide.2 (places _ _)).mono ?_; rintro e w' ⟨rfl, rfl⟩)
  have hsz : (((w.alloc (.cells (cells9 v) 24)).alloc (.cells #[.int .i64 0] 27)).alloc (.cells (placeCells w.heap.size) 120)).drew.heap.size = w.heap.size + 3 := by simp
  have hA : At9 v w.heap.size (((w.alloc (.cells (cells9 v) 24)).alloc (.cells #[.int .i64 0] 27)).alloc (.cells (placeCells w.heap.size) 120)).drew := (Below.heap_alloc _ _ _ (by simp; omega)).trans ((Below.heap_alloc _ _ _ (by simp)).trans (heap_alloc_last w _))
  have hR : Boxed (((w.alloc (.cells (cells9 v) 24)).alloc (.cells #[.int .i64 0] 27)).alloc (.cells (placeCells w.heap.size) 120)).drew (w.heap.size + 1) 27 (.int .i64 0) := (Below.heap_alloc _ _ _ (by simp)).trans (by have := heap_alloc_last (w.alloc (.cells (cells9 v) 24)) (.cells #[.int .i64 0] 27); simpa using this)
  have hP : (((w.alloc (.cells (cells9 v) 24)).alloc (.cells #[.int .i64 0] 27)).alloc (.cells (placeCells w.heap.size) 120)).drew.heap[w.heap.size + 1 + 1]? = some (.cells (placeCells w.heap.size) 120 (0, 0)) := by have := heap_alloc_last ((w.alloc (.cells (cells9 v) 24)).alloc (.cells #[.int .i64 0] 27)) (.cells (placeCells w.heap.size) 120); simp only [World.size_alloc] at this; exact this
  have hB : Below w.heap.size w (((w.alloc (.cells (cells9 v) 24)).alloc (.cells #[.int .i64 0] 27)).alloc (.cells (placeCells w.heap.size) 120)).drew := ((((Below.refl _ w).alloc (Nat.le_refl _) _).alloc (by simp) _).alloc (by simp; omega) _).drew
  generalize (((w.alloc (.cells (cells9 v) 24)).alloc (.cells #[.int .i64 0] 27)).alloc (.cells (placeCells w.heap.size) 120)).drew = W0 at *
  refine wpIn_rangeFunc_ownH rfl (by omega) (gf := 70) (lb := #[.pointer (some ⟨w.heap.size + 1 + 1, 0, none⟩)]) rfl trivial (enters_of Try.func70 (by kernel_rfl) rfl)
    (places_stops Fence.wide _ trivial rfl (by omega) (w.heap.size + 1 + 1) w.heap.size W0 hP) walksK_t walksK_b (Below.refl _ _) (fun _ => rfl)
    (fun pre W => (At9 v w.heap.size W ∧ Boxed W (w.heap.size + 1) 27 (.int .i64 0)) ∧ (Below w.heap.size w W ∧ ∀ x ∈ pre, in9 v x))
    (fun c pre W => (At9 v w.heap.size W ∧ Boxed W (w.heap.size + 1) 27 (.int .i64 1)) ∧ (Below w.heap.size w W ∧ (c = .ret ∧ ∃ x, ¬ in9 v x)))
    (OwnFrom.and (OwnFrom.and (Own.from (block_own _ _ rfl) _) (Own.from (boxed_own _ _ (fun _ => Value.int .i64 0)) _)) (OwnFrom.and (ownFrom_below (Nat.le_refl _) (by omega)) (ownFrom_pure _ (fun pre => ∀ x ∈ pre, in9 v x))))
    (fun c => OwnFrom.and (OwnFrom.and (Own.from (block_own _ _ rfl) _) (Own.from (boxed_own _ _ (fun _ => Value.int .i64 1)) _)) (OwnFrom.and (ownFrom_below (Nat.le_refl _) (by omega)) (ownFrom_pure _ (fun _ => c = .ret ∧ ∃ x, ¬ in9 v x))))
    ⟨⟨hA, hR⟩, hB, by simp⟩
    (AxP w.heap.size (fun x p => { tmps := #[.agg (cells9 v), .pointer (some ⟨w.heap.size, 0, none⟩), .pointer (some ⟨w.heap.size + 1, 0, none⟩), undef, p, .func (.func 70) #[] #[.pointer (some ⟨w.heap.size + 1 + 1, 0, none⟩)], .int .i64 (x.1 : Int), placeV w.heap.size x.1, undef, undef, undef, undef, undef, undef, undef, undef, undef, undef, undef, undef, undef, undef, undef, undef], defers := [] }))
    (axP_own _ _ _) ?assign ?body ?done ?stop
  case assign =>
    rintro l pre x W K ⟨⟨hA', hR'⟩, hB', hp⟩ hK
    simp only [encP, placeV]
    gi_wp2
    refine hK _ _ ((KeepsOthers.alloc W (.cells #[.pointer (some ⟨w.heap.size, x.1, none⟩), .int .i64 (least x.1), .int .i64 (most x.1)] 114)).from _) ((KeepsOthers.alloc W _).walks) ?_ ?_
    · exact ⟨⟨(Below.heap_alloc _ _ _ (Array.getElem?_eq_some_iff.1 hA').1).trans hA', hR'.alloc _⟩, hB'.alloc (hB'.size) _, hp⟩
    · exact ⟨W.heap.size, heap_alloc_last _ _, rfl⟩
  case body =>
    rintro l pre x a' W hl ⟨r, hr⟩ ⟨⟨hA', hR'⟩, hB', hp⟩ ⟨Bx, hX, rfl⟩ hlen
    have hc : W.cell? ⟨w.heap.size, x.1, none⟩ = some (.int .i64 (v x)) := (cell_of_cells hA' x.1).trans (cells9_at v x)
    have hc0 : W.cell? ⟨Bx, 0, none⟩ = some (.pointer (some ⟨w.heap.size, x.1, none⟩)) := cell_of_cells hX 0
    have hc1 : W.cell? ⟨Bx, 1, none⟩ = some (.int .i64 (least x.1)) := cell_of_cells hX 1
    have hc2 : W.cell? ⟨Bx, 2, none⟩ = some (.int .i64 (most x.1)) := cell_of_cells hX 2
    have hrf := hR'.frozen
    have hrc := hR'.cell
    have HA := Lib.hid hA'
    have HX := Lib.hid hX
    have HR := Lib.hid hR'
    have HB := Lib.hid hB'
    have HP := Lib.hid hp
    clear hA' hX hR' hB' hp hr hA hR hP hB hsz
    by_cases h1 : v x < least x.1
    · have hin : Hid (¬ in9 v x) := fun h => by have := h.1; omega
      gi_wp2_with fail
      refine Line.wpIn_region_quiet_lit (Line.open_round _ l) (by kernel_rfl) (by kernel_rfl) (by kernel_rfl) ?_
      repeat (go_big_quiet_step (fail))
      refine wpQuiet_nil ?_
      intro _ hw'
      obtain ⟨nq, hw''⟩ := hw'
      subst hw''
      gi_wp2
      have hk := KeepsOthers.setCell W ⟨w.heap.size + 1, 0, none⟩ (.int .i64 1)
      have ha : At9 v w.heap.size (W.setCell ⟨w.heap.size + 1, 0, none⟩ (.int .i64 1)) := (Below.heap_setCell _ _ _ _ (by simp)).trans HA.out
      have hb := HR.out.set (.int .i64 1)
      have hbl := HB.out.setCell (p := ⟨w.heap.size + 1, 0, none⟩) (by simp) (.int .i64 1)
      exact ⟨keeps_heap (by rfl) hk _, ⟨ha, hb⟩, ⟨hbl.os, hbl.tape, hbl.output, hbl.size, hbl.block⟩, rfl, x, hin⟩
    · have hd1 : decide (v x < least x.1) = false := decide_eq_false h1
      by_cases h2 : most x.1 < v x
      · have hin : Hid (¬ in9 v x) := fun h => by have := h.2; omega
        gi_wp2_with fail
        refine Line.wpIn_region_quiet_lit (Line.open_round _ l) (by kernel_rfl) (by kernel_rfl) (by kernel_rfl) ?_
        repeat (go_big_quiet_step (fail))
        refine wpQuiet_nil ?_
        intro _ hw'
        obtain ⟨nq, hw''⟩ := hw'
        subst hw''
        gi_wp2
        have hk := KeepsOthers.setCell W ⟨w.heap.size + 1, 0, none⟩ (.int .i64 1)
        have ha : At9 v w.heap.size (W.setCell ⟨w.heap.size + 1, 0, none⟩ (.int .i64 1)) := (Below.heap_setCell _ _ _ _ (by simp)).trans HA.out
        have hb := HR.out.set (.int .i64 1)
        have hbl := HB.out.setCell (p := ⟨w.heap.size + 1, 0, none⟩) (by simp) (.int .i64 1)
        exact ⟨keeps_heap (by rfl) hk _, ⟨ha, hb⟩, ⟨hbl.os, hbl.tape, hbl.output, hbl.size, hbl.block⟩, rfl, x, hin⟩
      · have hin : Hid (in9 v x) := ⟨by omega, by omega⟩
        have hd2 : decide (most x.1 < v x) = false := decide_eq_false h2
        gi_wp2_with fail
        refine Line.wpIn_region_quiet_lit (Line.open_round _ l) (by kernel_rfl) (by kernel_rfl) (by kernel_rfl) ?_
        repeat (go_big_quiet_step (fail))
        refine wpQuiet_nil ?_
        intro _ hw'
        obtain ⟨nq, hw''⟩ := hw'
        subst hw''
        gi_wp2
        have hk := KeepsOthers.refl W
        have hbl := HB.out
        exact ⟨keeps_heap (by rfl) hk _, ⟨Nat.le_refl _, fun _ _ h _ => h⟩, ⟨HA.out, HR.out⟩, ⟨hbl.os, hbl.tape, hbl.output, hbl.size, hbl.block⟩, fun y hy => by
          rcases List.mem_append.1 hy with h | h
          · exact HP.out y h
          · obtain rfl : y = x := by simpa using h
            exact hin⟩
  case done =>
    rintro D ys W hD rfl ⟨⟨hA', hR'⟩, hB', hp⟩ hK
    have hok : okB v = true := decide_eq_true (fun x => hp x (mem_upto9 x))
    have hrf := hR'.frozen
    have hrc := hR'.cell
    have HR := Lib.hid hR'
    have HB := Lib.hid hB'
    have HK := Lib.hid hK
    have HO := Lib.hid hok
    clear hR' hB' hp hA hR hP hB hok hK
    gi_wp2
    have hK' := (KeepsOthers.setCell W ⟨w.heap.size + 1, 0, none⟩ (.int .i64 0)).same D _ HK.out rfl
    have hbl := HB.out.setCell (p := ⟨w.heap.size + 1, 0, none⟩) (by simp) (.int .i64 0)
    refine ⟨by simp, .inl ⟨_, _, rfl, run_takeDeferred hK', ?_⟩⟩
    have hc5 := cell_kept (HR.out.set (.int .i64 0)).cell (grownBy_putObj' _ D (.deferred none)) (fun r e => by cases e; exact ⟨_, hK', rfl⟩)
    refine ⟨.int .i64 0, by simp [results, Try.f47, go_sem, hc5], by rw [HO.out]; rfl, hbl.trans (belowK_b (w := w) (Nat.le_refl _) _ D _ _ (by omega) hK' rfl rfl)⟩
  case stop =>
    rintro D c pre W hD _ ⟨⟨hA', hR'⟩, hB', rfl, x, hx⟩ hK
    have hok : okB v = false := decide_eq_false (fun h => hx (h x))
    have HR := Lib.hid hR'
    have HB := Lib.hid hB'
    have HK := Lib.hid hK
    have HO := Lib.hid hok
    clear hR' hB' hA hR hP hB hok hK hx
    gi_wp2
    refine ⟨by simp, .inl ⟨_, _, rfl, run_takeDeferred HK.out, ?_⟩⟩
    have hc5 := cell_kept HR.out.cell (grownBy_putObj' _ D (.deferred none)) (fun r e => by cases e; exact ⟨_, HK.out, rfl⟩)
    refine ⟨.int .i64 1, by simp [results, Try.f47, go_sem, hc5], by rw [HO.out]; rfl, HB.out.trans (belowK_b (w := w) (Nat.le_refl _) _ D _ _ (by omega) HK.out rfl rfl)⟩
end Go.Proofs.Ytdnhmlpjohojdaa.Adm
/-
  admin.configures, admin.form: by their contracts.
-/
namespace Go.Proofs.Ytdnhmlpjohojdaa.Adm
open Go.RowKit Go.Proofs.Ytdnhmlpjohojdaa.Tab
/-- An order. -/
structure Order where
  id : Int
  op : Int
  owner : Int
  v : Fin 9 → Int
abbrev cells12 (o : Order) : Array Value := #[.int .u64 o.id, .int .i64 o.op, .int .i64 o.owner, .int .i64 (o.v 0), .int .i64 (o.v 1), .int .i64 (o.v 2), .int .i64 (o.v 3), .int .i64 (o.v 4), .int .i64 (o.v 5), .int .i64 (o.v 6), .int .i64 (o.v 7), .int .i64 (o.v 8)]
abbrev ordV (o : Order) : Value := .agg (cells12 o)
def inRange (o : Order) : Prop := 1 ≤ o.op ∧ o.op ≤ 6 ∧ 1 ≤ o.owner ∧ o.owner ≤ 8
instance (o : Order) : Decidable (inRange o) := by unfold inRange; infer_instance
def formB (o : Order) : Bool := decide (inRange o ∧ ((o.op = 1 ∨ o.op = 6) → okB o.v = true))
theorem configures_yes (op : Int) (h : op = 1 ∨ op = 6) (w : World) : Calls Try.prog 27 #[.int .i64 op] w fun e w' => e = .returned (.bool true) ∧ w = w' := by
  rcases h with rfl | rfl
  all_goals
    go_enter Try.func27, Try.ntmps27
    go_wp2
    go_ret
    exact ⟨rfl, rfl⟩
theorem configures_no (op : Int) (h : ¬ (op = 1 ∨ op = 6)) (w : World) : Calls Try.prog 27 #[.int .i64 op] w fun e w' => e = .returned (.bool false) ∧ w = w' := by
  have h1 : (op == 1) = false := beq_eq_false_iff_ne.2 (by omega)
  have h2 : (op == 6) = false := beq_eq_false_iff_ne.2 (by omega)
  clear h
  go_enter Try.func27, Try.ntmps27
  go_wp2
  go_ret
  exact ⟨rfl, rfl⟩
set_option maxRecDepth 100000 in
set_option maxHeartbeats 1000000 in
theorem form_out (o : Order) (h : ¬ inRange o) (w : World) : Calls Try.prog 25 #[ordV o] w fun e w' => e = .returned (.int .i64 1) ∧ Below w.heap.size w w' := by
  have hB : Below w.heap.size w (w.alloc (.cells (cells12 o) 30)) := (Below.refl _ _).alloc (Nat.le_refl _) _
  have HB := Lib.hid hB
  clear hB
  obtain ⟨id, op, owner, v⟩ := o
  unfold inRange at h
  simp only at h HB ⊢
  by_cases h1 : op < 1
  · clear h
    go_enter Try.func25, Try.ntmps25
    go_wp2
    go_ret
    exact ⟨rfl, HB.out⟩
  · by_cases h2 : 6 < op
    · clear h
      go_enter Try.func25, Try.ntmps25
      go_wp2
      go_ret
      exact ⟨rfl, HB.out⟩
    · by_cases h3 : owner < 1
      · clear h
        go_enter Try.func25, Try.ntmps25
        go_wp2
        go_ret
        exact ⟨rfl, HB.out⟩
      · have h4 : 8 < owner := by omega
        clear h
        go_enter Try.func25, Try.ntmps25
        go_wp2
        go_ret
        exact ⟨rfl, HB.out⟩
set_option maxRecDepth 100000 in
set_option maxHeartbeats 1000000 in
theorem form_in (o : Order) (h : inRange o) (w : World) : Calls Try.prog 25 #[ordV o] w fun e w' => e = .returned (.int .i64 (errB (formB o))) ∧ Below w.heap.size w w' := by
  have hB : Below w.heap.size w (w.alloc (.cells (cells12 o) 30)) := (Below.refl _ _).alloc (Nat.le_refl _) _
  have HB := Lib.hid hB
  clear hB
  obtain ⟨h1, h2, h3, h4⟩ := h
  by_cases hc : o.op = 1 ∨ o.op = 6
  · have HF : Hid (formB o = okB o.v) := by
      show formB o = okB o.v
      unfold formB
      rw [Bool.eq_iff_iff, decide_eq_true_iff]
      exact ⟨fun h => h.2 hc, fun h => ⟨⟨h1, h2, h3, h4⟩, fun _ => h⟩⟩
    have HC := Lib.hid (configures_yes o.op hc)
    clear hc
    obtain ⟨id, op, owner, v⟩ := o
    simp only at h1 h2 h3 h4 HF HC HB ⊢
    go_enter Try.func25, Try.ntmps25
    go_wp2_with (first
      | (go_at_call 27; refine (HC.out _).mono ?_; rintro e w' ⟨rfl, rfl⟩)
      | (go_at_call 47; refine (Check_ v _).mono ?_; rintro e w' ⟨rfl, hb⟩))
    go_ret
    exact ⟨by rw [HF.out]; rfl, HB.out.trans (hb.mono (by simp))⟩
  · have HF : Hid (formB o = true) := by
      show formB o = true
      unfold formB
      exact decide_eq_true ⟨⟨h1, h2, h3, h4⟩, fun h => absurd h hc⟩
    have HC := Lib.hid (configures_no o.op hc)
    clear hc
    obtain ⟨id, op, owner, v⟩ := o
    simp only at h1 h2 h3 h4 HF HC HB ⊢
    go_enter Try.func25, Try.ntmps25
    go_wp2_with (first
      | (go_at_call 27; refine (HC.out _).mono ?_; rintro e w' ⟨rfl, rfl⟩))
    go_ret
    exact ⟨by rw [HF.out]; rfl, HB.out⟩
theorem form_ (o : Order) (w : World) : Calls Try.prog 25 #[ordV o] w fun e w' => e = .returned (.int .i64 (errB (formB o))) ∧ Below w.heap.size w w' := by
  by_cases h : inRange o
  · exact form_in o h w
  · have e : formB o = false := decide_eq_false (fun h' => h h'.1)
    rw [e]
    exact form_out o h w
end Go.Proofs.Ytdnhmlpjohojdaa.Adm
/-
  admin.Put: by its contracts.
-/
namespace Go.Proofs.Ytdnhmlpjohojdaa.Adm
open Go.RowKit Go.Proofs.Ytdnhmlpjohojdaa.Tab Go.Proofs.Ytdnhmlpjohojdaa.R Go.Proofs.YtdnhmlpjohojdaaW.PrintWords
/-- A number of 64 bits without a sign. -/
def U64 (x : Int) : Prop := 0 ≤ x ∧ x < 18446744073709551616
def numS (x : Int) : ByteArray := strOfNums (vl x.toNat)
theorem numS_size (x : Int) (h : U64 x) : (numS x).size ≤ 10 := by
  have := vl_len10 (m := x.toNat) (by have := h.1; have := h.2; omega)
  unfold numS
  simpa [strOfNums, ByteArray.size] using this
theorem PutI (x : Int) (h : U64 x) (w : World) : Calls Try.prog 26 #[.int .u64 x] w fun e w' => e = .returned (.string (numS x)) ∧ Below w.heap.size w w' := by
  obtain ⟨n, rfl⟩ := Int.eq_ofNat_of_zero_le h.1
  have := Put_ w n (by have := h.2; omega)
  unfold numS
  rw [Int.toNat_natCast]
  exact this
theorem U64_small {x : Int} (h0 : 0 ≤ x) (h1 : x ≤ 2097152) : U64 x := ⟨h0, by omega⟩
theorem cellsOf_alloc (w : World) (C : Array Value) (t : TypeId) (i : Nat) : (w.alloc (.cells C t)).cell? ⟨w.heap.size, i, none⟩ = C[i]? := World.cell?_alloc_at _ _ _ _ rfl
theorem cell_step {w w1 w2 : World} {B i : Nat} {u : Value} (hb : Below w1.heap.size w1 w2) (h : w1.cell? ⟨B, i, none⟩ = some u) : w2.cell? ⟨B, i, none⟩ = some u := pw_cell_below hb h
set_option maxRecDepth 100000 in
set_option maxHeartbeats 1000000 in
theorem Put_bad (o : Order) (h : formB o = false) (w : World) : Calls Try.prog 8 #[ordV o] w fun e w' => e = .returned (.tuple #[.string ⟨#[]⟩, .int .i64 1]) ∧ Below w.heap.size w w' := by
  have hB : Below w.heap.size w (w.alloc (.cells (cells12 o) 30)) := (Below.refl _ _).alloc (Nat.le_refl _) _
  have HB := Lib.hid hB
  have HF := Lib.hid (form_ o)
  rw [h] at HF
  clear hB h
  obtain ⟨id, op, owner, v⟩ := o
  go_enter Try.func8, Try.ntmps8
  go_wp2_with (first
    | (go_at_call 25; refine (HF.out _).mono ?_; unfold errB; rintro e w1 ⟨rfl, hb⟩))
  go_ret2
  exact ⟨rfl, HB.out.trans (hb.mono (by simp))⟩
set_option maxRecDepth 100000 in
set_option maxHeartbeats 1000000 in
theorem Put_no (o : Order) (hid : U64 o.id) (hr : inRange o) (h : ¬ (o.op = 1 ∨ o.op = 6)) (w : World) : Calls Try.prog 8 #[ordV o] w fun e w' => e = .returned (.tuple #[.string (numS o.id ++ numS o.op ++ numS o.owner), .int .i64 0]) ∧ Below w.heap.size w w' := by
  have hB : Below w.heap.size w (w.alloc (.cells (cells12 o) 30)) := (Below.refl _ _).alloc (Nat.le_refl _) _
  have HB := Lib.hid hB
  have HF := Lib.hid (form_ o)
  rw [show formB o = true from decide_eq_true ⟨hr, fun h' => absurd h' h⟩] at HF
  have HC := Lib.hid (configures_no o.op h)
  obtain ⟨h1, h2, h3, h4⟩ := hr
  have HU0 := Lib.hid hid
  have HU1 := Lib.hid (U64_small (x := o.op) (by omega) (by omega))
  have HU2 := Lib.hid (U64_small (x := o.owner) (by omega) (by omega))
  have z0 := numS_size o.id HU0.out
  have z1 := numS_size o.op HU1.out
  have z2 := numS_size o.owner HU2.out
  clear hB h hid
  obtain ⟨id, op, owner, v⟩ := o
  simp only at h1 h2 h3 h4 HU0 HU1 HU2 z0 z1 z2 HC ⊢
  have hw1 : IntKind.u64.wrap op = op := by simp [IntKind.wrap, IntKind.signed, IntKind.bits]; omega
  have hw2 : IntKind.u64.wrap owner = owner := by simp [IntKind.wrap, IntKind.signed, IntKind.bits]; omega
  go_enter Try.func8, Try.ntmps8
  go_wp2_with (first
    | (go_at_call 25; refine (HF.out _).mono ?_; unfold errB; rintro e w1 ⟨rfl, hb⟩; have q0 := cell_step (w := w) hb (cellsOf_alloc w _ _ 0); have q1 := cell_step (w := w) hb (cellsOf_alloc w _ _ 1); have q2 := cell_step (w := w) hb (cellsOf_alloc w _ _ 2); have HB1 := Lib.hid (HB.out.trans (hb.mono (by simp))); clear hb))
  have j1 : (9223372036854775807 < (numS id ++ numS op).size) = False := by rw [ByteArray.size_append]; simp; omega
  have j1' : (9223372036854775807 < (numS id).size + (numS op).size) = False := by simp; omega
  have j2 : (9223372036854775807 < (numS id ++ numS op ++ numS owner).size) = False := by rw [ByteArray.size_append, ByteArray.size_append]; simp; omega
  have j2' : (9223372036854775807 < (numS id).size + (numS op).size + (numS owner).size) = False := by simp; omega
  go_region_held3 (fun w' => w'.cell? ⟨w.heap.size, 0, none⟩ = some (.int .u64 id) ∧ w'.cell? ⟨w.heap.size, 1, none⟩ = some (.int .i64 op) ∧ w'.cell? ⟨w.heap.size, 2, none⟩ = some (.int .i64 owner)) (first | exact ⟨q0, q1, q2⟩ | go_keep)
    (first
      | (go_at_call 26; (with_reducible refine (PutI id HU0.out _).mono ?_); rintro e w2 ⟨rfl, hb2⟩; replace q0 := pw_cell_below hb2 q0; replace q1 := pw_cell_below hb2 q1; replace q2 := pw_cell_below hb2 q2)
      | (go_at_call 26; (with_reducible refine (PutI op HU1.out _).mono ?_); rintro e w3 ⟨rfl, hb3⟩; replace q0 := pw_cell_below hb3 q0; replace q1 := pw_cell_below hb3 q1; replace q2 := pw_cell_below hb3 q2)
      | (go_at_call 26; (with_reducible refine (PutI owner HU2.out _).mono ?_); rintro e w4 ⟨rfl, hb4⟩; replace q0 := pw_cell_below hb4 q0; replace q1 := pw_cell_below hb4 q1; replace q2 := pw_cell_below hb4 q2))
  have k2 : w.heap.size ≤ w2.heap.size := Nat.le_trans HB1.out.size hb2.size
  have k3 : w.heap.size ≤ w3.heap.size := Nat.le_trans k2 hb3.size
  have HB4 := Lib.hid (((HB1.out.drew.trans (hb2.mono HB1.out.size)).trans (hb3.mono k2)).trans (hb4.mono k3))
  replace q1 : w4.cell? ⟨w.heap.size, 1, none⟩ = some (.int .i64 op) := q1
  clear hb2 hb3 hb4 k2 k3 j1 j1' j2 j2' hw1 hw2 q0 q2 z0 z1 z2
  go_wp2_with (first
    | (go_at_call 27; refine (HC.out _).mono ?_; rintro e w' ⟨rfl, rfl⟩))
  go_ret2
  exact ⟨rfl, HB4.out⟩
end Go.Proofs.Ytdnhmlpjohojdaa.Adm
/-
  What is taken of bytes is a number, and its bytes stand there; and a number's bytes are taken so. Plain.
-/
namespace Go.Proofs.Ytdnhmlpjohojdaa.Tk
open Go.RowKit Go.Proofs.Ytdnhmlpjohojdaa.Tab Go.Proofs.Ytdnhmlpjohojdaa.R Go.Proofs.Ytdnhmlpjohojdaa.Adm Go.Proofs.YtdnhmlpjohojdaaW.PrintWords Go.Proofs.YtdnhmlpjohojdaaW.PrintLast Go.Proofs.YtdnhmlpjohojdaaW.PrintMore
def byte (x : Int) : UInt8 := UInt8.ofNat x.toNat
theorem byte_nat (c : UInt8) : byte ((c.toNat : Nat) : Int) = c := by simp [byte]
theorem numS_list (m : Nat) : (numS (m : Int)).data.toList = (vl m).map byte := by
  unfold numS strOfNums
  simp [byte]
theorem ten (i : Nat) (h : i ≤ 9) : i = 0 ∨ i = 1 ∨ i = 2 ∨ i = 3 ∨ i = 4 ∨ i = 5 ∨ i = 6 ∨ i = 7 ∨ i = 8 ∨ i = 9 := by omega
theorem room {i c m : Nat} (hi : i + 1 ≤ 9) (hc : c < 128) (hm : 128 ^ (i + 1) * m < 18446744073709551616) : 128 ^ i * (c + 128 * m) < 18446744073709551616 := by
  rcases ten i (by omega) with rfl | rfl | rfl | rfl | rfl | rfl | rfl | rfl | rfl | rfl <;> simp at hm ⊢ <;> omega
theorem room0 {i c : Nat} (hi : i ≤ 9) (hc : c < 128) (h9 : i = 9 → c ≤ 1) : 128 ^ i * c < 18446744073709551616 := by
  have := fit (i := i) (n := 0) (c := c) (by omega) (Nat.pow_pos (by decide)) hc h9
  rw [Nat.mul_comm]
  omega
theorem room_div {i m : Nat} (hi : i + 1 ≤ 9) (hm : 128 ^ i * m < 18446744073709551616) : 128 ^ (i + 1) * (m / 128) < 18446744073709551616 := by
  have h1 : 128 ^ (i + 1) * (m / 128) ≤ 128 ^ i * m := by
    rw [Nat.pow_succ, Nat.mul_assoc]
    exact Nat.mul_le_mul_left _ (Nat.mul_div_le m 128)
  omega
theorem nine_small {m : Nat} (hm : 128 ^ 9 * m < 18446744073709551616) : m ≤ 1 := by
  simp at hm
  omega
theorem sum_step (n c i m : Nat) : n + c * 128 ^ i + 128 ^ (i + 1) * m = n + 128 ^ i * (c + 128 * m) := by
  rw [Nat.pow_succ, Nat.mul_add, Nat.mul_comm c, Nat.mul_assoc]
  omega
theorem tkl_ok : ∀ (l : List UInt8) (i n : Nat) (v k : Int), i ≤ 9 → tkl l i n = (v, k, 0) →
    ∃ m : Nat, v = ((n + 128 ^ i * m : Nat) : Int) ∧ k = ((i + (vl m).length : Nat) : Int) ∧ (∃ r, l = (vl m).map byte ++ r) ∧ 128 ^ i * m < 18446744073709551616 ∧ (0 < i → m ≠ 0)
  | [], i, n, v, k, hi, h => by simp [tkl] at h
  | c :: r, i, n, v, k, hi, h => by
    rw [tkl, if_pos (by omega)] at h
    have hc := c_lt c
    by_cases hb : (i = 9 ∧ 1 < c.toNat) ∨ (c.toNat = 0 ∧ 0 < i)
    · rw [if_pos hb] at h
      simp at h
    · rw [if_neg hb] at h
      by_cases h1 : c.toNat < 128
      · rw [if_pos h1] at h
        simp only [Prod.mk.injEq] at h
        obtain ⟨rfl, rfl, _⟩ := h
        refine ⟨c.toNat, ?_, ?_, ⟨r, ?_⟩, room0 hi h1 (fun e => by omega), fun h0 => by omega⟩
        · rw [Nat.mod_eq_of_lt h1, Nat.mul_comm]
        · rw [vl_small h1]; rfl
        · rw [vl_small h1, List.map_cons, byte_nat]; rfl
      · rw [if_neg h1] at h
        have hi9 : i ≠ 9 := fun e => by omega
        obtain ⟨m, e1, e2, ⟨r', e3⟩, e4, e5⟩ := tkl_ok r (i + 1) _ v k (by omega) h
        have hm := e5 (by omega)
        have hbig : ¬ c.toNat % 128 + 128 * m < 128 := by omega
        have hd : (c.toNat % 128 + 128 * m) / 128 = m := by omega
        have hr : (c.toNat % 128 + 128 * m) % 128 + 128 = c.toNat := by omega
        refine ⟨c.toNat % 128 + 128 * m, ?_, ?_, ⟨r', ?_⟩, room (by omega) (by omega) e4, fun _ => by omega⟩
        · rw [e1, sum_step]
        · rw [vl_big hbig, hd, List.length_cons, e2]
          congr 1
          omega
        · rw [vl_big hbig, hd, hr, List.map_cons, byte_nat, List.cons_append, ← e3]
theorem tkl_put (m : Nat) : ∀ (i n : Nat) (r : List UInt8), i ≤ 9 → 128 ^ i * m < 18446744073709551616 → (0 < i → m ≠ 0) →
    tkl ((vl m).map byte ++ r) i n = (((n + 128 ^ i * m : Nat) : Int), ((i + (vl m).length : Nat) : Int), 0) := by
  induction m using Nat.strongRecOn with
  | ind m ih =>
    intro i n r hi hm h0
    by_cases h1 : m < 128
    · rw [vl_small h1, List.map_cons, List.map_nil, List.singleton_append, tkl, if_pos (by omega)]
      have hb : (byte (m : Int)).toNat = m := by simp [byte]; omega
      rw [hb, if_neg, if_pos h1, Nat.mod_eq_of_lt h1, Nat.mul_comm]
      · rfl
      · rintro (⟨e, h2⟩ | ⟨e, h2⟩)
        · subst e
          have := nine_small hm
          omega
        · exact h0 h2 e
    · have hi9 : i ≠ 9 := by
        rintro rfl
        have := nine_small hm
        omega
      rw [vl_big h1, List.map_cons, List.cons_append, tkl, if_pos (by omega)]
      have hb : (byte ((m % 128 + 128 : Nat) : Int)).toNat = m % 128 + 128 := by
        unfold byte
        rw [Int.toNat_natCast]
        simp
        omega
      rw [hb, if_neg (by omega), if_neg (by omega)]
      rw [ih (m / 128) (by omega) (i + 1) _ r (by omega) (room_div (by omega) hm) (fun _ => by omega), sum_step]
      have e1 : (m % 128 + 128) % 128 + 128 * (m / 128) = m := by omega
      rw [e1, List.length_cons]
      have e2 : i + 1 + (vl (m / 128)).length = i + ((vl (m / 128)).length + 1) := by omega
      rw [e2]
theorem tkl_err : ∀ (l : List UInt8) (i n : Nat) (v k e : Int), tkl l i n = (v, k, e) → e ≠ 0 → v = 0 ∧ k = 0
  | [], i, n, v, k, e, h, he => by
    simp only [tkl, Prod.mk.injEq] at h
    exact ⟨h.1.symm, h.2.1.symm⟩
  | c :: r, i, n, v, k, e, h, he => by
    rw [tkl] at h
    split at h
    · split at h
      · simp only [Prod.mk.injEq] at h
        exact ⟨h.1.symm, h.2.1.symm⟩
      · split at h
        · simp only [Prod.mk.injEq] at h
          exact absurd h.2.2.symm he
        · exact tkl_err r _ _ v k e h he
    · simp only [Prod.mk.injEq] at h
      exact ⟨h.1.symm, h.2.1.symm⟩
/-! ### of bytes as they stand -/
theorem size_list (s : ByteArray) : s.size = s.data.toList.length := (Array.length_toList).symm
theorem ext_list (s : ByteArray) (i : Nat) : (s.extract i s.size).data.toList = s.data.toList.drop i := by
  rw [ByteArray.data_extract, Array.toList_extract, size_list, List.extract_eq_take_drop, List.take_of_length_le (by rw [List.length_drop]; exact Nat.le_refl _)]
theorem tk_ok {s : ByteArray} {v k : Int} (h : tk s = (v, k, 0)) : ∃ m : Nat, v = (m : Int) ∧ m < 18446744073709551616 ∧ k = ((numS (m : Int)).size : Int) ∧ s.data.toList = (numS (m : Int)).data.toList ++ s.data.toList.drop (numS (m : Int)).size := by
  obtain ⟨m, e1, e2, ⟨r, e3⟩, e4, _⟩ := tkl_ok _ 0 0 v k (by omega) h
  have hz : (numS (m : Int)).size = (vl m).length := by
    rw [size_list, numS_list, List.length_map]
  refine ⟨m, by simpa using e1, by simpa using e4, by rw [hz]; simpa using e2, ?_⟩
  rw [numS_list, hz, e3]
  congr 1
  rw [List.drop_append_of_le_length (by simp), List.drop_of_length_le (by simp), List.nil_append]
theorem tk_put {s : ByteArray} {m : Nat} (hm : m < 18446744073709551616) {r : List UInt8} (h : s.data.toList = (numS (m : Int)).data.toList ++ r) : tk s = ((m : Int), ((numS (m : Int)).size : Int), 0) := by
  have hz : (numS (m : Int)).size = (vl m).length := by
    rw [size_list, numS_list, List.length_map]
  unfold tk
  rw [h, numS_list, tkl_put m 0 0 r (by omega) (by simpa using hm) (fun h => by omega), hz]
  simp
theorem tk_err {s : ByteArray} (he : (tk s).2.2 ≠ 0) : tk s = (0, 0, (tk s).2.2) := by
  obtain ⟨h1, h2⟩ := tkl_err s.data.toList 0 0 _ _ _ rfl he
  show (tkl s.data.toList 0 0) = _
  rw [show tk s = tkl s.data.toList 0 0 from rfl]
  exact Prod.ext h1 (Prod.ext h2 rfl)
theorem tk_range (s : ByteArray) : 0 ≤ (tk s).1 ∧ (tk s).1 < 18446744073709551616 ∧ 0 ≤ (tk s).2.1 ∧ (tk s).2.1 ≤ s.size := by
  by_cases he : (tk s).2.2 = 0
  · obtain ⟨m, e1, e2, e3, e4⟩ := tk_ok (s := s) (v := (tk s).1) (k := (tk s).2.1) (Prod.ext rfl (Prod.ext rfl he))
    have h1 := size_list s
    have h2 := size_list (numS (m : Int))
    have h3 := congrArg List.length e4
    rw [List.length_append] at h3
    rw [e1, e3]
    refine ⟨by omega, by omega, by omega, by omega⟩
  · rw [tk_err he]
    simp
end Go.Proofs.Ytdnhmlpjohojdaa.Tk
/-
  span.Reader's methods, by what they take.
-/
namespace Go.Proofs.Ytdnhmlpjohojdaa.Span
open Go.RowKit Go.Proofs.Ytdnhmlpjohojdaa.Tab Go.Proofs.Ytdnhmlpjohojdaa.R Go.Proofs.Ytdnhmlpjohojdaa.Tk Go.Proofs.YtdnhmlpjohojdaaW.PrintWords Go.Proofs.YtdnhmlpjohojdaaW.PrintLast Go.Proofs.YtdnhmlpjohojdaaW.PrintMore
attribute [local go_sem] max2_int max_two
/-- What is wrong with a number that may not be more than m. -/
def ie (m : Int) (t : Int × Int × Int) : Int := if t.2.2 = 0 then (if m < t.1 then 3 else 0) else t.2.2
set_option maxRecDepth 100000 in
set_option maxHeartbeats 1000000 in
theorem Int1 (s : ByteArray) (most : Int) (h0 : 0 ≤ most) (h1 : most ≤ 1048576) (W : World) (bx : Nat) (hc : W.cell? ⟨bx, 0, none⟩ = some (.int .i64 most)) :
    Calls Try.prog 57 #[.string s, .pointer (some ⟨bx, 0, none⟩)] W fun e w' => e = .returned (.tuple #[.int .i64 (wrap64 (tk s).1), .int .i64 (tk s).2.1, .int .i64 (ie most (tk s))]) ∧ Below W.heap.size W w' := by
  have HT := Lib.hid (Take_ s)
  have hr := tk_range s
  generalize tk s = t at *
  obtain ⟨n, k, e⟩ := t
  simp only at HT hr ⊢
  obtain ⟨n0, n1, k0, k1⟩ := hr
  have hw : IntKind.u64.wrap most = most := by simp [IntKind.wrap, IntKind.signed, IntKind.bits]; omega
  have hm : most < W.heap.size ∨ True := .inr trivial
  clear hm
  unfold ie
  simp only
  by_cases he : e = 0
  · subst he
    rw [if_pos rfl]
    by_cases hn : most < n
    · rw [if_pos hn]
      have hn1 : decide (most < n) = true := decide_eq_true hn
      go_enter Try.func57, Try.ntmps57
      go_wp2_with fail
      refine (HT.out _).mono ?_
      rintro e1 w1 ⟨rfl, hb⟩
      have hc1 : w1.cell? ⟨bx, 0, none⟩ = some (.int .i64 most) := pw_cell_below hb hc
      have HB := Lib.hid hb
      clear hb HT hc
      go_wp2_with fail
      go_ret3
      exact ⟨rfl, HB.out⟩
    · rw [if_neg hn]
      have hn1 : decide (most < n) = false := decide_eq_false hn
      have hwn : wrap64 n = n := IntWalk.wrap64_in _ (by omega)
      rw [hwn]
      clear hwn
      go_enter Try.func57, Try.ntmps57
      go_wp2_with fail
      refine (HT.out _).mono ?_
      rintro e1 w1 ⟨rfl, hb⟩
      have hc1 : w1.cell? ⟨bx, 0, none⟩ = some (.int .i64 most) := pw_cell_below hb hc
      have HB := Lib.hid hb
      clear hb HT hc
      go_wp2_with fail
      go_ret3
      exact ⟨rfl, HB.out⟩
  · rw [if_neg he]
    have he1 : (e == 0) = false := beq_eq_false_iff_ne.2 he
    have he2 : decide (e = 0) = false := decide_eq_false he
    go_enter Try.func57, Try.ntmps57
    go_wp2_with fail
    refine (HT.out _).mono ?_
    rintro e1 w1 ⟨rfl, hb⟩
    have HB := Lib.hid hb
    clear hb HT hc
    go_wp2_with fail
    go_ret3
    exact ⟨rfl, HB.out⟩
set_option maxRecDepth 100000 in
theorem Rest1 (s : ByteArray) (W : World) : Calls Try.prog 59 #[.string s] W fun e w' => e = .returned (.tuple #[.string s, .int .i64 s.size, .int .i64 0]) ∧ Below W.heap.size W w' := by
  go_enter Try.func59, Try.ntmps59
  go_wp2_with fail
  go_ret3
  exact ⟨rfl, Below.refl _ _⟩
theorem ext_size (b : ByteArray) (i : Nat) (hi : i ≤ b.size) : (b.extract i b.size).size = b.size - i := by
  rw [size_list, ext_list, List.length_drop, ← size_list]
/-- Behind a number: what was taken, and where the reader is. -/
def stN (b : ByteArray) (i : Nat) (e : Int) : Int × Nat × Int := if e = 0 then (if (tk (b.extract i b.size)).2.2 = 0 then ((tk (b.extract i b.size)).1, i + (tk (b.extract i b.size)).2.1.toNat, 0) else (0, i, (tk (b.extract i b.size)).2.2)) else (0, i, e)
def stI (b : ByteArray) (m : Int) (i : Nat) (e : Int) : Int × Nat × Int := if e = 0 then (if ie m (tk (b.extract i b.size)) = 0 then (wrap64 (tk (b.extract i b.size)).1, i + (tk (b.extract i b.size)).2.1.toNat, 0) else (0, i, ie m (tk (b.extract i b.size)))) else (0, i, e)
def stR (b : ByteArray) (i : Nat) (e : Int) : ByteArray × Nat × Int := if e = 0 then (b.extract i b.size, b.size, 0) else (⟨#[]⟩, i, e)
def dn (b : ByteArray) (i : Nat) (e : Int) : Int := if e = 0 then (if i < b.size then 1 else 0) else e
theorem stN_le {b : ByteArray} {i : Nat} {e : Int} (hi : i ≤ b.size) : (stN b i e).2.1 ≤ b.size := by
  unfold stN
  have h := tk_range (b.extract i b.size)
  have hz := ext_size b i hi
  split
  · split
    · show i + _ ≤ _; omega
    · exact hi
  · exact hi
theorem stI_le {b : ByteArray} {m : Int} {i : Nat} {e : Int} (hi : i ≤ b.size) : (stI b m i e).2.1 ≤ b.size := by
  unfold stI
  have h := tk_range (b.extract i b.size)
  have hz := ext_size b i hi
  split
  · split
    · show i + _ ≤ _; omega
    · exact hi
  · exact hi
theorem stR_le {b : ByteArray} {i : Nat} {e : Int} (hi : i ≤ b.size) : (stR b i e).2.1 ≤ b.size := by
  unfold stR
  split
  · exact Nat.le_refl _
  · exact hi
variable {w : World} {p : Nat} {b : ByteArray} {i : Nat} {e : Int}
theorem Read_ (b : ByteArray) (w : World) : Calls Try.prog 32 #[.string b] w fun e w' => e = .returned (.pointer (some ⟨w.heap.size, 0, none⟩)) ∧ RdAt w' w.heap.size b 0 0 ∧ Below w.heap.size w w' := by
  go_enter Try.func32, Try.ntmps32
  go_wp2_with fail
  go_ret
  exact ⟨rfl, ⟨heap_alloc_last _ _⟩, (Below.refl _ _).alloc (Nat.le_refl _) _⟩
set_option maxRecDepth 100000 in
set_option maxHeartbeats 1000000 in
theorem Num_ (h : RdAt w p b i e) (hi : i ≤ b.size) (hm : b.size ≤ 9223372036854775807) : Calls Try.prog 33 #[.pointer (some ⟨p, 0, none⟩)] w (RdPost w p b (.int .u64 (stN b i e).1) (stN b i e).2.1 (stN b i e).2.2) := by
  have hr := tk_range (b.extract i b.size)
  have hz := ext_size b i hi
  have hT : Calls Try.prog 54 #[.pointer (some ⟨p, 0, none⟩), .func (.func 55) #[] #[]] w (RdPost w p b (.int .u64 (stN b i e).1) (stN b i e).2.1 (stN b i e).2.2) := by
    unfold stN
    by_cases he : e = 0
    · subst he
      rw [if_pos rfl]
      have hT := fun W (_ : Below w.heap.size w W) => Take_ (b.extract i b.size) W
      generalize tk (b.extract i b.size) = t at *
      obtain ⟨n, k, e1⟩ := t
      simp only at hr hT ⊢
      obtain ⟨k, rfl⟩ := Int.eq_ofNat_of_zero_le hr.2.2.1
      have := take_u h hi hm n k e1 (by omega) hT
      by_cases he1 : e1 = 0
      · rw [if_pos he1] at this ⊢
        exact this
      · rw [if_neg he1] at this ⊢
        exact this
    · rw [if_neg he]
      exact take_u_off h he _
  have HT := Lib.hid hT
  clear hT hr hz hm hi h
  generalize (stN b i e).1 = v at *
  generalize (stN b i e).2.1 = i' at *
  generalize (stN b i e).2.2 = e' at *
  go_enter Try.func33, Try.ntmps33
  go_wp2_with fail
  refine HT.out.mono ?_
  rintro e w1 ⟨rfl, h1, h2⟩
  have H := Lib.hid (And.intro h1 h2)
  clear h1 h2 HT
  go_wp2_with fail
  go_ret
  exact ⟨rfl, H.out⟩
set_option maxRecDepth 100000 in
set_option maxHeartbeats 1000000 in
theorem Int_ (h : RdAt w p b i e) (hi : i ≤ b.size) (hm : b.size ≤ 9223372036854775807) (m : Int) (h0 : 0 ≤ m) (h1 : m ≤ 1048576) : Calls Try.prog 34 #[.pointer (some ⟨p, 0, none⟩), .int .i64 m] w (RdPost w p b (.int .i64 (stI b m i e).1) (stI b m i e).2.1 (stI b m i e).2.2) := by
  have hr := tk_range (b.extract i b.size)
  have hz := ext_size b i hi
  have hba : Below w.heap.size w (w.alloc (.cells #[.int .i64 m] 3)) := (Below.refl _ _).alloc (Nat.le_refl _) _
  have hT : ∀ W, Below (w.alloc (.cells #[.int .i64 m] 3)).heap.size (w.alloc (.cells #[.int .i64 m] 3)) W → Calls Try.prog 56 #[.pointer (some ⟨p, 0, none⟩), .func (.func 57) #[] #[.pointer (some ⟨w.heap.size, 0, none⟩)]] W (RdPost W p b (.int .i64 (stI b m i e).1) (stI b m i e).2.1 (stI b m i e).2.2) := by
    intro W hW
    have hB : RdAt W p b i e := (h.below hba).below hW
    have hc : ∀ W', Below W.heap.size W W' → W'.cell? ⟨w.heap.size, 0, none⟩ = some (.int .i64 m) := fun W' hW' => by
      have h1 : (w.alloc (.cells #[.int .i64 m] 3)).heap[w.heap.size]? = some (.cells #[.int .i64 m] 3 (0, 0)) := heap_alloc_last _ _
      have h2 := (hW.block _ (blk_lt h1)).trans h1
      exact blk_cell ((hW'.block _ (blk_lt h2)).trans h2) 0
    unfold stI
    by_cases he : e = 0
    · subst he
      rw [if_pos rfl]
      have hT := fun W' (h' : Below W.heap.size W W') => Int1 (b.extract i b.size) m h0 h1 W' w.heap.size (hc W' h')
      generalize tk (b.extract i b.size) = t at *
      generalize ie m t = e1 at *
      obtain ⟨n, k, e0⟩ := t
      simp only at hr hT ⊢
      obtain ⟨k, rfl⟩ := Int.eq_ofNat_of_zero_le hr.2.2.1
      have := take_i hB hi hm _ (wrap64 n) k e1 (by omega) hT
      by_cases he1 : e1 = 0
      · rw [if_pos he1] at this ⊢
        exact this
      · rw [if_neg he1] at this ⊢
        exact this
    · rw [if_neg he]
      exact take_i_off hB he _
  have HT := Lib.hid hT
  have HBA := Lib.hid hba
  clear hT hr hz hm hi h hba
  generalize (stI b m i e).1 = v at *
  generalize (stI b m i e).2.1 = i' at *
  generalize (stI b m i e).2.2 = e' at *
  go_enter Try.func34, Try.ntmps34
  go_wp2_with fail
  refine (HT.out _ (Below.refl _ _)).mono ?_
  rintro e w1 ⟨rfl, h1, h2⟩
  have H := Lib.hid (And.intro h1 (grown_trans (grown_below HBA.out) h2))
  clear h1 h2 HT
  go_wp2_with fail
  go_ret
  exact ⟨rfl, H.out⟩
set_option maxRecDepth 100000 in
set_option maxHeartbeats 1000000 in
theorem Rest_ (h : RdAt w p b i e) (hi : i ≤ b.size) (hm : b.size ≤ 9223372036854775807) : Calls Try.prog 35 #[.pointer (some ⟨p, 0, none⟩)] w (RdPost w p b (.string (stR b i e).1) (stR b i e).2.1 (stR b i e).2.2) := by
  have hz := ext_size b i hi
  have hT : Calls Try.prog 58 #[.pointer (some ⟨p, 0, none⟩), .func (.func 59) #[] #[]] w (RdPost w p b (.string (stR b i e).1) (stR b i e).2.1 (stR b i e).2.2) := by
    unfold stR
    by_cases he : e = 0
    · subst he
      rw [if_pos rfl]
      have := take_s h hi hm (b.extract i b.size) (b.extract i b.size).size 0 (by omega) (fun W _ => Rest1 _ W)
      rw [if_pos rfl, show i + (b.extract i b.size).size = b.size by omega] at this
      exact this
    · rw [if_neg he]
      exact take_s_off h he _
  have HT := Lib.hid hT
  clear hT hz hm hi h
  generalize (stR b i e).1 = v at *
  generalize (stR b i e).2.1 = i' at *
  generalize (stR b i e).2.2 = e' at *
  go_enter Try.func35, Try.ntmps35
  go_wp2_with fail
  refine HT.out.mono ?_
  rintro e w1 ⟨rfl, h1, h2⟩
  have H := Lib.hid (And.intro h1 h2)
  clear h1 h2 HT
  go_wp2_with fail
  go_ret
  exact ⟨rfl, H.out⟩
set_option maxRecDepth 100000 in
set_option maxHeartbeats 1000000 in
theorem Done_ (h : RdAt w p b i e) (hi : i ≤ b.size) : Calls Try.prog 36 #[.pointer (some ⟨p, 0, none⟩)] w fun e' w' => e' = .returned (.int .i64 (dn b i e)) ∧ ∃ n, w' = w.drewN n := by
  have x0 : w.cell? ⟨p, 0, none⟩ = some (.string b) := blk_cell h.box 0
  have x1 : w.cell? ⟨p, 1, none⟩ = some (.int .i64 i) := blk_cell h.box 1
  have x2 : w.cell? ⟨p, 2, none⟩ = some (.int .i64 e) := blk_cell h.box 2
  clear h
  unfold dn
  by_cases he : e = 0
  · subst he
    rw [if_pos rfl]
    by_cases hlt : i < b.size
    · rw [if_pos hlt]
      have hd : decide ((i : Int) < (b.size : Int)) = true := decide_eq_true (by omega)
      have hd' : decide (i < b.size) = true := decide_eq_true (by omega)
      go_enter Try.func36, Try.ntmps36
      go_wp2_with fail
      go_quiet (fail)
      go_wp2_with fail
      go_ret
      exact ⟨rfl, _, rfl⟩
    · rw [if_neg hlt]
      have hd : decide ((i : Int) < (b.size : Int)) = false := decide_eq_false (by omega)
      have hd' : decide (i < b.size) = false := decide_eq_false (by omega)
      go_enter Try.func36, Try.ntmps36
      go_wp2_with fail
      go_quiet (fail)
      go_wp2_with fail
      go_ret
      exact ⟨rfl, _, rfl⟩
  · rw [if_neg he]
    have h1 : (e != 0) = true := bne_iff_ne.2 he
    have h2 : (e == 0) = false := beq_eq_false_iff_ne.2 he
    have h3 : decide (e = 0) = false := decide_eq_false he
    go_enter Try.func36, Try.ntmps36
    go_wp2_with fail
    go_ret
    exact ⟨rfl, 0, rfl⟩
end Go.Proofs.Ytdnhmlpjohojdaa.Span
/-
  A drawn region at the wide fence, within a round too: what yields its value wherever S holds is taken first (a script of values); what is left comes up one by one.
-/
namespace Go.Proofs.Ytdnhmlpjohojdaa.Line
variable {P : Program} {ops : Array Oper} {md : Region.Mode} {F : Fence} {n : Nat} {S : World → Prop} {fin : Nat} {Q : Exit → Act → World → Prop}
theorem opIn_yields (hF : Open F P) {i : Nat} {o : Oper} {v : Value} {a : Act} {w : World} (hi : ops[i]? = some o) (hd : noDefer o = true) (hy : YieldsIf P ops S o v a) {K : Act → World → Prop} (hS : S w) (h : K (a.put o.dst v) w) : wpOpIn F n P ops Q i K a w := by
  unfold wpOpIn
  simp only [hi]
  rcases hy with ⟨hw, hv⟩ | ⟨hw, rfl⟩
  · simp only [hw, if_true]
    refine ⟨fun f _ => hF.fn f, ?_⟩
    rw [Oper.semAt_eq _ _ _ (noDefer_ne hd), hv w hS]
    exact h
  · simp only [hw, Bool.false_eq_true, if_false]
    exact ⟨fun f _ => hF.fn f, h⟩
theorem opIn_put (hF : Open F P) {j : Nat} {oi oj : Oper} {v : Value} (hj : ops[j]? = some oj) (hd : noDefer oj = true) (hap : oi.apart ops oj = true) (hsi : ∀ cs b, oi.op ≠ .select cs b) (hsj : ∀ cs b, oj.op ≠ .select cs b)
    (hQ : ∀ c a w, Q (.panic c) (a.put oi.dst v) w → Q (.panic c) a w) {K : Act → World → Prop} {a : Act} {w : World} (hy : YieldsIf P ops S oi v a) (h : wpOpIn F n P ops Q j K (a.put oi.dst v) w) :
    wpOpIn F n P ops Q j (fun a' w' => YieldsIf P ops S oi v a' ∧ K (a'.put oi.dst v) w') a w := by
  obtain ⟨h1, h2, h3⟩ := Oper.apart_spec hap
  have keep : ∀ (a : Act), YieldsIf P ops S oi v a → ∀ u, YieldsIf P ops S oi v (a.put oj.dst u) := fun a hy u => hy.of_same (execOp_put oi hsi a oj.dst u h3) (wanted_put oi a oj.dst u h3)
  unfold wpOpIn at *
  simp only [hj] at *
  rw [wanted_put oj a oi.dst v h1] at h
  split
  · rename_i hw
    simp only [hw, if_true] at h
    have h' := h.2
    refine ⟨fun f _ => hF.fn f, ?_⟩
    rw [Oper.semAt_eq _ _ _ (noDefer_ne hd)] at h' ⊢
    rw [execOp_put oj hsj a oi.dst v h1] at h'
    generalize (execOp a.eval oj).run P w = r at *
    cases r with
    | ok x w' =>
      cases x <;> simp only [Oper.uponIn] at h' ⊢
      case value u => exact ⟨keep a hy u, by rw [← Act.put_comm a v u h2]; exact h'⟩
      case skip => exact ⟨keep a hy _, by rw [← Act.put_comm a v undef h2]; exact h'⟩
      case defer d =>
        refine ⟨keep { a with defers := d :: a.defers } (hy.of_same rfl rfl) undef, ?_⟩
        rw [← Act.put_comm _ v undef h2, ← Act.put_defers]
        exact h'
      case enter f args =>
        refine ⟨h'.1, CallsIn.mono h'.2 fun e w'' he => ?_⟩
        cases e with
        | returned u => exact ⟨keep a hy u, by rw [← Act.put_comm a v u h2]; exact he⟩
        | panicked c => exact hQ _ _ _ he
        | outgrown => exact he
      case row row args => exact ⟨h'.1, RowsIn.mono h'.2 fun u w'' he => ⟨keep a hy u, by rw [← Act.put_comm a v u h2]; exact he⟩⟩
      case round l f tmps assign body =>
        refine ⟨h'.1, RoundIn.mono h'.2 fun e w'' he => ?_⟩
        cases e with
        | returned u => exact ⟨keep a hy u, by rw [← Act.put_comm a v u h2]; exact he⟩
        | panicked c => exact hQ _ _ _ he
        | outgrown => exact he
    | halt x w' =>
      cases x <;> simp only [Oper.uponIn] at h' ⊢
      case panic u => exact hQ _ _ _ h'
  · rename_i hw
    simp only [hw] at h
    exact ⟨fun f _ => hF.fn f, keep a hy _, by rw [← Act.put_comm a v undef h2]; exact h.2⟩
/-- The operation fin waits for number i. -/
def waitsB (md : Region.Mode) (ops : Array Oper) (fin i : Nat) : Bool :=
  match ops[fin]? with
  | some o => o.after.any fun e => Region.binds md e && e.on == i
  | none => false
/-- Whatever comes up, S holds behind it, but behind the last one, fin. -/
def anyH (F : Fence) (n : Nat) (P : Program) (md : Region.Mode) (ops : Array Oper) (Q : Exit → Act → World → Prop) (fin : Nat) (S : World → Prop) : Nat → Array Bool → Act → World → Prop
  | 0, l, a, w => Region.ready md ops l = [] ∧ Q .normal a w
  | k + 1, l, a, w => (Region.ready md ops l = [] → Q .normal a w) ∧ ∀ i ∈ Region.ready md ops l, wpOpIn F n P ops Q i (fun a' w' => (i ≠ fin → S w') ∧ anyH F n P md ops Q fin S k (l.setIfInBounds i true) a' w') a w
theorem anyH_any : ∀ (k : Nat) (l : Array Bool) (a : Act) (w : World), anyH F n P md ops Q fin S k l a w → wpAnyIn F n P md ops Q k l a w
  | 0, _, _, _, h => h
  | k + 1, _, _, _, h => ⟨h.1, fun i hi => wpOpIn_mono (fun a' w' h' => anyH_any k _ a' w' h'.2) (h.2 i hi)⟩
theorem anyH_first (hF : Open F P) (hd : ops.all noDefer = true) {i : Nat} {oi : Oper} {v : Value} (hi : ops[i]? = some oi) (hsel : Region.noSelect ops = true) (hwf : waitsB md ops fin i = true) (hQ : ∀ c a w, Q (.panic c) (a.put oi.dst v) w → Q (.panic c) a w) :
    ∀ (k : Nat) (l : Array Bool) (a : Act) (w : World),
      (∀ j oj, ops[j]? = some oj → j ≠ i → l.getD j true = false → (∀ e ∈ oj.after, Region.binds md e = true → e.on ≠ i) → oi.apart ops oj = true) →
      i ∈ Region.ready md ops l → YieldsIf P ops S oi v a → S w → anyH F n P md ops Q fin S k (l.setIfInBounds i true) (a.put oi.dst v) w → anyH F n P md ops Q fin S (k + 1) l a w := by
  have nd : ∀ {j : Nat} {o : Oper}, ops[j]? = some o → noDefer o = true := fun h => Array.all_eq_true_iff_forall_mem.1 hd _ (Array.mem_of_getElem? h)
  intro k
  induction k with
  | zero =>
    intro l a w _ hr hy hS H
    refine ⟨fun h => (by rw [h] at hr; cases hr), fun j hj => ?_⟩
    by_cases hji : j = i
    · subst hji; exact opIn_yields hF hi (nd hi) hy hS ⟨fun _ => hS, H⟩
    · have := ready_mono hj hji
      rw [H.1] at this
      cases this
  | succ k ih =>
    intro l a w hfree hr hy hS H
    refine ⟨fun h => (by rw [h] at hr; cases hr), fun j hj => ?_⟩
    by_cases hji : j = i
    · subst hji; exact opIn_yields hF hi (nd hi) hy hS ⟨fun _ => hS, H⟩
    · have g1 := H.2 j (ready_mono hj hji)
      obtain ⟨hjun, oj, hoj, hall⟩ := mem_ready.1 hj
      have hnot : ∀ e ∈ oj.after, Region.binds md e = true → e.on ≠ i := fun e he hb heq => by
        have g2 := hall e he hb
        have g0 := (mem_ready.1 hr).1
        rw [heq] at g2
        rcases Nat.lt_or_ge i l.size with h' | h'
        · simp [h'] at g0 g2; rw [g0] at g2; cases g2
        · simp [Array.getElem?_eq_none h'] at g2
      have g3 := opIn_put hF hoj (nd hoj) (hfree j oj hoj hji hjun hnot) (fun cs b => Region.noSelect_spec hsel i oi cs b hi) (fun cs b => Region.noSelect_spec hsel j oj cs b hoj) hQ hy g1
      have hfree' : ∀ m om, ops[m]? = some om → m ≠ i → (l.setIfInBounds j true).getD m true = false → (∀ e ∈ om.after, Region.binds md e = true → e.on ≠ i) → oi.apart ops om = true := fun m om hm hmi hun hno => by
        refine hfree m om hm hmi ?_ hno
        by_cases hjm : j = m
        · subst hjm; exact hjun
        · rw [getD_set_ne true hjm] at hun; exact hun
      have hjf : j ≠ fin := fun e => by
        subst e
        unfold waitsB at hwf
        rw [hoj] at hwf
        obtain ⟨e, he, hb⟩ := Array.any_eq_true'.1 hwf
        simp only [Bool.and_eq_true, beq_iff_eq] at hb
        exact hnot e he hb.1 hb.2
      refine wpOpIn_mono (fun a' w' g4 => ⟨fun _ => g4.2.1 hjf, ih (l.setIfInBounds j true) a' w' hfree' (ready_mono hr (Ne.symm hji)) g4.1 (g4.2.1 hjf) ?_⟩) g3
      rw [Array.setIfInBounds_comm _ _ hji]
      exact g4.2.2
def yieldsS (P : Program) (ops : Array Oper) (S : World → Prop) : List (Nat × Value) → Act → Prop
  | [], _ => True
  | (i, v) :: r, a => (∃ oi, ops[i]? = some oi ∧ Region.wanted oi (yielded ops a.tmps) = true ∧ ∀ w, S w → (execOp a.eval oi).run P w = .ok (.value v) w) ∧ yieldsS P ops S r (a.put (dstOf ops i) v)
theorem takesIn (hF : Open F P) (hd : ops.all noDefer = true) (hs : Region.noSelect ops = true) (hQ : ∀ c a d v w, Q (.panic c) (Act.put a d v) w → Q (.panic c) a w) : ∀ (sc : List (Nat × Value)) (l : Array Bool) (a : Act) (w : World) (k : Nat), okL md ops sc l = true → sc.all (fun x => waitsB md ops fin x.1) = true → yieldsS P ops S sc a → S w →
    anyH F n P md ops Q fin S k (listL sc l) (runL ops sc a) w → anyH F n P md ops Q fin S (k + sc.length) l a w
  | [], _, _, _, _, _, _, _, _, h => h
  | (i, v) :: r, l, a, w, k, hok, hwf, ⟨⟨oi, ho, hw, hy⟩, hr⟩, hS, h => by
    simp only [List.all_cons, Bool.and_eq_true] at hwf
    simp only [okL, Bool.and_eq_true] at hok
    obtain ⟨⟨h1, h2⟩, h3⟩ := hok
    have hdst : dstOf ops i = oi.dst := by unfold dstOf; rw [ho]; rfl
    rw [hdst] at hr
    have ih := takesIn hF hd hs hQ r (l.setIfInBounds i true) (a.put oi.dst v) w k h3 hwf.2 hr hS (by simpa only [listL, runL, hdst] using h)
    exact anyH_first hF hd ho hs hwf.1 (fun c a w => hQ c a _ _ w) (k + r.length) l a w (Region.free_spec ho h1) (by simpa using h2) (.inl ⟨hw, hy⟩) hS ih
/-- The one that comes up alone. -/
theorem oneIn {i : Nat} {o : Oper} {k : Nat} {l : Array Bool} {a : Act} {w : World} (hr : Region.ready md ops l = [i]) (ho : ops[i]? = some o) (hw : Region.wanted o (yielded ops a.tmps) = true)
    (h : o.wpIn F n P a w (fun a' w' => (i ≠ fin → S w') ∧ anyH F n P md ops Q fin S k (l.setIfInBounds i true) a' w') Q) : anyH F n P md ops Q fin S (k + 1) l a w := by
  refine ⟨fun h0 => (by rw [hr] at h0; cases h0), fun j hj => ?_⟩
  rw [hr] at hj
  obtain rfl : j = i := by simpa using hj
  unfold wpOpIn
  simp only [ho, hw, if_true]
  exact h
theorem oneIn_value {i : Nat} {o : Oper} {k : Nat} {l : Array Bool} {a : Act} {w w' : World} {v : Value} (hF : Open F P) (hd : noDefer o = true) (hr : Region.ready md ops l = [i]) (ho : ops[i]? = some o) (hw : Region.wanted o (yielded ops a.tmps) = true)
    (hy : (execOp a.eval o).run P w = .ok (.value v) w') (hS : i ≠ fin → S w') (h : anyH F n P md ops Q fin S k (l.setIfInBounds i true) (a.put o.dst v) w') : anyH F n P md ops Q fin S (k + 1) l a w := by
  refine oneIn hr ho hw ⟨fun f _ => hF.fn f, ?_⟩
  rw [Oper.semAt_eq _ _ _ (noDefer_ne hd), hy]
  exact ⟨hS, h⟩
theorem oneIn_skip {i : Nat} {o : Oper} {k : Nat} {l : Array Bool} {a : Act} {w w' : World} (hF : Open F P) (hd : noDefer o = true) (hr : Region.ready md ops l = [i]) (ho : ops[i]? = some o) (hw : Region.wanted o (yielded ops a.tmps) = true)
    (hy : (execOp a.eval o).run P w = .ok .skip w') (hS : i ≠ fin → S w') (h : anyH F n P md ops Q fin S k (l.setIfInBounds i true) (a.put o.dst undef) w') : anyH F n P md ops Q fin S (k + 1) l a w := by
  refine oneIn hr ho hw ⟨fun f _ => hF.fn f, ?_⟩
  rw [Oper.semAt_eq _ _ _ (noDefer_ne hd), hy]
  exact ⟨hS, h⟩
theorem anyH_done {l : Array Bool} {a : Act} {w : World} (hr : Region.ready md ops l = []) (h : Q .normal a w) : anyH F n P md ops Q fin S 0 l a w := ⟨hr, h⟩
theorem wpIn_line (hF : Open F P) {id : Nat} {a : Act} {w : World} (fin : Nat) (S : World → Prop) (sc : List (Nat × Value)) (hm : P.follows .mixedOrders = true) (hd : ops.all noDefer = true) (hs : Region.noSelect ops = true) (hQ : ∀ c a d v w, Q (.panic c) (Act.put a d v) w → Q (.panic c) a w)
    (hok : okL .any ops sc (Array.replicate ops.size false) = true) (hwf : sc.all (fun x => waitsB .any ops fin x.1) = true) (hS : S w.drew) (hy : yieldsS P ops S sc a) (k : Nat) (hf : ops.size = k + sc.length)
    (h : anyH F n P .any ops Q fin S k (listL sc (Array.replicate ops.size false)) (runL ops sc a) w.drew) : (Code.region id ops true).wpIn F n P Q a w :=
  wpIn_region_any hm (anyH_any _ _ _ _ (by rw [hf]; rw [hf] at hok h; exact takesIn hF hd hs hQ sc _ a _ k hok hwf hy hS h))
end Go.Proofs.Ytdnhmlpjohojdaa.Line
/-
  conf.List: a configuration's nine numbers, by its contract.
-/
namespace Go.Proofs.Ytdnhmlpjohojdaa.Adm
open Go.RowKit Go.Shelf Go.Proofs.Ytdnhmlpjohojdaa.Tab
attribute [local go_sem] Oper.semAt_some
theorem infoI : (Try.prog.info? 3).map (fun i => (i.zero, i.size, i.bytes)) = some (some (.int .i64 0), 1, 8) := by kernel_rfl
def vals (v : Fin 9 → Int) (l : List (Fin 9)) : List Value := l.map fun x => .int .i64 (v x)
theorem vals_snoc (v : Fin 9 → Int) (pre : List (Fin 9)) (x : Fin 9) : vals v (pre ++ [x]) = vals v pre ++ [.int .i64 (v x)] := by simp [vals]
/-- A block of another type's cells is no slice's own. -/
theorem cells_not_row {W : World} {B : Nat} {cs : Array Value} {t e : TypeId} {fr : Nat × Nat} (h : W.heap[B]? = some (.cells cs t fr)) (hte : t ≠ e) {base size k : Nat} {u : Value} {xs : List Value} (hr : W.ownsRow base e size u k xs) : some B ≠ u.ownBlock := by
  rcases hr.2 with ⟨rfl, _⟩ | ⟨g, cap, cur, rfl, _, hgb, _⟩
  · simp [Value.ownBlock]
  · intro e'
    obtain rfl : B = g := by simpa [Value.ownBlock] using e'
    rw [h] at hgb
    simp at hgb
    exact hte hgb.2.1
theorem load_op {P : Program} {w : World} {o : Oper} {a : Act} {ty : TypeId} {x : Operand} {p v : Value} (hop : o.op = .load ty x) (hx : a.eval x = p) (h : (Instr.loadAt ty p).run P w = .ok v w) : (execOp a.eval o).run P w = .ok (.value v) w := by
  simp [execOp, hop, hx, h, Result.andThen]
theorem load_int {w : World} {b i : Nat} {v : Value} (h : w.cell? ⟨b, i, none⟩ = some v) : (Instr.loadAt 3 (.pointer (some ⟨b, i, none⟩))).run Try.prog w = .ok v w := by go_simp
theorem load_ptr {w : World} {b i : Nat} {v : Value} (h : w.cell? ⟨b, i, none⟩ = some v) : (Instr.loadAt 112 (.pointer (some ⟨b, i, none⟩))).run Try.prog w = .ok v w := by go_simp
theorem load_ints {w : World} {b i : Nat} {v : Value} (h : w.cell? ⟨b, i, none⟩ = some v) : (Instr.loadAt 57 (.pointer (some ⟨b, i, none⟩))).run Try.prog w = .ok v w := by go_simp
theorem store_op {P : Program} {w w' : World} {o : Oper} {a : Act} {ty : TypeId} {x y : Operand} {p v : Value} (hop : o.op = .store ty x y) (hx : a.eval x = p) (hy : a.eval y = v) (h : (Instr.storeAt ty p v).run P w = .ok () w') : (execOp a.eval o).run P w = .ok .skip w' := by
  simp [execOp, hop, hx, hy, h, Result.andThen]
theorem store_ints {w : World} {b i g n c : Nat} {u : Value} (h : w.cell? ⟨b, i, none⟩ = some u) (hf : w.frozen? ⟨b, i, none⟩ = false) : (Instr.storeAt 57 (.pointer (some ⟨b, i, none⟩)) (.slice (some ⟨g, 0, none⟩) n c)).run Try.prog w = .ok () (w.setCell ⟨b, i, none⟩ (.slice (some ⟨g, 0, none⟩) n c)) := by go_simp
theorem keeps_of {W W1 W2 : World} (e : W1.heap = W.heap) (h : KeepsOthers W1 W2) : KeepsOthers W W2 := ⟨by rw [← e]; exact h.size, fun k o hk ho => h.same k o (by rw [e]; exact hk) ho⟩
theorem append_op {P : Program} {w : World} {o : Oper} {a : Act} {t : TypeId} {s x : Operand} {u y : Value} {v' : Value} {w' : World} (hop : o.op = Op.call { callee := Callee.builtin Builtin.append, args := #[s, x], argTypes := #[t, t] }) (hs : a.eval s = u) (hx : a.eval x = y)
    (hrun : (Builtin.append_ #[t, t] o.type #[u, y]).run P w = .ok v' w') : (execOp a.eval o).run P w = .ok (.value v') w' := by
  simp [execOp, hop, resolve, invoke, builtin, hs, hx, hrun, Result.andThen]
set_option maxRecDepth 100000 in
set_option maxHeartbeats 1000000 in
theorem List_ (v : Fin 9 → Int) (w : World) :
    Calls Try.prog 48 #[.agg (cells9 v)] w fun e w' => ∃ u, e = .returned u ∧ w'.ownsRow w.heap.size 3 1 u 9 (vals v (upto9 9)) ∧ Below w.heap.size w w' := by
  refine (callsIn_wide (n := 6)).1 ?_
  refine callsIn_of_wp_marks Try.func48 rfl trivial ?_ rfl
  simp only [Try.ntmps48, List.size_toArray, List.length_cons, List.length_nil, Nat.reduceAdd, Nat.reduceSub, Array.replicate_succ, Array.replicate_zero, List.push_toArray, List.append_toArray, List.nil_append, List.cons_append]
  gi_wp2_with (refine ⟨trivial, ?_⟩; gi_at_call 65; refine (callsIn_wide.2 (places _ _)).mono ?_; rintro e w' ⟨rfl, rfl⟩)
  have hsz : (((w.alloc (.cells (cells9 v) 24)).alloc (.cells #[.slice none 0 0] 57)).alloc (.cells (placeCells w.heap.size) 120)).drew.heap.size = w.heap.size + 3 := by simp
  have hA : At9 v w.heap.size (((w.alloc (.cells (cells9 v) 24)).alloc (.cells #[.slice none 0 0] 57)).alloc (.cells (placeCells w.heap.size) 120)).drew := (Below.heap_alloc _ _ _ (by simp; omega)).trans ((Below.heap_alloc _ _ _ (by simp)).trans (heap_alloc_last w _))
  have hR : Boxed (((w.alloc (.cells (cells9 v) 24)).alloc (.cells #[.slice none 0 0] 57)).alloc (.cells (placeCells w.heap.size) 120)).drew (w.heap.size + 1) 57 (.slice none 0 0) := (Below.heap_alloc _ _ _ (by simp)).trans (by have := heap_alloc_last (w.alloc (.cells (cells9 v) 24)) (.cells #[.slice none 0 0] 57); simpa using this)
  have hP : (((w.alloc (.cells (cells9 v) 24)).alloc (.cells #[.slice none 0 0] 57)).alloc (.cells (placeCells w.heap.size) 120)).drew.heap[w.heap.size + 1 + 1]? = some (.cells (placeCells w.heap.size) 120 (0, 0)) := by have := heap_alloc_last ((w.alloc (.cells (cells9 v) 24)).alloc (.cells #[.slice none 0 0] 57)) (.cells (placeCells w.heap.size) 120); simp only [World.size_alloc] at this; exact this
  have hB : Below w.heap.size w (((w.alloc (.cells (cells9 v) 24)).alloc (.cells #[.slice none 0 0] 57)).alloc (.cells (placeCells w.heap.size) 120)).drew := ((((Below.refl _ w).alloc (Nat.le_refl _) _).alloc (by simp) _).alloc (by simp; omega) _).drew
  generalize (((w.alloc (.cells (cells9 v) 24)).alloc (.cells #[.slice none 0 0] 57)).alloc (.cells (placeCells w.heap.size) 120)).drew = W0 at *
  refine wpIn_rangeFunc_ownH rfl (by omega) (gf := 70) (lb := #[.pointer (some ⟨w.heap.size + 1 + 1, 0, none⟩)]) rfl trivial (enters_of Try.func70 (by kernel_rfl) rfl)
    (places_stops Fence.wide _ trivial rfl (by omega) (w.heap.size + 1 + 1) w.heap.size W0 hP) walksK_t walksK_b (Below.refl _ _) (fun _ => rfl)
    (fun pre W => (At9 v w.heap.size W ∧ (∃ u, Boxed W (w.heap.size + 1) 57 u ∧ W.ownsRow w.heap.size 3 1 u pre.length (vals v pre) ∧ True)) ∧ Below w.heap.size w W)
    (fun c pre W => False)
    (OwnFrom.and (OwnFrom.and (Own.from (block_own _ _ rfl) _) (Own.from (holdsRow_own w.heap.size (w.heap.size + 1) 57 3 1 (fun pre : List (Fin 9) => pre.length) (fun pre => vals v pre) (fun _ _ => True)) _)) (ownFrom_below (Nat.le_refl _) (by omega)))
    (fun c => ownFrom_pure _ (fun _ => False))
    ⟨⟨hA, _, hR, World.ownsRow_nil _ _ _ _, trivial⟩, hB⟩
    (AxP w.heap.size (fun x p => { tmps := #[.agg (cells9 v), .pointer (some ⟨w.heap.size, 0, none⟩), .slice none 0 0, .pointer (some ⟨w.heap.size + 1, 0, none⟩), undef, p, .func (.func 70) #[] #[.pointer (some ⟨w.heap.size + 1 + 1, 0, none⟩)], .int .i64 (x.1 : Int), placeV w.heap.size x.1, undef, undef, undef, undef, undef, undef, undef, undef], defers := [] }))
    (axP_own _ _ _) ?assign ?body ?done ?stop
  case assign =>
    rintro l pre x W K ⟨⟨hA', u, hR', hr', _⟩, hB'⟩ hK
    simp only [encP, placeV]
    gi_wp2
    refine hK _ _ ((KeepsOthers.alloc W (.cells #[.pointer (some ⟨w.heap.size, x.1, none⟩), .int .i64 (least x.1), .int .i64 (most x.1)] 114)).from _) ((KeepsOthers.alloc W _).walks) ?_ ?_
    · exact ⟨⟨(Below.heap_alloc _ _ _ (Array.getElem?_eq_some_iff.1 hA').1).trans hA', u, hR'.alloc _, hr'.alloc _, trivial⟩, hB'.alloc (hB'.size) _⟩
    · exact ⟨W.heap.size, heap_alloc_last _ _, rfl⟩
  case body =>
    rintro l pre x a' W hl ⟨r, hr⟩ ⟨⟨hA', u, hR', hro, _⟩, hB'⟩ ⟨Bx, hX, rfl⟩ hlen
    have HA := Lib.hid hA'
    have HX := Lib.hid hX
    have HR := Lib.hid hR'
    have HO := Lib.hid hro
    have HB := Lib.hid hB'
    clear hA' hX hR' hro hB' hr hA hR hP hB hsz
    gi_wp2_with fail
    refine Line.wpIn_line (Line.open_round _ l) 7 (fun w' => w'.cell? ⟨w.heap.size + 1, 0, none⟩ = some u ∧ w'.cell? ⟨Bx, 0, none⟩ = some (.pointer (some ⟨w.heap.size, x.1, none⟩)) ∧ w'.cell? ⟨w.heap.size, x.1, none⟩ = some (.int .i64 (v x)))
      [(0, u), (1, .pointer (some ⟨Bx, 0, none⟩)), (2, .pointer (some ⟨w.heap.size, x.1, none⟩)), (3, .pointer (some ⟨w.heap.size, x.1, none⟩)), (4, .int .i64 (v x))]
      (by kernel_rfl) (by kernel_rfl) (by kernel_rfl) (fun _ _ d _ _ h => by cases d <;> exact h) (by kernel_rfl) (by kernel_rfl) ?hS ?hy 3 (by kernel_rfl) ?hh
    case hS => exact ⟨HR.out.cell, cell_of_cells HX.out 0, (cell_of_cells HA.out x.1).trans (cells9_at v x)⟩
    case hy =>
      refine ⟨⟨_, rfl, by kernel_rfl, fun W1 hW1 => ?_⟩, ⟨_, rfl, by kernel_rfl, fun W1 hW1 => by kernel_rfl⟩, ⟨_, rfl, by kernel_rfl, fun W1 hW1 => ?_⟩, ⟨_, rfl, by kernel_rfl, fun W1 hW1 => by kernel_rfl⟩, ⟨_, rfl, by kernel_rfl, fun W1 hW1 => ?_⟩, trivial⟩
      all_goals obtain ⟨h1, h2, h3⟩ := hW1
      · exact load_op (p := .pointer (some ⟨w.heap.size + 1, 0, none⟩)) rfl (by kernel_rfl) (load_ints h1)
      · exact load_op (p := .pointer (some ⟨Bx, 0, none⟩)) rfl (by kernel_rfl) (load_ptr h2)
      · exact load_op (p := .pointer (some ⟨w.heap.size, x.1, none⟩)) rfl (by kernel_rfl) (load_int h3)
    case hh =>
      rw [show Line.runL _ [(0, u), (1, .pointer (some ⟨Bx, 0, none⟩)), (2, .pointer (some ⟨w.heap.size, x.1, none⟩)), (3, .pointer (some ⟨w.heap.size, x.1, none⟩)), (4, .int .i64 (v x))] _ = (⟨#[.agg (cells9 v), .pointer (some ⟨w.heap.size, 0, none⟩), .slice none 0 0, .pointer (some ⟨w.heap.size + 1, 0, none⟩), undef, .pointer (some ⟨Bx, 0, none⟩), .func (.func 70) #[] #[.pointer (some ⟨w.heap.size + 1 + 1, 0, none⟩)], .int .i64 (x.1 : Int), placeV w.heap.size x.1, u, .pointer (some ⟨Bx, 0, none⟩), .pointer (some ⟨w.heap.size, x.1, none⟩), .pointer (some ⟨w.heap.size, x.1, none⟩), .int .i64 (v x), undef, undef, undef], []⟩ : Act) by kernel_rfl]
      have hz1 : w.heap.size + 1 < W.heap.size := HR.out.lt
      have hzx : Bx < W.heap.size := (Array.getElem?_eq_some_iff.1 HX.out).1
      refine Line.oneIn_value (i := 5) (v := .slice (some ⟨W.heap.size, 0, none⟩) 1 1) (w' := (W.alloc (.cells #[.int .i64 (v x)] 3)).drew) (Line.open_round _ l) (by kernel_rfl) (by kernel_rfl) rfl (by kernel_rfl) (by go_simp) (fun _ => ?s1) ?_
      case s1 =>
        have hh := Below.heap_alloc W (.cells #[.int .i64 (v x)] 3)
        exact ⟨(World.cell?_of_block (a := ⟨w.heap.size + 1, 0, none⟩) (hh _ hz1)).trans HR.out.cell, (World.cell?_of_block (a := ⟨Bx, 0, none⟩) (hh _ hzx)).trans (cell_of_cells HX.out 0), (World.cell?_of_block (a := ⟨w.heap.size, x.1, none⟩) (hh w.heap.size (by omega))).trans ((cell_of_cells HA.out x.1).trans (cells9_at v x))⟩
      obtain ⟨i0, hi, hi0, hi1, hi2⟩ := info_parts infoI
      obtain ⟨v', w1, hrun, hown, hgrow, _⟩ := run_append_own (P := Try.prog) (W.alloc (.cells #[.int .i64 (v x)] 3)).drew w.heap.size 57 57 3 i0 (.int .i64 0) 1 8 Try.underlying57 hi hi0 hi1 hi2 rfl (by decide) u pre.length (vals v pre) (HO.out.alloc _) ⟨W.heap.size, 0, none⟩ 1 1 [.int .i64 (v x)] rfl (cell_one_new _ _ _) (by simp [Value.oneCell']) (by unfold maxLen; omega) (by omega) (by have := HB.out.size; simp; omega)
      have hown' : w1.ownsRow w.heap.size 3 1 v' (pre.length + 1) (vals v pre ++ [.int .i64 (v x)]) := hown
      obtain ⟨g', cap', rfl⟩ := ownsRow_succ hown'
      have hgrow' : (W.drew.alloc (.cells #[.int .i64 (v x)] 3)).grownBy w1 u.ownBlock := hgrow
      obtain ⟨hv1, hv2, hr2, hk2, hb2⟩ := Boxed.appended (W := W.drew) (B := w.heap.size + 1) (t := 57) (n₀ := w.heap.size) HR.out (by decide) HO.out HB.out.size (by omega) hown' hgrow'
      have hA1 : At9 v w.heap.size w1 := (hgrow'.block _ (by simp; have := HB.out.size; omega) (cells_not_row HA.out (by decide) HO.out)).trans ((Below.heap_alloc W.drew _ _ (by show w.heap.size < W.heap.size; omega)).trans HA.out)
      have hX1 := (hgrow'.block _ (by simp; omega) (cells_not_row HX.out (by decide) HO.out)).trans ((Below.heap_alloc W.drew (.cells #[.int .i64 (v x)] 3) _ (by show Bx < W.heap.size; omega)).trans HX.out)
      refine Line.oneIn_value (i := 6) (v := .slice (some ⟨g', 0, none⟩) (pre.length + 1) cap') (w' := w1) (Line.open_round _ l) (by kernel_rfl) (by kernel_rfl) rfl (by kernel_rfl) (append_op rfl rfl rfl hrun) (fun _ => ⟨hv1.cell, cell_of_cells hX1 0, (cell_of_cells hA1 x.1).trans (cells9_at v x)⟩) ?_
      refine Line.oneIn_skip (i := 7) (w' := w1.setCell ⟨w.heap.size + 1, 0, none⟩ (.slice (some ⟨g', 0, none⟩) (pre.length + 1) cap')) (Line.open_round _ l) (by kernel_rfl) (by kernel_rfl) rfl (by kernel_rfl) ?st (fun h => absurd rfl h) ?_
      case st => exact store_op (p := .pointer (some ⟨w.heap.size + 1, 0, none⟩)) (v := .slice (some ⟨g', 0, none⟩) (pre.length + 1) cap') rfl (by kernel_rfl) (by kernel_rfl) (store_ints hv1.cell hv1.frozen)
      refine Line.anyH_done (by kernel_rfl) ?_
      have hk3 := keeps_of (W := W) (W1 := W.drew) rfl hk2
      have hA2 : At9 v w.heap.size (w1.setCell ⟨w.heap.size + 1, 0, none⟩ (.slice (some ⟨g', 0, none⟩) (pre.length + 1) cap')) := (Below.heap_setCell _ _ _ _ (by simp)).trans hA1
      refine ⟨keeps_heap (by rfl) hk3 _, hk3.walks, ⟨hA2, _, hv2, ?_, trivial⟩, ?_⟩
      · rw [vals_snoc, List.length_append]
        exact hr2
      · have hb3 := HB.out.drew.trans hb2
        exact hb3
  case done =>
    rintro D ys W hD rfl ⟨⟨hA', u, hR', hr', _⟩, hB'⟩ hK
    have HR := Lib.hid hR'
    have HO := Lib.hid hr'
    have HB := Lib.hid hB'
    have HK := Lib.hid hK
    have hrc := hR'.cell
    clear hA' hR' hr' hB' hA hR hP hB hK
    gi_wp2
    refine ⟨by simp, .inl ⟨_, _, rfl, run_takeDeferred HK.out, ?_⟩⟩
    have hx9 : (upto9 9).length = 9 := by decide
    refine ⟨_, results_tmp rfl _ _ _, u, rfl, ?_, HB.out.trans (belowK_b (w := w) (Nat.le_refl _) _ D _ _ (by omega) HK.out rfl rfl)⟩
    have h9 := ownsRow_putObj HO.out (.deferred none) HK.out rfl
    rw [hx9] at h9
    exact h9
  case stop =>
    rintro D c pre W hD _ h _
    exact h.elim
end Go.Proofs.Ytdnhmlpjohojdaa.Adm
/-
  conf.Of at nine numbers: by its contract.
-/
namespace Go.Proofs.Ytdnhmlpjohojdaa.Adm
open Go.RowKit Go.Shelf Go.Proofs.Ytdnhmlpjohojdaa.Tab
attribute [local go_sem] Oper.semAt_some
def nine0 : Fin 9 → Int := fun _ => 0
/-- The numbers that have come; 0 for those that are to come. -/
def part (v : Fin 9 → Int) (pre : List (Fin 9)) (x : Fin 9) : Int := if x ∈ pre then v x else 0
theorem part_nil (v : Fin 9 → Int) : part v [] = nine0 := by funext x; simp [part, nine0]
theorem part_all (v : Fin 9 → Int) : part v (upto9 9) = v := by funext x; simp [part, mem_upto9]
def upd (f : Fin 9 → Int) (x : Fin 9) (a : Int) (y : Fin 9) : Int := if y = x then a else f y
theorem part_snoc (v : Fin 9 → Int) (pre : List (Fin 9)) (x : Fin 9) : part v (pre ++ [x]) = upd (part v pre) x (v x) := by
  funext y
  unfold part upd
  by_cases h : y = x
  · subst h; simp
  · simp [h]
theorem cells9_set (f : Fin 9 → Int) (x : Fin 9) (a : Int) : (cells9 f).setIfInBounds x.1 (.int .i64 a) = cells9 (upd f x a) :=
  match x with
  | 0 => rfl | 1 => rfl | 2 => rfl | 3 => rfl | 4 => rfl | 5 => rfl | 6 => rfl | 7 => rfl | 8 => rfl
theorem blocks_own {β : Type} (B : Nat) (f : β → Obj) (ho : ∀ s, (f s).isCells = true) : Own (fun (s : β) W => W.heap[B]? = some (f s)) := fun s X Y row hs hg hrow =>
  block_own (β := Unit) B (f s) (ho s) () X Y row hs hg hrow
theorem at9_set {v : Fin 9 → Int} {B : Nat} {W : World} (h : At9 v B W) (x : Fin 9) (a : Int) : At9 (upd v x a) B (W.setCell ⟨B, x.1, none⟩ (.int .i64 a)) := by
  obtain ⟨hlt, hk⟩ := Array.getElem?_eq_some_iff.1 h
  show (W.heap.modify B _)[B]? = _
  rw [Array.getElem?_eq_getElem (by rw [Array.size_modify]; exact hlt), Array.getElem_modify_self, hk]
  simp only [cells9_set]
  rfl
theorem store_is {F : Fence} {n : Nat} {P : Program} {w w' : World} {ops : Array Oper} {rest : List Oper} {o : Oper} {a : Act} {Q : Exit → Act → World → Prop} (hgd : o.guard = none) (ty : TypeId) (x y : Operand) (ho : o.op = .store ty x y) (p v : Value) (hx : a.eval x = p) (hy : a.eval y = v)
    (hs : (Instr.storeAt ty p v).run P w = .ok () w') (h : wpListIn F n P ops Q rest (a.put o.dst undef) w') : wpListIn F n P ops Q (o :: rest) a w := by
  refine wpListIn_plain hgd fun K' hK' => ?_
  unfold Oper.wpIn
  refine ⟨by simp [Oper.about, ho], ?_⟩
  rw [Oper.semAt_plain F _ _ (by rw [ho]; intro c hc'; cases hc')]
  simp [execOp, ho, hx, hy, hs, Result.andThen]
  exact hK' _ _ h
theorem store9 {w : World} {B : Nat} {f v : Fin 9 → Int} (h : At9 f B w) : (Instr.storeAt 24 (.pointer (some ⟨B, 0, none⟩)) (.agg (cells9 v))).run Try.prog w = .ok () (w.setRow B (cells9 v)) := by
  simp only [Instr.storeAt, Instr.sureAddr, Sem.run_bind, Sem.run_pure, Result.andThen]
  exact run_storeVar_row w B 24 24 (cells9 f) (cells9 v) h (by kernel_rfl) rfl (by kernel_rfl)
theorem load9 {w : World} {B : Nat} {f : Fin 9 → Int} (h : At9 f B w) : (Instr.loadAt 24 (.pointer (some ⟨B, 0, none⟩))).run Try.prog w = .ok (.agg (cells9 f)) w := by
  simp only [Instr.loadAt, Instr.sureAddr, Sem.run_bind, Sem.run_pure, Result.andThen]
  exact run_loadVar_row w B 24 24 (cells9 f) (0, 0) _ h Try.underlying24 rfl (by kernel_rfl)
theorem store_int {w : World} {b i : Nat} {u : Value} {x : Int} (h : w.cell? ⟨b, i, none⟩ = some u) (hf : w.frozen? ⟨b, i, none⟩ = false) : (Instr.storeAt 3 (.pointer (some ⟨b, i, none⟩)) (.int .i64 x)).run Try.prog w = .ok () (w.setCell ⟨b, i, none⟩ (.int .i64 x)) := by go_simp
theorem index_op {P : Program} {w : World} {o : Oper} {a : Act} {ty : TypeId} {x y : Operand} {p q v : Value} (hop : o.op = .indexAddr ty x y) (hx : a.eval x = p) (hy : a.eval y = q) (h : (Instr.indexAt ty p q).run P w = .ok v w) : (execOp a.eval o).run P w = .ok (.value v) w := by
  simp [execOp, hop, hx, hy, h, Result.andThen]
theorem index9s {g cap : Nat} (x : Fin 9) (w : World) : (Instr.indexAt 57 (.slice (some ⟨g, 0, none⟩) 9 cap) (.int .i64 (x.1 : Int))).run Try.prog w = .ok (.pointer (some ⟨g, x.1, none⟩)) w :=
  match x with
  | ⟨0, _⟩ => by kernel_rfl
  | ⟨1, _⟩ => by kernel_rfl
  | ⟨2, _⟩ => by kernel_rfl
  | ⟨3, _⟩ => by kernel_rfl
  | ⟨4, _⟩ => by kernel_rfl
  | ⟨5, _⟩ => by kernel_rfl
  | ⟨6, _⟩ => by kernel_rfl
  | ⟨7, _⟩ => by kernel_rfl
  | ⟨8, _⟩ => by kernel_rfl
/-- What Of gives. -/
def ofV (v : Fin 9 → Int) : Fin 9 → Int := if okB v then v else nine0
set_option maxRecDepth 100000 in
set_option maxHeartbeats 1000000 in
theorem Of_ (v : Fin 9 → Int) (g cap : Nat) (w : World) (hc : ∀ x : Fin 9, w.cell? ⟨g, x.1, none⟩ = some (.int .i64 (v x))) (hcap : 9 ≤ cap) :
    Calls Try.prog 60 #[.slice (some ⟨g, 0, none⟩) 9 cap] w fun e w' => e = .returned (.tuple #[.agg (cells9 (ofV v)), .int .i64 (errB (okB v))]) ∧ Below w.heap.size w w' := by
  have hgl : g < w.heap.size := World.block_lt_of_cell? w ⟨g, 0, none⟩ (hc 0)
  have HC := Lib.hid hc
  clear hc
  refine (callsIn_wide (n := 6)).1 ?_
  refine callsIn_of_wp_marks Try.func60 rfl trivial ?_ rfl
  simp only [Try.ntmps60, List.size_toArray, List.length_cons, List.length_nil, Nat.reduceAdd, Nat.reduceSub, Array.replicate_succ, Array.replicate_zero, List.push_toArray, List.append_toArray, List.nil_append, List.cons_append]
  gi_wp2_with (refine ⟨trivial, ?_⟩; gi_at_call 65; refine (callsIn_wide.2 (places _ _)).mono ?_; rintro e w' ⟨rfl, rfl⟩)
  have hsz : ((((w.alloc (.cells #[.slice (some ⟨g, 0, none⟩) 9 cap] 57)).alloc (.cells #[.int .i64 0, .int .i64 0, .int .i64 0, .int .i64 0, .int .i64 0, .int .i64 0, .int .i64 0, .int .i64 0, .int .i64 0] 24)).alloc (.cells #[.int .i64 0, .int .i64 0, .int .i64 0, .int .i64 0, .int .i64 0, .int .i64 0, .int .i64 0, .int .i64 0, .int .i64 0] 24)).alloc (.cells (placeCells (w.heap.size + 1 + 1)) 120)).drew.heap.size = w.heap.size + 4 := by simp
  have hL : Boxed ((((w.alloc (.cells #[.slice (some ⟨g, 0, none⟩) 9 cap] 57)).alloc (.cells #[.int .i64 0, .int .i64 0, .int .i64 0, .int .i64 0, .int .i64 0, .int .i64 0, .int .i64 0, .int .i64 0, .int .i64 0] 24)).alloc (.cells #[.int .i64 0, .int .i64 0, .int .i64 0, .int .i64 0, .int .i64 0, .int .i64 0, .int .i64 0, .int .i64 0, .int .i64 0] 24)).alloc (.cells (placeCells (w.heap.size + 1 + 1)) 120)).drew w.heap.size 57 (.slice (some ⟨g, 0, none⟩) 9 cap) := (Below.heap_alloc _ _ _ (by simp <;> omega)).trans ((Below.heap_alloc _ _ _ (by simp <;> omega)).trans ((Below.heap_alloc _ _ _ (by simp)).trans (heap_alloc_last w _)))
  have hR : At9 nine0 (w.heap.size + 1) ((((w.alloc (.cells #[.slice (some ⟨g, 0, none⟩) 9 cap] 57)).alloc (.cells #[.int .i64 0, .int .i64 0, .int .i64 0, .int .i64 0, .int .i64 0, .int .i64 0, .int .i64 0, .int .i64 0, .int .i64 0] 24)).alloc (.cells #[.int .i64 0, .int .i64 0, .int .i64 0, .int .i64 0, .int .i64 0, .int .i64 0, .int .i64 0, .int .i64 0, .int .i64 0] 24)).alloc (.cells (placeCells (w.heap.size + 1 + 1)) 120)).drew := (Below.heap_alloc _ _ _ (by simp <;> omega)).trans ((Below.heap_alloc _ _ _ (by simp)).trans (by have := heap_alloc_last (w.alloc (.cells #[.slice (some ⟨g, 0, none⟩) 9 cap] 57)) (.cells #[.int .i64 0, .int .i64 0, .int .i64 0, .int .i64 0, .int .i64 0, .int .i64 0, .int .i64 0, .int .i64 0, .int .i64 0] 24); simp only [World.size_alloc] at this; exact this))
  have hA : At9 nine0 (w.heap.size + 1 + 1) ((((w.alloc (.cells #[.slice (some ⟨g, 0, none⟩) 9 cap] 57)).alloc (.cells #[.int .i64 0, .int .i64 0, .int .i64 0, .int .i64 0, .int .i64 0, .int .i64 0, .int .i64 0, .int .i64 0, .int .i64 0] 24)).alloc (.cells #[.int .i64 0, .int .i64 0, .int .i64 0, .int .i64 0, .int .i64 0, .int .i64 0, .int .i64 0, .int .i64 0, .int .i64 0] 24)).alloc (.cells (placeCells (w.heap.size + 1 + 1)) 120)).drew := (Below.heap_alloc _ _ _ (by simp)).trans (by have := heap_alloc_last ((w.alloc (.cells #[.slice (some ⟨g, 0, none⟩) 9 cap] 57)).alloc (.cells #[.int .i64 0, .int .i64 0, .int .i64 0, .int .i64 0, .int .i64 0, .int .i64 0, .int .i64 0, .int .i64 0, .int .i64 0] 24)) (.cells #[.int .i64 0, .int .i64 0, .int .i64 0, .int .i64 0, .int .i64 0, .int .i64 0, .int .i64 0, .int .i64 0, .int .i64 0] 24); simp only [World.size_alloc] at this; exact this)
  have hP : ((((w.alloc (.cells #[.slice (some ⟨g, 0, none⟩) 9 cap] 57)).alloc (.cells #[.int .i64 0, .int .i64 0, .int .i64 0, .int .i64 0, .int .i64 0, .int .i64 0, .int .i64 0, .int .i64 0, .int .i64 0] 24)).alloc (.cells #[.int .i64 0, .int .i64 0, .int .i64 0, .int .i64 0, .int .i64 0, .int .i64 0, .int .i64 0, .int .i64 0, .int .i64 0] 24)).alloc (.cells (placeCells (w.heap.size + 1 + 1)) 120)).drew.heap[w.heap.size + 1 + 1 + 1]? = some (.cells (placeCells (w.heap.size + 1 + 1)) 120 (0, 0)) := by have := heap_alloc_last (((w.alloc (.cells #[.slice (some ⟨g, 0, none⟩) 9 cap] 57)).alloc (.cells #[.int .i64 0, .int .i64 0, .int .i64 0, .int .i64 0, .int .i64 0, .int .i64 0, .int .i64 0, .int .i64 0, .int .i64 0] 24)).alloc (.cells #[.int .i64 0, .int .i64 0, .int .i64 0, .int .i64 0, .int .i64 0, .int .i64 0, .int .i64 0, .int .i64 0, .int .i64 0] 24)) (.cells (placeCells (w.heap.size + 1 + 1)) 120); simp only [World.size_alloc] at this; exact this
  have hB : Below w.heap.size w ((((w.alloc (.cells #[.slice (some ⟨g, 0, none⟩) 9 cap] 57)).alloc (.cells #[.int .i64 0, .int .i64 0, .int .i64 0, .int .i64 0, .int .i64 0, .int .i64 0, .int .i64 0, .int .i64 0, .int .i64 0] 24)).alloc (.cells #[.int .i64 0, .int .i64 0, .int .i64 0, .int .i64 0, .int .i64 0, .int .i64 0, .int .i64 0, .int .i64 0, .int .i64 0] 24)).alloc (.cells (placeCells (w.heap.size + 1 + 1)) 120)).drew := (((((Below.refl _ w).alloc (Nat.le_refl _) _).alloc (by simp) _).alloc (by simp <;> omega) _).alloc (by simp <;> omega) _).drew
  generalize ((((w.alloc (.cells #[.slice (some ⟨g, 0, none⟩) 9 cap] 57)).alloc (.cells #[.int .i64 0, .int .i64 0, .int .i64 0, .int .i64 0, .int .i64 0, .int .i64 0, .int .i64 0, .int .i64 0, .int .i64 0] 24)).alloc (.cells #[.int .i64 0, .int .i64 0, .int .i64 0, .int .i64 0, .int .i64 0, .int .i64 0, .int .i64 0, .int .i64 0, .int .i64 0] 24)).alloc (.cells (placeCells (w.heap.size + 1 + 1)) 120)).drew = W0 at *
  refine wpIn_rangeFunc_ownH rfl (by omega) (gf := 70) (lb := #[.pointer (some ⟨w.heap.size + 1 + 1 + 1, 0, none⟩)]) rfl trivial (enters_of Try.func70 (by kernel_rfl) rfl)
    (places_stops Fence.wide _ trivial rfl (by omega) (w.heap.size + 1 + 1 + 1) (w.heap.size + 1 + 1) W0 hP) walksK_t walksK_b (Below.refl _ _) (fun _ => rfl)
    (fun pre W => ((At9 (part v pre) (w.heap.size + 1 + 1) W ∧ At9 nine0 (w.heap.size + 1) W) ∧ Boxed W w.heap.size 57 (.slice (some ⟨g, 0, none⟩) 9 cap)) ∧ Below w.heap.size w W)
    (fun c pre W => False)
    (OwnFrom.and (OwnFrom.and (OwnFrom.and (Own.from (blocks_own (w.heap.size + 1 + 1) (fun pre => .cells (cells9 (part v pre)) 24 (0, 0)) (fun _ => rfl)) _) (Own.from (block_own _ _ rfl) _)) (Own.from (boxed_own _ _ (fun _ => Value.slice (some ⟨g, 0, none⟩) 9 cap)) _)) (ownFrom_below (Nat.le_refl _) (by omega)))
    (fun c => ownFrom_pure _ (fun _ => False))
    ⟨⟨⟨by rw [part_nil]; exact hA, hR⟩, hL⟩, hB⟩
    (AxP (w.heap.size + 1 + 1) (fun x p => { tmps := #[.slice (some ⟨g, 0, none⟩) 9 cap, .pointer (some ⟨w.heap.size, 0, none⟩), .pointer (some ⟨w.heap.size + 1, 0, none⟩), .int .i64 0, .pointer (some ⟨w.heap.size + 1 + 1, 0, none⟩), .int .i64 (x.1 : Int), p, .slice (some ⟨g, 0, none⟩) 9 cap, .int .i64 9, .bool false, undef, .func (.func 70) #[] #[.pointer (some ⟨w.heap.size + 1 + 1 + 1, 0, none⟩)], .int .i64 (x.1 : Int), placeV (w.heap.size + 1 + 1) x.1, undef, undef, undef, undef, undef, undef, undef, undef, undef, undef, undef, undef], defers := [] }))
    (axP_own _ _ _) ?assign ?body ?done ?stop
  case assign =>
    rintro l pre x W K ⟨⟨⟨hA', hR'⟩, hL'⟩, hB'⟩ hK
    simp only [encP, placeV]
    gi_wp2
    refine hK _ _ ((KeepsOthers.alloc W (.cells #[.pointer (some ⟨w.heap.size + 1 + 1, x.1, none⟩), .int .i64 (least x.1), .int .i64 (most x.1)] 114)).from _) ((KeepsOthers.alloc W _).walks) ?_ ?_
    · have hh := fun k hk => Below.heap_alloc W (.cells #[.pointer (some ⟨w.heap.size + 1 + 1, x.1, none⟩), .int .i64 (least x.1), .int .i64 (most x.1)] 114) k hk
      exact ⟨⟨⟨(hh _ (Array.getElem?_eq_some_iff.1 hA').1).trans hA', (hh _ (Array.getElem?_eq_some_iff.1 hR').1).trans hR'⟩, hL'.alloc _⟩, hB'.alloc (hB'.size) _⟩
    · exact ⟨W.heap.size, heap_alloc_last _ _, rfl⟩
  case body =>
    rintro l pre x a' W hl ⟨r, hr⟩ ⟨⟨⟨hA', hR'⟩, hL'⟩, hB'⟩ ⟨Bx, hX, rfl⟩ hlen
    have HA := Lib.hid hA'
    have HX := Lib.hid hX
    have HR := Lib.hid hR'
    have HL := Lib.hid hL'
    have HB := Lib.hid hB'
    clear hA' hX hR' hL' hB' hr hA hR hP hB hsz hL
    gi_wp2_with fail
    refine Line.wpIn_line (Line.open_round _ l) 7 (fun w' => w'.cell? ⟨Bx, 0, none⟩ = some (.pointer (some ⟨w.heap.size + 1 + 1, x.1, none⟩)) ∧ w'.cell? ⟨w.heap.size, 0, none⟩ = some (.slice (some ⟨g, 0, none⟩) 9 cap) ∧ w'.cell? ⟨g, x.1, none⟩ = some (.int .i64 (v x)))
      [(0, .pointer (some ⟨Bx, 0, none⟩)), (1, .pointer (some ⟨w.heap.size + 1 + 1, x.1, none⟩)), (2, .slice (some ⟨g, 0, none⟩) 9 cap), (3, .int .i64 (x.1 : Int)), (4, .pointer (some ⟨g, x.1, none⟩)), (5, .int .i64 (v x)), (6, .pointer (some ⟨w.heap.size + 1 + 1, x.1, none⟩))]
      (by kernel_rfl) (by kernel_rfl) (by kernel_rfl) (fun _ _ d _ _ h => by cases d <;> exact h) (by kernel_rfl) (by kernel_rfl) ?hS ?hy 1 (by kernel_rfl) ?hh
    case hS => exact ⟨cell_of_cells HX.out 0, HL.out.cell, (HB.out.cell (p := ⟨g, x.1, none⟩) hgl).trans (HC.out x)⟩
    case hy =>
      refine ⟨⟨_, rfl, by kernel_rfl, fun W1 hW1 => by kernel_rfl⟩, ⟨_, rfl, by kernel_rfl, fun W1 hW1 => ?_⟩, ⟨_, rfl, by kernel_rfl, fun W1 hW1 => ?_⟩, ⟨_, rfl, by kernel_rfl, fun W1 hW1 => by kernel_rfl⟩, ⟨_, rfl, by kernel_rfl, fun W1 hW1 => ?_⟩, ⟨_, rfl, by kernel_rfl, fun W1 hW1 => ?_⟩, ⟨_, rfl, by kernel_rfl, fun W1 hW1 => by kernel_rfl⟩, trivial⟩
      all_goals obtain ⟨h1, h2, h3⟩ := hW1
      · exact load_op (p := .pointer (some ⟨Bx, 0, none⟩)) rfl (by kernel_rfl) (load_ptr h1)
      · exact load_op (p := .pointer (some ⟨w.heap.size, 0, none⟩)) rfl (by kernel_rfl) (load_ints h2)
      · exact index_op (p := .slice (some ⟨g, 0, none⟩) 9 cap) (q := .int .i64 (x.1 : Int)) rfl (by kernel_rfl) (by kernel_rfl) (index9s x W1)
      · exact load_op (p := .pointer (some ⟨g, x.1, none⟩)) rfl (by kernel_rfl) (load_int h3)
    case hh =>
      refine Line.oneIn_skip (i := 7) (w' := (W.drew.setCell ⟨w.heap.size + 1 + 1, x.1, none⟩ (.int .i64 (v x)))) (Line.open_round _ l) (by kernel_rfl) (by kernel_rfl) rfl (by kernel_rfl) ?st (fun h => absurd rfl h) ?_
      case st =>
        have hcc : W.drew.cell? ⟨w.heap.size + 1 + 1, x.1, none⟩ = some (.int .i64 (part v pre x)) := (cell_of_cells HA.out x.1).trans (cells9_at _ x)
        exact store_op (p := .pointer (some ⟨w.heap.size + 1 + 1, x.1, none⟩)) (v := .int .i64 (v x)) rfl (by kernel_rfl) (by kernel_rfl) (store_int hcc (by simp [World.frozen?, show W.drew.heap[w.heap.size + 1 + 1]? = _ from HA.out]))
      refine Line.anyH_done (by kernel_rfl) ?_
      have hk := KeepsOthers.setCell W.drew ⟨w.heap.size + 1 + 1, x.1, none⟩ (.int .i64 (v x))
      have hk3 := keeps_of (W := W) (W1 := W.drew) rfl hk
      have hb3 := HB.out.drew.setCell (p := ⟨w.heap.size + 1 + 1, x.1, none⟩) (by simp <;> omega) (.int .i64 (v x))
      refine ⟨keeps_heap (by rfl) hk3 _, hk3.walks, ⟨⟨?_, ?_⟩, ?_⟩, hb3⟩
      · rw [part_snoc]
        exact at9_set (W := W.drew) HA.out x (v x)
      · exact (Below.heap_setCell _ _ _ _ (by simp)).trans HR.out
      · exact (Below.heap_setCell _ _ _ _ (by show w.heap.size ≠ w.heap.size + 1 + 1; omega)).trans HL.out
  case done =>
    rintro D ys W hD rfl ⟨⟨⟨hA', hR'⟩, hL'⟩, hB'⟩ hK
    rw [part_all] at hA'
    have HA := Lib.hid hA'
    have HR := Lib.hid hR'
    have HB := Lib.hid hB'
    have HK := Lib.hid hK
    clear hA' hR' hL' hB' hA hR hP hB hK hL
    have HCk := Lib.hid (Check_ v)
    cases hok : okB v
    · rw [hok] at HCk
      have HO := Lib.hid (show ofV v = nine0 ∧ okB v = false from ⟨by unfold ofV; rw [hok]; rfl, hok⟩)
      clear hok
      gi_wp2_with (first
        | (refine load_is rfl 24 (.tmp 4) rfl _ rfl _ (load9 HA.out) ?_)
        | (refine load_is rfl 24 (.tmp 4) rfl _ rfl _ (load9 ((HB1.out.block _ (Array.getElem?_eq_some_iff.1 HA.out).1).trans HA.out)) ?_)
        | (refine ⟨trivial, ?_⟩; gi_at_call 47; refine (callsIn_wide.2 (HCk.out _)).mono ?_; unfold errB; rintro e w2 ⟨rfl, hb⟩; have HB1 := Lib.hid hb; clear hb)
        | (refine store_is rfl 24 (.tmp 2) (.tmp 24) rfl _ (.agg (cells9 nine0)) rfl rfl (store9 (f := nine0) ((HB1.out.block _ (Array.getElem?_eq_some_iff.1 HR.out).1).trans HR.out)) ?_))
      have hlD : D < W.heap.size := (Array.getElem?_eq_some_iff.1 HK.out).1
      have hK' : (w2.setRow (w.heap.size + 1) (cells9 nine0)).heap[D]? = some (.deferred (some [])) := (setRow_other _ _ _ _ (by omega)).trans ((HB1.out.block D hlD).trans HK.out)
      have hR2 : At9 nine0 (w.heap.size + 1) w2 := (HB1.out.block _ (Array.getElem?_eq_some_iff.1 HR.out).1).trans HR.out
      have hbl : Below w.heap.size w (w2.setRow (w.heap.size + 1) (cells9 nine0)) := by
        have h1 := HB.out.trans (HB1.out.mono HB.out.size)
        exact ⟨h1.os, h1.tape, h1.output, by simpa using h1.size, fun k hk => (setRow_other _ _ _ _ (by omega)).trans (h1.block k hk)⟩
      refine ⟨by simp, .inl ⟨_, _, rfl, run_takeDeferred hK', ?_⟩⟩
      have hRx : ((w2.setRow (w.heap.size + 1) (cells9 nine0)).putObj D (.deferred none)).heap[w.heap.size + 1]? = some (.cells (cells9 nine0) 24 (0, 0)) := (World.putObj_heap_other (by omega)).trans (setRow_heap _ _ _ _ _ _ hR2)
      have hcx := fun i => cell_of_cells hRx i
      refine ⟨.tuple #[.agg (cells9 nine0), .int .i64 1], by simp [results, Try.f60, go_sem, hcx], by rw [HO.out.1, HO.out.2]; rfl, hbl.trans (belowK_b (w := w) (Nat.le_refl _) _ D _ _ (by omega) hK' rfl rfl)⟩
    · rw [hok] at HCk
      have HO := Lib.hid (show ofV v = v ∧ okB v = true from ⟨by unfold ofV; rw [hok]; rfl, hok⟩)
      clear hok
      gi_wp2_with (first
        | (refine load_is rfl 24 (.tmp 4) rfl _ rfl _ (load9 HA.out) ?_)
        | (refine load_is rfl 24 (.tmp 4) rfl _ rfl _ (load9 ((HB1.out.block _ (Array.getElem?_eq_some_iff.1 HA.out).1).trans HA.out)) ?_)
        | (refine ⟨trivial, ?_⟩; gi_at_call 47; refine (callsIn_wide.2 (HCk.out _)).mono ?_; unfold errB; rintro e w2 ⟨rfl, hb⟩; have HB1 := Lib.hid hb; clear hb)
        | (refine store_is rfl 24 (.tmp 2) (.tmp 25) rfl _ (.agg (cells9 v)) rfl rfl (store9 (f := nine0) ((HB1.out.block _ (Array.getElem?_eq_some_iff.1 HR.out).1).trans HR.out)) ?_))
      have hlD : D < W.heap.size := (Array.getElem?_eq_some_iff.1 HK.out).1
      have hK' : (w2.setRow (w.heap.size + 1) (cells9 v)).heap[D]? = some (.deferred (some [])) := (setRow_other _ _ _ _ (by omega)).trans ((HB1.out.block D hlD).trans HK.out)
      have hR2 : At9 nine0 (w.heap.size + 1) w2 := (HB1.out.block _ (Array.getElem?_eq_some_iff.1 HR.out).1).trans HR.out
      have hbl : Below w.heap.size w (w2.setRow (w.heap.size + 1) (cells9 v)) := by
        have h1 := HB.out.trans (HB1.out.mono HB.out.size)
        exact ⟨h1.os, h1.tape, h1.output, by simpa using h1.size, fun k hk => (setRow_other _ _ _ _ (by omega)).trans (h1.block k hk)⟩
      refine ⟨by simp, .inl ⟨_, _, rfl, run_takeDeferred hK', ?_⟩⟩
      have hRx : ((w2.setRow (w.heap.size + 1) (cells9 v)).putObj D (.deferred none)).heap[w.heap.size + 1]? = some (.cells (cells9 v) 24 (0, 0)) := (World.putObj_heap_other (by omega)).trans (setRow_heap _ _ _ _ _ _ hR2)
      have hcx := fun i => cell_of_cells hRx i
      refine ⟨.tuple #[.agg (cells9 v), .int .i64 0], by simp [results, Try.f60, go_sem, hcx], by rw [HO.out.1, HO.out.2]; rfl, hbl.trans (belowK_b (w := w) (Nat.le_refl _) _ D _ _ (by omega) hK' rfl rfl)⟩
  case stop =>
    rintro D c pre W hD _ h _
    exact h.elim
end Go.Proofs.Ytdnhmlpjohojdaa.Adm
/-
  A store into a block that is the walk's own: the world behind it as a letter.
-/
namespace Go.Proofs.Ytdnhmlpjohojdaa.Line
open Go.RowKit Go.Proofs.YtdnhmlpjohojdaaW.PrintWords
variable {P : Program} {ops : Array Oper} {rest : List Oper} {o : Oper} {a : Act} {Q : Exit → Act → World → Prop}
/-- A store into a block that is the walk's own: the world behind it as a letter. -/
theorem put_own {W : World} (hgd : o.guard = none) (hN : o.dst = none) (t : TypeId) (p x : Operand) (ho : o.op = .store t p x) (g j : Nat) (haddr : a.eval p = .pointer (some ⟨g, j, none⟩)) (u : Value) (hx : a.eval x = u)
    (cur cur2 : Array Value) (e : TypeId) (hh : W.heap[g]? = some (.cells cur e (0, 0))) (hfit : j + u.cells.toList.length ≤ cur.size) (ht : (P.info? t).map (·.size) = some u.cells.toList.length) (h1 : u.cells.toList.all (·.oneCell') = true)
    (hcur : cur2.toList = cur.toList.take j ++ u.cells.toList ++ cur.toList.drop (j + u.cells.toList.length))
    (h : ∀ w', w'.heap[g]? = some (.cells cur2 e (0, 0)) → W.grownBy w' (some g) → wpList P ops Q rest a w') : wpList P ops Q (o :: rest) a W := by
  refine wpList_plain hgd fun K hK => ?_
  have hrun := run_store_run (P := P) (o := j) t u u.cells.toList hh rfl ht hfit (fun q hq => List.all_eq_true.1 h1 q hq)
  obtain ⟨cur', hc1, hc2, hc3⟩ := setCells_row u.cells.toList j W cur hh hfit
  have hce : cur' = cur2 := by
    have := hc3.trans hcur.symm
    cases cur'; cases cur2; simpa using this
  subst hce
  obtain ⟨s1, s2, s3, s4⟩ := setCells_same g u.cells.toList j W
  unfold Oper.wp execOp
  simp only [ho, haddr, hx, Sem.run_bind, Sem.run_pure, Result.andThen_ok, hrun]
  show K (a.put o.dst undef) _
  rw [hN]
  exact hK a _ (h _ hc1 ⟨s1, s2, s3, Nat.le_of_eq s4.symm, fun k _ hne => setCells_far _ _ k (fun hk => hne (by rw [hk]))⟩)
end Go.Proofs.Ytdnhmlpjohojdaa.Line
/-
  conf.Take: by its contract.
-/
namespace Go.Proofs.Ytdnhmlpjohojdaa.Adm
open Go.RowKit Go.Proofs.Ytdnhmlpjohojdaa.Tab Go.Proofs.Ytdnhmlpjohojdaa.R Go.Proofs.Ytdnhmlpjohojdaa.Tk Go.Proofs.Ytdnhmlpjohojdaa.Span Go.Proofs.YtdnhmlpjohojdaaW.PrintWords Go.Proofs.YtdnhmlpjohojdaaW.PrintLast Go.Proofs.YtdnhmlpjohojdaaW.PrintMore
/-- What is taken in k rounds, and how the reader is. -/
def rounds (b : ByteArray) : Nat → List Int × Nat × Int
  | 0 => ([], 0, 0)
  | k + 1 => ((rounds b k).1 ++ [(stI b 1048576 (rounds b k).2.1 (rounds b k).2.2).1], (stI b 1048576 (rounds b k).2.1 (rounds b k).2.2).2.1, (stI b 1048576 (rounds b k).2.1 (rounds b k).2.2).2.2)
theorem rounds_len (b : ByteArray) : ∀ k, (rounds b k).1.length = k
  | 0 => rfl
  | k + 1 => by simp [rounds, rounds_len b k]
theorem rounds_le (b : ByteArray) : ∀ k, (rounds b k).2.1 ≤ b.size
  | 0 => Nat.zero_le _
  | k + 1 => stI_le (rounds_le b k)
def vOf (l : List Int) : Fin 9 → Int := fun x => l.getD x.1 0
/-- The configuration that bytes are, and what is wrong with them. -/
def confT (b : ByteArray) : (Fin 9 → Int) × Int :=
  if dn b (rounds b 9).2.1 (rounds b 9).2.2 = 0 then (ofV (vOf (rounds b 9).1), errB (okB (vOf (rounds b 9).1))) else (nine0, 1)
theorem R_reader {w w' : World} {p : Nat} {b : ByteArray} {i : Nat} {e : Int} {base : Nat} {v : Value} {l : List Int} (h : Kd.R (Kd.int .i64) 3 w base (fun _ => True) v l) (hr : RdAt w p b i e) (hg : w.grownBy w' (some p)) : Kd.R (Kd.int .i64) 3 w' base (fun _ => True) v l :=
  Kd.R_mono (Kd.R_grown (Kd.R_types h hr.box (by intro q hq; rcases List.mem_cons.1 hq with rfl | hq; · decide
                                                 · cases hq)) hg (fun k hk e => hk.2 (Option.some.inj e))) (fun k hk => hk.1)
def zs9 : Array Value := #[.int .i64 0, .int .i64 0, .int .i64 0, .int .i64 0, .int .i64 0, .int .i64 0, .int .i64 0, .int .i64 0, .int .i64 0]
theorem inf24' : (Try.prog.info? 24).map (·.size) = some 9 := by kernel_rfl
set_option maxRecDepth 100000 in
set_option maxHeartbeats 2000000 in
theorem CTake_ (b : ByteArray) (hm : b.size ≤ 9223372036854775807) (w : World) : Calls Try.prog 37 #[.string b] w fun e w' => e = .returned (.tuple #[.agg (cells9 (confT b).1), .int .i64 (confT b).2]) ∧ Below w.heap.size w w' := by
  have HM := Lib.hid hm
  clear hm
  obtain ⟨ct, hct⟩ : ∃ ct, confT b = ct := ⟨_, rfl⟩
  rw [hct]
  have HCT := Lib.hid hct
  clear hct
  go_enter Try.func37, Try.ntmps37
  go_wp2_with fail
  have hb0 : Below w.heap.size w (w.alloc (.cells zs9 24)) := (Below.refl _ _).alloc (Nat.le_refl _) _
  have hg0 : (w.alloc (.cells zs9 24)).heap[w.heap.size]? = some (.cells zs9 24 (0, 0)) := heap_alloc_last _ _
  simp only [zs9] at hb0 hg0
  generalize w.alloc (.cells #[.int .i64 0, .int .i64 0, .int .i64 0, .int .i64 0, .int .i64 0, .int .i64 0, .int .i64 0, .int .i64 0, .int .i64 0] 24) = W0 at *
  refine (Read_ b W0).mono ?_
  rintro e w1 ⟨rfl, hr, hb⟩
  have hp : w.heap.size < W0.heap.size := blk_lt hg0
  generalize hpe : W0.heap.size = p at *
  have HB1 := Lib.hid (hb0.trans (hb.mono (by omega)))
  have hg1 := (hb.block _ (by omega)).trans hg0
  have HG1 := Lib.hid hg1
  have HR1 := Lib.hid hr
  obtain ⟨g, hge⟩ : ∃ g, g = w.heap.size := ⟨_, rfl⟩
  have HP := Lib.hid (show w.heap.size ≤ p by omega)
  rw [← hge] at HG1 ⊢
  have HGE := Lib.hid hge
  clear hb hb0 hg0 hg1 hr hpe hp hge
  go_wp2_with fail
  go_loopw [5, 8] (fun v5 v8 wr => ∃ k : Nat, k ≤ 9 ∧ v8 = .int .i64 k ∧ Hid (Kd.R (Kd.int .i64) 3 wr w.heap.size (fun _ => True) v5 (rounds b k).1 ∧ RdAt wr p b (rounds b k).2.1 (rounds b k).2.2 ∧ wr.heap[g]? = some (.cells zs9 24 (0, 0)) ∧ Below w.heap.size w wr)) (fun _ v8 _ => 9 - (intOf v8).toNat)
  case atStart => exact ⟨0, Nat.zero_le _, rfl, Lib.hid ⟨Kd.R_nil _ _ _ _ _, HR1.out, HG1.out, HB1.out⟩⟩
  case round =>
    clear HR1 HG1 HB1
    obtain ⟨k, hk, rfl, HI⟩ := hrel
    by_cases hlt : k < 9
    · have hx0 : (0 : Int) ≤ (k : Int) := by omega
      have hx1 : (k : Int) < 9 := by omega
      have HS := Lib.hid (show rounds b (k + 1) = ((rounds b k).1 ++ [(stI b 1048576 (rounds b k).2.1 (rounds b k).2.2).1], (stI b 1048576 (rounds b k).2.1 (rounds b k).2.2).2.1, (stI b 1048576 (rounds b k).2.1 (rounds b k).2.2).2.2) from rfl)
      have HL := Lib.hid (rounds_len b k)
      have HIT := Lib.hid (Int_ HI.out.2.1 (rounds_le b k) HM.out 1048576 (by omega) (by omega))
      generalize stI b 1048576 (rounds b k).2.1 (rounds b k).2.2 = st at *
      generalize rounds b k = rk at *
      obtain ⟨l, i, e⟩ := rk
      obtain ⟨x, i', e'⟩ := st
      simp only at HS HL HIT HI
      go_wp2_with fail
      refine HIT.out.mono ?_
      rintro e1 w1 ⟨rfl, h1, h2⟩
      have HR2 := Lib.hid (R_reader HI.out.1 HI.out.2.1 h2)
      have HG2 := Lib.hid ((blk_grown HI.out.2.2.1 h2 (fun e => by injection e with e; have := HP.out; have := HGE.out; have := blk_ne HI.out.2.2.1 HI.out.2.1.box (by decide); omega)))
      have HB2 := Lib.hid (HI.out.2.2.2.grown h2 HI.out.2.2.2.size (fun k e => by injection e with e; have := HP.out; omega))
      have H1 := Lib.hid h1
      have hs : w.heap.size ≤ w1.heap.size := HB2.out.size
      clear h1 h2 HIT HI
      have hroom : (l.length + 1) * 8 ≤ 140737488355328 := by have := HL.out; omega
      have hs1 : 0 < (Kd.int .i64).sz := Nat.zero_lt_one
      have hb8 : 0 < 8 := by decide
      go_wp2_with (first
        | (refine Line.Stop.at (some 14) (.call { callee := .builtin .append, args := #[.tmp 10, .tmp 13], argTypes := #[57, 57] }) ?_))
      constructor
      refine Kd.R_append (Kd.int .i64) (w0 := w) w.heap.size ?a1 (.tmp 10) (.tmp 13) 57 3 (.int .i64 0) 8 ?a2 ?a3 ?a4 ?a5 ?a6 ?a7 u5 l x [.int .i64 x] (fun _ => True) (fun _ => False) ?a8 ?a9 ?aP ?aK ?aF ?aO ?aB ?aS ?aL ?_
      case a1 => rfl
      case a2 => rfl
      case a3 => exact Try.underlying57
      case a4 => exact info3
      case a5 => rfl
      case a6 => exact hs1
      case a7 => exact hb8
      case a8 => rfl
      case a9 => rfl
      case aP => rfl
      case aK => exact fun _ hk => hk.elim
      case aF => exact fun _ _ => trivial
      case aO => exact HR2.out
      case aB => exact HB2.out
      case aS => exact HB2.out.size
      case aL => exact hroom
      intro v1 w3 ho1 hb1 hg1 hat1
      have HO := Lib.hid ho1
      have HB3 := Lib.hid hb1
      have HG3 := Lib.hid (blk_grown HG2.out hg1 (Kd.R_ne HR2.out HG2.out (by decide)))
      have H3 := Lib.hid (RdAt.mk (blk_grown H1.out.box hg1 (Kd.R_ne HR2.out H1.out.box (by decide))))
      clear ho1 hb1 hg1 hat1
      go_wp2_with fail
      go_roundw
      case rel =>
        refine ⟨k + 1, by omega, by go_num, Lib.hid ?_⟩
        rw [HS.out]
        exact ⟨HO.out, H3.out, HG3.out, HB3.out⟩
      case measure => simp [intOf]; omega
    · obtain rfl : k = 9 := by omega
      have HL := Lib.hid (rounds_len b 9)
      have hle := rounds_le b 9
      have HC := Lib.hid (show confT b = if dn b (rounds b 9).2.1 (rounds b 9).2.2 = 0 then (ofV (vOf (rounds b 9).1), errB (okB (vOf (rounds b 9).1))) else (nine0, 1) from rfl)
      generalize rounds b 9 = r9 at *
      obtain ⟨l, i, e⟩ := r9
      simp only at HI HL HC hle
      obtain ⟨g', cap, hv, hg1, hg2, cur, hcur⟩ := Kd.R_form HI.out.1 (by rw [HL.out]; decide)
      rw [HL.out] at hv
      have hcap : 9 ≤ cap := by
        have := Kd.R_reads HI.out.1
        obtain ⟨A, c, e1, e2, _⟩ := this
        rw [hv] at e1
        injection e1 with _ _ e1
        rw [HL.out] at e2
        omega
      have hcell : ∀ x : Fin 9, wr.cell? ⟨g', x.1, none⟩ = some (.int .i64 (vOf l x)) := fun x => by
        have h1 := HI.out.1
        rw [hv] at h1
        have h2 : Kd.R (Kd.int .i64) 3 wr w.heap.size (fun _ => True) (.slice (some ⟨g', 0, none⟩) l.length cap) l := by rw [HL.out]; exact h1
        have h3 := (Kd.R_cell (0 : Int) h2 (x.1 : Int) (by omega) (by have := HL.out; have := x.2; omega)).1
        rw [Int.toNat_natCast] at h3
        exact h3
      have hgne : g' ≠ g := fun e => by subst e; have h1 := hcur.symm.trans HI.out.2.2.1; injection h1 with h1; injection h1 with _ h1; exact absurd h1 (by decide)
      subst hv
      have HX := Lib.hid hcell
      have HD := Lib.hid (Done_ HI.out.2.1 hle)
      have HGE2 := Lib.hid hgne
      clear hcell hcur hgne hg1 hle
      by_cases hd : dn b i e = 0
      · rw [hd] at HD
        rw [if_pos hd] at HC
        have HOF := Lib.hid (fun W h => Of_ (vOf l) g' cap W h hcap)
        rw [HCT.out] at HC
        clear hd
        generalize ofV (vOf l) = f at *
        generalize errB (okB (vOf l)) = er at *
        go_wp2_with fail
        refine HD.out.mono ?_
        rintro e1 w2 ⟨rfl, n, rfl⟩
        go_wp2_with fail
        refine (HOF.out _ (fun x => (World.cell?_drewN _ _ _).trans (HX.out x))).mono ?_
        rintro e2 w3 ⟨rfl, hb⟩
        have HB3 := Lib.hid (HI.out.2.2.2.trans ((pw_below_drewN (Below.refl _ _) n).trans (hb.mono HI.out.2.2.2.size)))
        have HG3 := Lib.hid (blk_below (blk_drewN HI.out.2.2.1 n) hb)
        clear hb HOF HD
        go_wp2_with (first
          | (refine Line.Stop.at none (.store 24 (.tmp 2) (.tmp 22)) ?_))
        constructor
        refine Line.put_own rfl rfl 24 (.tmp 2) (.tmp 22) rfl g 0 rfl (.agg (cells9 f)) rfl zs9 (cells9 f) 24 HG3.out (by simp [zs9, Value.cells]) inf24' (by simp [Value.cells, Value.oneCell']) (by simp [Value.cells, zs9]) ?_
        intro w4 h4 g4
        have HB4 := Lib.hid (HB3.out.grown g4 HB3.out.size (fun k e => by injection e with e; have := HGE.out; omega))
        have H4 := Lib.hid h4
        clear h4 g4
        go_wp2_with fail
        exact bodyPost_ret (results_ct rfl _ _ g 24 (cells9 f) (0, 0) _ rfl H4.out Try.underlying24 rfl inf24') rfl ⟨by rw [HC.out]; rfl, HB4.out⟩
      · have hd1 : (dn b i e != 0) = true := bne_iff_ne.2 hd
        have hd2 : (dn b i e == 0) = false := beq_eq_false_iff_ne.2 hd
        have hd3 : decide (dn b i e = 0) = false := decide_eq_false hd
        rw [if_neg hd] at HC
        rw [HCT.out] at HC
        clear hd
        generalize dn b i e = d at *
        go_wp2_with fail
        refine HD.out.mono ?_
        rintro e1 w2 ⟨rfl, n, rfl⟩
        have HB3 := Lib.hid (HI.out.2.2.2.trans ((pw_below_drewN (Below.refl _ _) n).mono HI.out.2.2.2.size))
        have HG3 := Lib.hid (blk_drewN HI.out.2.2.1 n)
        clear HD
        go_wp2_with (first
          | (refine Line.Stop.at none (.store 24 (.tmp 2) (.tmp 19)) ?_))
        constructor
        refine Line.put_own rfl rfl 24 (.tmp 2) (.tmp 19) rfl g 0 rfl (.agg (cells9 nine0)) rfl zs9 (cells9 nine0) 24 HG3.out (by simp [zs9, Value.cells]) inf24' (by simp [Value.cells, Value.oneCell']) (by simp [Value.cells, zs9]) ?_
        intro w4 h4 g4
        have HB4 := Lib.hid (HB3.out.grown g4 HB3.out.size (fun k e => by injection e with e; have := HGE.out; omega))
        have H4 := Lib.hid h4
        clear h4 g4
        go_wp2_with fail
        exact bodyPost_ret (results_ct rfl _ _ g 24 (cells9 nine0) (0, 0) _ rfl H4.out Try.underlying24 rfl inf24') rfl ⟨by rw [HC.out]; rfl, HB4.out⟩
end Go.Proofs.Ytdnhmlpjohojdaa.Adm
/-
  admin.Take: by its contract.
-/
namespace Go.Proofs.Ytdnhmlpjohojdaa.Adm
open Go.RowKit Go.Proofs.Ytdnhmlpjohojdaa.Tab Go.Proofs.Ytdnhmlpjohojdaa.R Go.Proofs.Ytdnhmlpjohojdaa.Tk Go.Proofs.Ytdnhmlpjohojdaa.Span Go.Proofs.YtdnhmlpjohojdaaW.PrintWords Go.Proofs.YtdnhmlpjohojdaaW.PrintLast Go.Proofs.YtdnhmlpjohojdaaW.PrintMore
def zeroO : Order := ⟨0, 0, 0, nine0⟩
def finO (o : Order) : Order × Int := if formB o then (o, 0) else (zeroO, 1)
/-- The order that bytes are, and what is wrong with them. -/
def takeAt (d : Int) (id op ow : Int) (rest : ByteArray) : Order × Int :=
  if d = 0 then
    if op = 1 ∨ op = 6 then (if (confT rest).2 = 0 then finO ⟨id, op, ow, (confT rest).1⟩ else (zeroO, 1))
    else if rest.toList = ([] : List UInt8) then finO ⟨id, op, ow, nine0⟩ else (zeroO, 1)
  else (zeroO, 1)
def s1 (b : ByteArray) : Int × Nat × Int := stN b 0 0
def s2 (b : ByteArray) : Int × Nat × Int := stI b 6 (s1 b).2.1 (s1 b).2.2
def s3 (b : ByteArray) : Int × Nat × Int := stI b 8 (s2 b).2.1 (s2 b).2.2
def s4 (b : ByteArray) : ByteArray × Nat × Int := stR b (s3 b).2.1 (s3 b).2.2
def takeO (b : ByteArray) : Order × Int := takeAt (dn b (s4 b).2.1 (s4 b).2.2) (s1 b).1 (s2 b).1 (s3 b).1 (s4 b).1
abbrev Bk1 := Nat × Array Value × TypeId
/-- A reader, and blocks of the walk's own. -/
structure At (w W : World) (p : Nat) (b : ByteArray) (i : Nat) (e : Int) (bl : List Bk1) : Prop where
  rd : RdAt W p b i e
  hp : w.heap.size ≤ p
  below : Below w.heap.size w W
  keep : ∀ x ∈ bl, W.heap[x.1]? = some (.cells x.2.1 x.2.2 (0, 0)) ∧ x.1 ≠ p ∧ w.heap.size ≤ x.1
section
variable {w W W' : World} {p : Nat} {b : ByteArray} {i i' : Nat} {e e' : Int} {bl bl' : List Bk1}
theorem At.post (h : At w W p b i e bl) (r : RdAt W' p b i' e') (g : W.grownBy W' (some p)) : At w W' p b i' e' bl :=
  ⟨r, h.hp, h.below.grown g h.below.size (fun k e => by injection e with e; have := h.hp; omega), fun x hx => ⟨blk_grown (h.keep x hx).1 g (fun e => (h.keep x hx).2.1 (Option.some.inj e)), (h.keep x hx).2⟩⟩
theorem At.move (h : At w W p b i e bl) (hb : Below W.heap.size W W') : At w W' p b i e bl :=
  ⟨h.rd.below hb, h.hp, h.below.trans (hb.mono h.below.size), fun x hx => ⟨blk_below (h.keep x hx).1 hb, (h.keep x hx).2⟩⟩
theorem At.push (h : At w W p b i e bl) (cs : Array Value) (t : TypeId) : At w (W.alloc (.cells cs t)) p b i e ((W.heap.size, cs, t) :: bl) := by
  have h' := h.move ((Below.refl _ _).alloc (Nat.le_refl _) (.cells cs t))
  refine ⟨h'.rd, h'.hp, h'.below, fun x hx => ?_⟩
  rcases List.mem_cons.1 hx with rfl | hx
  · exact ⟨heap_alloc_last _ _, by have := blk_lt h.rd.box; show W.heap.size ≠ p; omega, h.below.size⟩
  · exact h'.keep x hx
theorem At.put (h : At w W p b i e bl) {q : Nat} {cs cs' : Array Value} {t : TypeId} (hm : (q, cs, t) ∈ bl) (hq : W'.heap[q]? = some (.cells cs' t (0, 0))) (g : W.grownBy W' (some q)) (hs : ∀ x ∈ bl', x ∈ bl ∧ x.1 ≠ q) : At w W' p b i e ((q, cs', t) :: bl') := by
  have hk := h.keep _ hm
  refine ⟨⟨blk_grown h.rd.box g (fun e => hk.2.1 (Option.some.inj e).symm)⟩, h.hp, h.below.grown g h.below.size (fun k e => by injection e with e; have := hk.2.2; simp only at this; omega), fun x hx => ?_⟩
  rcases List.mem_cons.1 hx with rfl | hx
  · exact ⟨hq, hk.2⟩
  · exact ⟨blk_grown (h.keep x (hs x hx).1).1 g (fun e => (hs x hx).2 (Option.some.inj e)), (h.keep x (hs x hx).1).2⟩
end
theorem inf30' : (Try.prog.info? 30).map (·.size) = some 12 := by kernel_rfl
def zs12 : Array Value := #[.int .u64 0, .int .i64 0, .int .i64 0, .int .i64 0, .int .i64 0, .int .i64 0, .int .i64 0, .int .i64 0, .int .i64 0, .int .i64 0, .int .i64 0, .int .i64 0]
theorem zs12_is : zs12 = cells12 zeroO := rfl
set_option maxRecDepth 100000 in
set_option maxHeartbeats 4000000 in
theorem Take_ (b : ByteArray) (hm : b.size ≤ 9223372036854775807) (w : World) : Calls Try.prog 11 #[.string b] w fun e w' => e = .returned (.tuple #[ordV (takeO b).1, .int .i64 (takeO b).2]) ∧ Below w.heap.size w w' := by
  have l1 : (s1 b).2.1 ≤ b.size := stN_le (Nat.zero_le _)
  have l2 : (s2 b).2.1 ≤ b.size := stI_le l1
  have l3 : (s3 b).2.1 ≤ b.size := stI_le l2
  have l4 : (s4 b).2.1 ≤ b.size := stR_le l3
  have n1 : ∀ W p, RdAt W p b 0 0 → Calls Try.prog 33 #[.pointer (some ⟨p, 0, none⟩)] W (RdPost W p b (.int .u64 (s1 b).1) (s1 b).2.1 (s1 b).2.2) := fun W p h => Num_ h (Nat.zero_le _) hm
  have n2 : ∀ W p, RdAt W p b (s1 b).2.1 (s1 b).2.2 → Calls Try.prog 34 #[.pointer (some ⟨p, 0, none⟩), .int .i64 6] W (RdPost W p b (.int .i64 (s2 b).1) (s2 b).2.1 (s2 b).2.2) := fun W p h => Int_ h l1 hm 6 (by omega) (by omega)
  have n3 : ∀ W p, RdAt W p b (s2 b).2.1 (s2 b).2.2 → Calls Try.prog 34 #[.pointer (some ⟨p, 0, none⟩), .int .i64 8] W (RdPost W p b (.int .i64 (s3 b).1) (s3 b).2.1 (s3 b).2.2) := fun W p h => Int_ h l2 hm 8 (by omega) (by omega)
  have n4 : ∀ W p, RdAt W p b (s3 b).2.1 (s3 b).2.2 → Calls Try.prog 35 #[.pointer (some ⟨p, 0, none⟩)] W (RdPost W p b (.string (s4 b).1) (s4 b).2.1 (s4 b).2.2) := fun W p h => Rest_ h l3 hm
  have n5 : ∀ W p, RdAt W p b (s4 b).2.1 (s4 b).2.2 → Calls Try.prog 36 #[.pointer (some ⟨p, 0, none⟩)] W fun e' w' => e' = .returned (.int .i64 (dn b (s4 b).2.1 (s4 b).2.2)) ∧ ∃ n, w' = W.drewN n := fun W p h => Done_ h l4
  have N1 := Lib.hid n1
  have N2 := Lib.hid n2
  have N3 := Lib.hid n3
  have N4 := Lib.hid n4
  have N5 := Lib.hid n5
  clear n1 n2 n3 n4 n5
  have hr : (s4 b).1.size ≤ 9223372036854775807 := by
    unfold s4 stR
    split
    · show (b.extract _ _).size ≤ _
      rw [ext_size b _ l3]
      omega
    · show (⟨#[]⟩ : ByteArray).size ≤ _
      simp [ByteArray.size]
  have N6 := Lib.hid (fun W => CTake_ (s4 b).1 hr W)
  obtain ⟨rs, hrs⟩ : ∃ rs, takeO b = rs := ⟨_, rfl⟩
  rw [hrs]
  have HRS := Lib.hid (show takeAt (dn b (s4 b).2.1 (s4 b).2.2) (s1 b).1 (s2 b).1 (s3 b).1 (s4 b).1 = rs from hrs)
  clear l1 l2 l3 l4 hr hrs hm
  generalize s1 b = q1 at *
  generalize s2 b = q2 at *
  generalize s3 b = q3 at *
  generalize s4 b = q4 at *
  obtain ⟨id, i1, e1⟩ := q1
  obtain ⟨op, i2, e2⟩ := q2
  obtain ⟨ow, i3, e3⟩ := q3
  obtain ⟨rest, i4, e4⟩ := q4
  simp only at N1 N2 N3 N4 N5 N6 HRS
  generalize hd : dn b i4 e4 = d at *
  clear hd
  unfold takeAt at HRS
  generalize confT rest = ct at *
  go_enter Try.func11, Try.ntmps11
  go_wp2_with fail
  have hb0 : Below w.heap.size w (w.alloc (.cells zs12 30)) := (Below.refl _ _).alloc (Nat.le_refl _) _
  have hg0 : (w.alloc (.cells zs12 30)).heap[w.heap.size]? = some (.cells zs12 30 (0, 0)) := heap_alloc_last _ _
  simp only [zs12] at hb0 hg0
  generalize w.alloc (.cells #[.int .u64 0, .int .i64 0, .int .i64 0, .int .i64 0, .int .i64 0, .int .i64 0, .int .i64 0, .int .i64 0, .int .i64 0, .int .i64 0, .int .i64 0, .int .i64 0] 30) = W0 at *
  refine (Read_ b W0).mono ?_
  rintro e w1 ⟨rfl, hr, hb⟩
  have hlt : w.heap.size < W0.heap.size := blk_lt hg0
  generalize W0.heap.size = p at *
  obtain ⟨g, hge⟩ : ∃ g, g = w.heap.size := ⟨_, rfl⟩
  have hA : At w w1 p b 0 0 [(g, zs12, 30)] := ⟨hr, by omega, hb0.trans (hb.mono (by omega)), fun x hx => by
    rcases List.mem_cons.1 hx with rfl | hx
    · rw [hge]
      exact ⟨(hb.block _ (by omega)).trans hg0, by show w.heap.size ≠ p; omega, Nat.le_refl _⟩
    · cases hx⟩
  rw [← hge] at hlt ⊢
  have HGE := Lib.hid hge
  have HA := Lib.hid hA
  have HLT := Lib.hid hlt
  clear hge hA hr hb hb0 hg0 hlt
  go_wp2_with fail
  refine (N1.out _ _ HA.out.rd).mono ?_
  rintro e w2 ⟨rfl, h1, h2⟩
  replace HA := Lib.hid (HA.out.post h1 h2)
  clear h1 h2 N1
  go_wp2_with fail
  refine (N2.out _ _ HA.out.rd).mono ?_
  rintro e w3 ⟨rfl, h1, h2⟩
  replace HA := Lib.hid (HA.out.post h1 h2)
  clear h1 h2 N2
  go_wp2_with fail
  refine (N3.out _ _ HA.out.rd).mono ?_
  rintro e w4 ⟨rfl, h1, h2⟩
  replace HA := Lib.hid (HA.out.post h1 h2)
  clear h1 h2 N3
  go_wp2_with (first
    | (refine Line.Stop.at none (.store 30 (.tmp 5) (.tmp 17)) ?_))
  constructor
  have hA := HA.out.push zs12 30
  have hpw := blk_lt HA.out.rd.box
  refine Line.put_own rfl rfl 30 (.tmp 5) (.tmp 17) rfl w4.heap.size 0 rfl (ordV ⟨id, op, ow, nine0⟩) rfl zs12 (cells12 ⟨id, op, ow, nine0⟩) 30 (heap_alloc_last _ _) (by simp [zs12, Value.cells]) inf30' (by simp [Value.cells, Value.oneCell']) (by simp [Value.cells, zs12]) ?_
  intro w5 h5 g5
  have hG := HLT.out
  have hA5 := hA.put (bl' := [(g, zs12, 30)]) (.head _) h5 g5 (fun x hx => by
    rcases List.mem_cons.1 hx with rfl | hx
    · exact ⟨.tail _ (.head _), by show g ≠ w4.heap.size; omega⟩
    · cases hx)
  generalize w4.heap.size = k5 at *
  have HPW := Lib.hid hpw
  replace HA := Lib.hid hA5
  clear h5 g5 hG hA hA5 hpw
  go_wp2_with fail
  refine (N4.out _ _ HA.out.rd).mono ?_
  rintro e w6 ⟨rfl, h1, h2⟩
  replace HA := Lib.hid (HA.out.post h1 h2)
  clear h1 h2 N4
  go_wp2_with fail
  refine (N5.out _ _ HA.out.rd).mono ?_
  rintro e w7' ⟨rfl, n7, rfl⟩
  replace HA := Lib.hid (HA.out.move (pw_below_drewN (Below.refl _ _) n7))
  generalize w6.drewN n7 = w7 at *
  clear N5
  by_cases hd : d = 0
  · subst hd
    rw [if_pos rfl] at HRS
    have c1 : w7.cell? ⟨k5, 1, none⟩ = some (.int .i64 op) := blk_cell (HA.out.keep _ (.head _)).1 1
    by_cases hop : op = 1 ∨ op = 6
    · rw [if_pos hop] at HRS
      have HC := Lib.hid (configures_yes op hop)
      clear hop
      obtain ⟨cv, ce⟩ := ct
      simp only at HRS N6
      go_wp2_with fail
      refine (HC.out _).mono ?_
      rintro e w8 ⟨rfl, rfl⟩
      clear c1 HC
      go_wp2_with fail
      refine (N6.out _).mono ?_
      rintro e w8 ⟨rfl, hb⟩
      replace HA := Lib.hid (HA.out.move hb)
      clear hb N6
      go_wp2_with (first
        | (refine Line.Stop.at none (.store 24 (.tmp 7) (.tmp 31)) ?_))
      constructor
      have hA := HA.out.push zs9 24
      have hlt8 := blk_lt (HA.out.keep _ (.head _)).1
      have hlt9 := blk_lt (HA.out.keep _ (.tail _ (.head _))).1
      refine Line.put_own rfl rfl 24 (.tmp 7) (.tmp 31) rfl w8.heap.size 0 rfl (.agg (cells9 cv)) rfl zs9 (cells9 cv) 24 (heap_alloc_last _ _) (by simp [zs9, Value.cells]) inf24' (by simp [Value.cells, Value.oneCell']) (by simp [Value.cells, zs9]) ?_
      intro w9 h9 g9
      have hA9 := hA.put (bl' := [(k5, cells12 ⟨id, op, ow, nine0⟩, 30), (g, zs12, 30)]) (.head _) h9 g9 (fun x hx => by
        rcases List.mem_cons.1 hx with rfl | hx
        · exact ⟨.tail _ (.head _), by show k5 ≠ w8.heap.size; simp only at hlt8; omega⟩
        · rcases List.mem_cons.1 hx with rfl | hx
          · exact ⟨.tail _ (.tail _ (.head _)), by show g ≠ w8.heap.size; simp only at hlt9; omega⟩
          · cases hx)
      have hk7 : k5 ≠ w8.heap.size := by simp only at hlt8; omega
      generalize w8.heap.size = k7 at *
      have HK7 := Lib.hid hk7
      replace HA := Lib.hid hA9
      clear hA hA9 h9 g9 hlt8 hlt9 hk7
      by_cases hce : ce = 0
      · subst hce
        rw [if_pos rfl] at HRS
        have c7 : ∀ k, w9.cell? ⟨k7, k, none⟩ = (cells9 cv)[k]? := fun k => blk_cell (HA.out.keep _ (.head _)).1 k
        simp only [cells9] at c7
        go_wp2_with (first
          | (refine Line.Stop.at none (.store 24 (.tmp 37) (.tmp 36)) ?_))
        constructor
        refine Line.put_own rfl rfl 24 (.tmp 37) (.tmp 36) rfl k5 3 rfl (.agg (cells9 cv)) rfl (cells12 ⟨id, op, ow, nine0⟩) (cells12 ⟨id, op, ow, cv⟩) 30 (HA.out.keep _ (.tail _ (.head _))).1 (by simp [Value.cells]) inf24' (by simp [Value.cells, Value.oneCell']) (by simp [Value.cells]) ?_
        intro w10 h10 g10
        have hA10 := HA.out.put (bl' := [(g, zs12, 30)]) (.tail _ (.head _)) h10 g10 (fun x hx => by
          rcases List.mem_cons.1 hx with rfl | hx
          · exact ⟨.tail _ (.tail _ (.head _)), by show g ≠ k5; have := HLT.out; have := HPW.out; omega⟩
          · cases hx)
        replace HA := Lib.hid hA10
        clear hA10 h10 g10 c7
        have HF := Lib.hid (form_ ⟨id, op, ow, cv⟩)
        have c5 : ∀ k, w10.cell? ⟨k5, k, none⟩ = (cells12 ⟨id, op, ow, cv⟩)[k]? := fun k => blk_cell (HA.out.keep _ (.head _)).1 k
        simp only [cells12, ordV] at c5 HF
        cases hf : formB ⟨id, op, ow, cv⟩
        · rw [hf] at HF
          have hfin : finO ⟨id, op, ow, cv⟩ = (zeroO, 1) := by unfold finO; rw [hf]; rfl
          rw [hfin] at HRS
          clear hfin hf
          unfold errB at HF
          go_wp2_with fail
          refine (HF.out _).mono ?_
          rintro e w19 ⟨rfl, hb⟩
          replace HA := Lib.hid (HA.out.move hb)
          clear hb HF c5
          go_wp2_with (first
            | (refine Line.Stop.at none (.store 30 (.tmp 2) (.tmp 45)) ?_))
          constructor
          refine Line.put_own rfl rfl 30 (.tmp 2) (.tmp 45) rfl g 0 rfl (ordV zeroO) rfl zs12 (cells12 zeroO) 30 (HA.out.keep _ (.tail _ (.head _))).1 (by simp [zs12, Value.cells]) inf30' (by simp [Value.cells, Value.oneCell']) (by simp [Value.cells, zs12]) ?_
          intro w20 h20 g20
          have HB20 := Lib.hid (HA.out.below.grown g20 HA.out.below.size (fun k e => by injection e with e; have := HGE.out; omega))
          have H20 := Lib.hid h20
          clear h20 g20
          go_wp2_with fail
          exact bodyPost_ret (results_ct rfl _ _ g 30 (cells12 zeroO) (0, 0) _ rfl H20.out Try.underlying30 rfl inf30') rfl ⟨by rw [← HRS.out]; rfl, HB20.out⟩
        · rw [hf] at HF
          have hfin : finO ⟨id, op, ow, cv⟩ = (⟨id, op, ow, cv⟩, 0) := by unfold finO; rw [hf]; rfl
          rw [hfin] at HRS
          clear hfin hf
          unfold errB at HF
          go_wp2_with fail
          refine (HF.out _).mono ?_
          rintro e w19 ⟨rfl, hb⟩
          replace HA := Lib.hid (HA.out.move hb)
          have c6 : ∀ k, w19.cell? ⟨k5, k, none⟩ = (cells12 ⟨id, op, ow, cv⟩)[k]? := fun k => blk_cell (HA.out.keep _ (.head _)).1 k
          simp only [cells12] at c6
          clear hb HF c5
          go_wp2_with (first
            | (refine Line.Stop.at none (.store 30 (.tmp 2) (.tmp 46)) ?_))
          constructor
          refine Line.put_own rfl rfl 30 (.tmp 2) (.tmp 46) rfl g 0 rfl (ordV ⟨id, op, ow, cv⟩) rfl zs12 (cells12 ⟨id, op, ow, cv⟩) 30 (HA.out.keep _ (.tail _ (.head _))).1 (by simp [zs12, Value.cells]) inf30' (by simp [Value.cells, Value.oneCell']) (by simp [Value.cells, zs12]) ?_
          intro w20 h20 g20
          have HB20 := Lib.hid (HA.out.below.grown g20 HA.out.below.size (fun k e => by injection e with e; have := HGE.out; omega))
          have H20 := Lib.hid h20
          clear h20 g20
          go_wp2_with fail
          exact bodyPost_ret (results_ct rfl _ _ g 30 (cells12 ⟨id, op, ow, cv⟩) (0, 0) _ rfl H20.out Try.underlying30 rfl inf30') rfl ⟨by rw [← HRS.out]; rfl, HB20.out⟩
      · have k1 : (ce != 0) = true := bne_iff_ne.2 hce
        have k2 : (ce == 0) = false := beq_eq_false_iff_ne.2 hce
        have k3 : decide (ce = 0) = false := decide_eq_false hce
        rw [if_neg hce] at HRS
        go_wp2_with (first
          | (refine Line.Stop.at none (.store 30 (.tmp 2) (.tmp 35)) ?_))
        constructor
        refine Line.put_own rfl rfl 30 (.tmp 2) (.tmp 35) rfl g 0 rfl (ordV zeroO) rfl zs12 (cells12 zeroO) 30 (HA.out.keep _ (.tail _ (.tail _ (.head _)))).1 (by simp [zs12, Value.cells]) inf30' (by simp [Value.cells, Value.oneCell']) (by simp [Value.cells, zs12]) ?_
        intro w20 h20 g20
        have HB20 := Lib.hid (HA.out.below.grown g20 HA.out.below.size (fun k e => by injection e with e; have := HGE.out; omega))
        have H20 := Lib.hid h20
        clear h20 g20
        go_wp2_with fail
        exact bodyPost_ret (results_ct rfl _ _ g 30 (cells12 zeroO) (0, 0) _ rfl H20.out Try.underlying30 rfl inf30') rfl ⟨by rw [← HRS.out]; rfl, HB20.out⟩
    · rw [if_neg hop] at HRS
      have HC := Lib.hid (configures_no op hop)
      clear hop
      go_wp2_with fail
      refine (HC.out _).mono ?_
      rintro e w8 ⟨rfl, rfl⟩
      clear c1 HC N6
      by_cases hre : rest.toList = ([] : List UInt8)
      · rw [if_pos hre] at HRS
        have k1 : (!rest.toList.isEmpty) = false := by rw [hre]; rfl
        have k2 : (rest.toList != []) = false := by rw [hre]; rfl
        have k3 : (rest.toList == []) = true := by rw [hre]; rfl
        have HF := Lib.hid (form_ ⟨id, op, ow, nine0⟩)
        have c5 : ∀ k, w7.cell? ⟨k5, k, none⟩ = (cells12 ⟨id, op, ow, nine0⟩)[k]? := fun k => blk_cell (HA.out.keep _ (.head _)).1 k
        simp only [cells12, ordV] at c5 HF
        cases hf : formB ⟨id, op, ow, nine0⟩
        · rw [hf] at HF
          have hfin : finO ⟨id, op, ow, nine0⟩ = (zeroO, 1) := by unfold finO; rw [hf]; rfl
          rw [hfin] at HRS
          clear hfin hf
          unfold errB at HF
          go_wp2_with fail
          refine (HF.out _).mono ?_
          rintro e w19 ⟨rfl, hb⟩
          replace HA := Lib.hid (HA.out.move hb)
          clear hb HF c5
          go_wp2_with (first
            | (refine Line.Stop.at none (.store 30 (.tmp 2) (.tmp 45)) ?_))
          constructor
          refine Line.put_own rfl rfl 30 (.tmp 2) (.tmp 45) rfl g 0 rfl (ordV zeroO) rfl zs12 (cells12 zeroO) 30 (HA.out.keep _ (.tail _ (.head _))).1 (by simp [zs12, Value.cells]) inf30' (by simp [Value.cells, Value.oneCell']) (by simp [Value.cells, zs12]) ?_
          intro w20 h20 g20
          have HB20 := Lib.hid (HA.out.below.grown g20 HA.out.below.size (fun k e => by injection e with e; have := HGE.out; omega))
          have H20 := Lib.hid h20
          clear h20 g20
          go_wp2_with fail
          exact bodyPost_ret (results_ct rfl _ _ g 30 (cells12 zeroO) (0, 0) _ rfl H20.out Try.underlying30 rfl inf30') rfl ⟨by rw [← HRS.out]; rfl, HB20.out⟩
        · rw [hf] at HF
          have hfin : finO ⟨id, op, ow, nine0⟩ = (⟨id, op, ow, nine0⟩, 0) := by unfold finO; rw [hf]; rfl
          rw [hfin] at HRS
          clear hfin hf
          unfold errB at HF
          go_wp2_with fail
          refine (HF.out _).mono ?_
          rintro e w19 ⟨rfl, hb⟩
          replace HA := Lib.hid (HA.out.move hb)
          have c6 : ∀ k, w19.cell? ⟨k5, k, none⟩ = (cells12 ⟨id, op, ow, nine0⟩)[k]? := fun k => blk_cell (HA.out.keep _ (.head _)).1 k
          simp only [cells12] at c6
          clear hb HF c5
          go_wp2_with (first
            | (refine Line.Stop.at none (.store 30 (.tmp 2) (.tmp 46)) ?_))
          constructor
          refine Line.put_own rfl rfl 30 (.tmp 2) (.tmp 46) rfl g 0 rfl (ordV ⟨id, op, ow, nine0⟩) rfl zs12 (cells12 ⟨id, op, ow, nine0⟩) 30 (HA.out.keep _ (.tail _ (.head _))).1 (by simp [zs12, Value.cells]) inf30' (by simp [Value.cells, Value.oneCell']) (by simp [Value.cells, zs12]) ?_
          intro w20 h20 g20
          have HB20 := Lib.hid (HA.out.below.grown g20 HA.out.below.size (fun k e => by injection e with e; have := HGE.out; omega))
          have H20 := Lib.hid h20
          clear h20 g20
          go_wp2_with fail
          exact bodyPost_ret (results_ct rfl _ _ g 30 (cells12 ⟨id, op, ow, nine0⟩) (0, 0) _ rfl H20.out Try.underlying30 rfl inf30') rfl ⟨by rw [← HRS.out]; rfl, HB20.out⟩
      · rw [if_neg hre] at HRS
        have k0 : rest.toList.isEmpty = false := by cases h : rest.toList with | nil => exact absurd h hre | cons _ _ => rfl
        have k2 : (rest.toList != []) = true := bne_iff_ne.2 hre
        have k3 : (rest.toList == []) = false := beq_eq_false_iff_ne.2 hre
        go_wp2_with (first
          | (refine Line.Stop.at none (.store 30 (.tmp 2) (.tmp 41)) ?_))
        constructor
        refine Line.put_own rfl rfl 30 (.tmp 2) (.tmp 41) rfl g 0 rfl (ordV zeroO) rfl zs12 (cells12 zeroO) 30 (HA.out.keep _ (.tail _ (.head _))).1 (by simp [zs12, Value.cells]) inf30' (by simp [Value.cells, Value.oneCell']) (by simp [Value.cells, zs12]) ?_
        intro w20 h20 g20
        have HB20 := Lib.hid (HA.out.below.grown g20 HA.out.below.size (fun k e => by injection e with e; have := HGE.out; omega))
        have H20 := Lib.hid h20
        clear h20 g20
        go_wp2_with fail
        exact bodyPost_ret (results_ct rfl _ _ g 30 (cells12 zeroO) (0, 0) _ rfl H20.out Try.underlying30 rfl inf30') rfl ⟨by rw [← HRS.out]; rfl, HB20.out⟩
  · have k1 : (d != 0) = true := bne_iff_ne.2 hd
    have k2 : (d == 0) = false := beq_eq_false_iff_ne.2 hd
    have k3 : decide (d = 0) = false := decide_eq_false hd
    rw [if_neg hd] at HRS
    clear N6
    go_wp2_with (first
      | (refine Line.Stop.at none (.store 30 (.tmp 2) (.tmp 23)) ?_))
    constructor
    refine Line.put_own rfl rfl 30 (.tmp 2) (.tmp 23) rfl g 0 rfl (ordV zeroO) rfl zs12 (cells12 zeroO) 30 (HA.out.keep _ (.tail _ (.head _))).1 (by simp [zs12, Value.cells]) inf30' (by simp [Value.cells, Value.oneCell']) (by simp [Value.cells, zs12]) ?_
    intro w20 h20 g20
    have HB20 := Lib.hid (HA.out.below.grown g20 HA.out.below.size (fun k e => by injection e with e; have := HGE.out; omega))
    have H20 := Lib.hid h20
    clear h20 g20
    go_wp2_with fail
    exact bodyPost_ret (results_ct rfl _ _ g 30 (cells12 zeroO) (0, 0) _ rfl H20.out Try.underlying30 rfl inf30') rfl ⟨by rw [← HRS.out]; rfl, HB20.out⟩
end Go.Proofs.Ytdnhmlpjohojdaa.Adm
