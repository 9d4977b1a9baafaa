/-
  conf.places' iterator: nine rounds, a place each.
-/
import Derived.Test.YtdnhmlpjohojdaaConf
import Derived.Deep.MidRow
import Derived.Lib.Hide
set_option linter.unusedVariables false
set_option linter.unusedSimpArgs false
namespace Go.Proofs.Ytdnhmlpjohojdaa.Adm
open Go.RowKit Go.Shelf Go.Proofs.Ytdnhmlpjohojdaa.Tab
attribute [local go_sem] Oper.semAt_some
abbrev encP (c : Nat) (x : Fin 9) : Array Value := #[.int .i64 (x.1 : Int), placeV c x.1]
def upto9 (k : Nat) : List (Fin 9) := (List.finRange 9).take k
theorem upto9_succ (x : Fin 9) : upto9 (x.1 + 1) = upto9 x.1 ++ [x] := by
  unfold upto9
  rw [List.take_succ_eq_append_getElem (by simp)]
  simp
theorem upto9_len (x : Fin 9) : (upto9 x.1).length = x.1 := by unfold upto9; simp
theorem index9 (c : Nat) (x : Fin 9) (w : World) : (Instr.index 120 (.agg (placeCells c)) (.int .i64 (x.1 : Int))).run Try.prog w = .ok (placeV c x.1) w :=
  match x with
  | ⟨0, _⟩ => by kernel_rfl
  | ⟨1, _⟩ => by kernel_rfl
  | ⟨2, _⟩ => by kernel_rfl
  | ⟨3, _⟩ => by kernel_rfl
  | ⟨4, _⟩ => by kernel_rfl
  | ⟨5, _⟩ => by kernel_rfl
  | ⟨6, _⟩ => by kernel_rfl
  | ⟨7, _⟩ => by kernel_rfl
  | ⟨8, _⟩ => by kernel_rfl
theorem load_is {F : Fence} {n : Nat} {P : Program} {w : World} {ops : Array Oper} {rest : List Oper} {o : Oper} {a : Act} {Q : Exit → Act → World → Prop} (hgd : o.guard = none) (ty : TypeId) (x : Operand) (ho : o.op = .load ty x) (p : Value) (hx : a.eval x = p)
    (v : Value) (hl : (Instr.loadAt ty p).run P w = .ok v w) (h : wpListIn F n P ops Q rest (a.put o.dst v) w) : wpListIn F n P ops Q (o :: rest) a w := by
  refine wpListIn_plain hgd fun K' hK' => ?_
  unfold Oper.wpIn
  refine ⟨by simp [Oper.about, ho], ?_⟩
  rw [Oper.semAt_plain F _ _ (by rw [ho]; intro c hc'; cases hc')]
  simp [execOp, ho, hx, hl, Result.andThen]
  exact hK' _ _ h
set_option maxRecDepth 100000 in
set_option maxHeartbeats 2000000 in
theorem places1_in (F : Fence) (n : Nat) (hf : F.fn 70) (hro : F.round = none) (hn : 1 ≤ n) (l Bs c : Nat) (J Jx : List (Fin 9) → World → Prop)
    (hY : ∀ pre x W, J pre W → pre.length < 9 → YieldAt F (n - 1) Try.prog l (encP c x) W fun e W' =>
      (e = .returned (.bool true) ∧ J (pre ++ [x]) W' ∧ KeepsWalks W W') ∨ (e = .returned (.bool false) ∧ Jx (pre ++ [x]) W'))
    (W : World) (hc : (Instr.loadAt 120 (.pointer (some ⟨Bs, 0, none⟩))).run Try.prog W = .ok (.agg (placeCells c)) W) (hJ : AbidesFrom W.heap.size J) (hJx : AbidesFrom W.heap.size Jx) (h0 : J [] W) :
    CallsIn F n Try.prog 70 #[.func (.yield l) #[] #[], .pointer (some ⟨Bs, 0, none⟩)] W fun e W' => (∃ v, e = .returned v) ∧
      ((∃ ys, ys = upto9 9 ∧ J ys W') ∨ (∃ pre, True ∧ Jx pre W')) := by
  refine callsIn_of_wp Try.func70 rfl hf ?_ hro
  simp only [Try.ntmps70, List.size_toArray, List.length_cons, List.length_nil, Nat.reduceAdd, Nat.reduceSub, Array.replicate_succ, Array.replicate_zero, List.push_toArray, List.append_toArray, List.nil_append, List.cons_append]
  have HC := Lib.hid hc
  clear hc
  gi_wp2_with (refine load_is rfl 120 (.tmp 1) rfl _ rfl _ HC.out ?_)
  gi_loopw [6] (fun i wr => ∃ k : Nat, k ≤ 9 ∧ i = .int .i64 k ∧ J (upto9 k) wr ) (fun i _ => 9 - (intOf i).toNat)
  case atStart => exact ⟨0, Nat.zero_le _, rfl, h0⟩
  case round =>
    clear HC
    obtain ⟨k, hk, rfl, hJs⟩ := hrel
    by_cases hlt : k < 9
    · have hix := index9 c ⟨k, hlt⟩
      simp only [placeV] at hix
      have hJ2 : J (upto9 k) ((wr.alloc (.cells #[.pointer (some ⟨c, k, none⟩), .int .i64 (least k), .int .i64 (most k)] 114))) := hJ _ wr _ none hJs (World.grownBy_alloc wr _ none) (fun r e => by cases e)
      obtain ⟨fn, tmps, assign, body, hy, hR⟩ := hY _ ⟨k, hlt⟩ _ hJ2 (by have := upto9_len ⟨k, hlt⟩; simp only at this; omega)
      dsimp only [encP, placeV] at hy
      gi_wp2
      refine hR.mono ?_
      rintro e W3 (⟨rfl, hJ3, hk3⟩ | ⟨rfl, hJx3⟩)
      · gi_wp2
        go_roundw
        case rel => exact ⟨k + 1, by omega, by simp, by rw [upto9_succ ⟨k, hlt⟩]; exact hJ3⟩
        case measure => simp [intOf]; omega
      · gi_wp2
        refine bodyPost_ret (results_none rfl _ _ _) rfl ?_
        exact ⟨⟨_, rfl⟩, .inr ⟨_, trivial, hJx3⟩⟩
    · obtain rfl : k = 9 := by omega
      gi_wp2
      go_end0
      exact ⟨⟨_, rfl⟩, .inl ⟨_, rfl, hJs⟩⟩
theorem places_stops (F : Fence) (n : Nat) (hf : F.fn 70) (hro : F.round = none) (hn : 1 ≤ n) (Bs c : Nat) (w : World) (hB : w.heap[Bs]? = some (.cells (placeCells c) 120 (0, 0))) :
    SeqStopsK F n Try.prog 70 #[.pointer (some ⟨Bs, 0, none⟩)] (encP c) KeepsWalks (fun ys => ys = upto9 9) (fun _ => True) 9 w := fun l J Jx W hW hJ hJx hY h0 => by
  have hB' := (hW.block Bs (Array.getElem?_eq_some_iff.1 hB).1).trans hB
  refine places1_in F n hf hro hn l Bs c J Jx hY W ?_ hJ hJx h0
  simp only [Instr.loadAt, Instr.sureAddr, Sem.run_bind, Sem.run_pure, Result.andThen]
  exact run_loadVar_row W Bs 120 120 (placeCells c) (0, 0) (.array 9 114) hB' Try.underlying120 rfl (by kernel_rfl)
end Go.Proofs.Ytdnhmlpjohojdaa.Adm
