/-
  part.Part's find: the deed of an operation.
-/
import Derived.Test.YtnccofpkanhfhaaGreatDoorPartAdd
import Derived.Test.YtnccofpkanhfhaaGreatDoorOw
set_option linter.unusedVariables false
set_option linter.unusedSimpArgs false
namespace Go.Proofs.YtnccofpkanhfhaaGreatDoor.Part
open Go.RowKit Go.Maps Go.WideMaps Go.Proofs.YtnccofpkanhfhaaGreatDoor.Tab Go.Proofs.YtnccofpkanhfhaaGreatDoorW.PrintWords
theorem inf69 : (Tryz.prog.info? 69).map (·.size) = some 2 := by kernel_rfl
set_option maxRecDepth 100000 in
set_option maxHeartbeats 1000000 in
theorem find_add (bs : Nat) (a : AR) (now : Int) (W : World) :
    Calls Tryz.prog 16 #[ptr bs, .int .i64 4, .agg (cellsA a), .int .i64 now] W fun e w' => e = .returned (.tuple #[.agg #[.func (.func 50) #[] #[ptr W.heap.size, ptr (W.heap.size + 1)], .func (.func 52) #[] #[ptr W.heap.size, ptr (W.heap.size + 1)]], .bool true]) ∧
      Caught w' bs W.heap.size (W.heap.size + 1) a ∧ Below W.heap.size W w' := by
  obtain ⟨nm, tx, num, ti⟩ := a
  go_enter Tryz.func16, Tryz.ntmps16
  go_wp2_with (first
    | (refine Line.Stop.at none (.store 69 (.tmp 8) (.tmp 16)) ?_))
  constructor
  have hO := (((Line.Ow.start W).push #[ptr bs] 25).push (cellsA ⟨nm, tx, num, ti⟩) 43).push #[.int .i64 now] 3
  have hO4 := hO.push #[.nilFunc, .nilFunc] 69
  have e1 : (W.alloc (.cells #[ptr bs] 25)).heap.size = W.heap.size + 1 := by simp
  have e2 : ((W.alloc (.cells #[ptr bs] 25)).alloc (.cells (cellsA ⟨nm, tx, num, ti⟩) 43)).heap.size = W.heap.size + 1 + 1 := by simp
  have e3 : (((W.alloc (.cells #[ptr bs] 25)).alloc (.cells (cellsA ⟨nm, tx, num, ti⟩) 43)).alloc (.cells #[.int .i64 now] 3)).heap.size = W.heap.size + 1 + 1 + 1 := by simp
  rw [e3, e2, e1] at hO4
  clear hO e1 e2 e3
  refine Line.put_own rfl rfl 69 (.tmp 8) (.tmp 16) rfl (W.heap.size + 1 + 1 + 1) 0 rfl (.agg #[.func (.func 50) #[] #[ptr W.heap.size, ptr (W.heap.size + 1)], .func (.func 52) #[] #[ptr W.heap.size, ptr (W.heap.size + 1)]]) rfl #[.nilFunc, .nilFunc] #[.func (.func 50) #[] #[ptr W.heap.size, ptr (W.heap.size + 1)], .func (.func 52) #[] #[ptr W.heap.size, ptr (W.heap.size + 1)]] 69 (hO4.keep _ (.head _)).1 (by simp [Value.cells]) inf69 (by simp [Value.cells, Value.oneCell']) (by simp [Value.cells]) ?_
  intro w5 h5 g5
  have hO5 := hO4.put (bl' := [(W.heap.size + 1, cellsA ⟨nm, tx, num, ti⟩, 43), (W.heap.size, #[ptr bs], 25)]) (.head _) h5 g5 (fun x hx => by
    rcases List.mem_cons.1 hx with rfl | hx
    · exact ⟨.tail _ (.tail _ (.head _)), by show W.heap.size + 1 ≠ _; omega⟩
    · rcases List.mem_cons.1 hx with rfl | hx
      · exact ⟨.tail _ (.tail _ (.tail _ (.head _))), by show W.heap.size ≠ _; omega⟩
      · cases hx)
  have HO := Lib.hid hO5
  clear hO4 hO5 h5 g5
  go_wp2_with fail
  exact bodyPost_ret (results_ct rfl _ _ (W.heap.size + 1 + 1 + 1) 69 _ (0, 0) _ rfl (HO.out.keep _ (.head _)).1 Tryz.underlying69 rfl inf69) rfl ⟨rfl, ⟨(HO.out.keep _ (.tail _ (.tail _ (.head _)))).1, (HO.out.keep _ (.tail _ (.head _))).1⟩, HO.out.below⟩
end Go.Proofs.YtnccofpkanhfhaaGreatDoor.Part
