/-
  A store into a block that is the walk's own: the world behind it as a letter.
-/
import Derived.Test.YtnccofpkanhfhaaGreatDoorRh
import Derived.Test.YtnccofpkanhfhaaGreatDoorLine
set_option linter.unusedVariables false
set_option linter.unusedSimpArgs false
namespace Go.Proofs.YtnccofpkanhfhaaGreatDoor.Line
open Go.RowKit Go.Proofs.YtnccofpkanhfhaaGreatDoorW.PrintWords
variable {P : Program} {ops : Array Oper} {rest : List Oper} {o : Oper} {a : Act} {Q : Exit → Act → World → Prop}
/-- A store into a block that is the walk's own: the world behind it as a letter. -/
theorem put_own {W : World} (hgd : o.guard = none) (hN : o.dst = none) (t : TypeId) (p x : Operand) (ho : o.op = .store t p x) (g j : Nat) (haddr : a.eval p = .pointer (some ⟨g, j, none⟩)) (u : Value) (hx : a.eval x = u)
    (cur cur2 : Array Value) (e : TypeId) (hh : W.heap[g]? = some (.cells cur e (0, 0))) (hfit : j + u.cells.toList.length ≤ cur.size) (ht : (P.info? t).map (·.size) = some u.cells.toList.length) (h1 : u.cells.toList.all (·.oneCell') = true)
    (hcur : cur2.toList = cur.toList.take j ++ u.cells.toList ++ cur.toList.drop (j + u.cells.toList.length))
    (h : ∀ w', w'.heap[g]? = some (.cells cur2 e (0, 0)) → W.grownBy w' (some g) → wpList P ops Q rest a w') : wpList P ops Q (o :: rest) a W := by
  refine wpList_plain hgd fun K hK => ?_
  have hrun := run_store_run (P := P) (o := j) t u u.cells.toList hh rfl ht hfit (fun q hq => List.all_eq_true.1 h1 q hq)
  obtain ⟨cur', hc1, hc2, hc3⟩ := setCells_row u.cells.toList j W cur hh hfit
  have hce : cur' = cur2 := by
    have := hc3.trans hcur.symm
    cases cur'; cases cur2; simpa using this
  subst hce
  obtain ⟨s1, s2, s3, s4⟩ := setCells_same g u.cells.toList j W
  unfold Oper.wp execOp
  simp only [ho, haddr, hx, Sem.run_bind, Sem.run_pure, Result.andThen_ok, hrun]
  show K (a.put o.dst undef) _
  rw [hN]
  exact hK a _ (h _ hc1 ⟨s1, s2, s3, Nat.le_of_eq s4.symm, fun k _ hne => setCells_far _ _ k (fun hk => hne (by rw [hk]))⟩)
end Go.Proofs.YtnccofpkanhfhaaGreatDoor.Line
