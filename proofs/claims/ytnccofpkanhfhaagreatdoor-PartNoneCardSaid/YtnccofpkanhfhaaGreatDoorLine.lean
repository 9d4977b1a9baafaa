/-
  A region that draws its order, of operations that yield their values in whatever world, and behind them one alloc and one store into what it made: all taken in one line, whatever the order.
-/
import Derived.Orders
import Derived.Deep.WholeRow
import Derived.KernelRfl
import Derived.WalkKit
import Derived.StillTailTactics
set_option linter.unusedVariables false
set_option linter.unusedSimpArgs false
namespace Go.Proofs.YtnccofpkanhfhaaGreatDoor.Line
variable {P : Program} {ops : Array Oper} {Q : Exit → Act → World → Prop} {md : Region.Mode}
def dstOf (ops : Array Oper) (i : Nat) : Option Tmp := (ops[i]?).bind (·.dst)
def runL (ops : Array Oper) : List (Nat × Value) → Act → Act
  | [], a => a
  | (i, v) :: r, a => runL ops r (a.put (dstOf ops i) v)
def listL : List (Nat × Value) → Array Bool → Array Bool
  | [], l => l
  | (i, _) :: r, l => listL r (l.setIfInBounds i true)
def okL (md : Region.Mode) (ops : Array Oper) : List (Nat × Value) → Array Bool → Bool
  | [], _ => true
  | (i, _) :: r, l => Region.free md ops l i && (Region.ready md ops l).contains i && okL md ops r (l.setIfInBounds i true)
def yieldsL (P : Program) (ops : Array Oper) : List (Nat × Value) → Act → Prop
  | [], _ => True
  | (i, v) :: r, a => (∃ oi, ops[i]? = some oi ∧ Region.wanted oi (yielded ops a.tmps) = true ∧ ∀ w, (execOp a.eval oi).run P w = .ok (.value v) w) ∧ yieldsL P ops r (a.put (dstOf ops i) v)
theorem takes (hs : Region.noSelect ops = true) (hQ : ∀ c a d v w, Q (.panic c) (Act.put a d v) w → Q (.panic c) a w) : ∀ (sc : List (Nat × Value)) (l : Array Bool) (a : Act) (w : World) (fuel : Nat), okL md ops sc l = true → yieldsL P ops sc a →
    wpAny P md ops Q fuel (listL sc l) (runL ops sc a) w → wpAny P md ops Q (fuel + sc.length) l a w
  | [], _, _, _, _, _, _, h => h
  | (i, v) :: r, l, a, w, fuel, hok, ⟨⟨oi, ho, hw, hy⟩, hr⟩, h => by
    simp only [okL, Bool.and_eq_true] at hok
    obtain ⟨⟨h1, h2⟩, h3⟩ := hok
    have hd : dstOf ops i = oi.dst := by unfold dstOf; rw [ho]; rfl
    rw [hd] at hr
    have ih := takes hs hQ r (l.setIfInBounds i true) (a.put oi.dst v) w fuel h3 hr (by simpa only [listL, runL, hd] using h)
    exact wpAny_take (fuel := fuel + r.length) ho hs h1 h2 (fun c a w => hQ c a _ _ w) (.inl ⟨hw, hy⟩) ih
theorem one {i : Nat} {oi : Oper} {fuel : Nat} {l : Array Bool} {a : Act} {w w' : World} {v : Value} (hr : Region.ready md ops l = [i]) (ho : ops[i]? = some oi) (hw : Region.wanted oi (yielded ops a.tmps) = true)
    (hy : (execOp a.eval oi).run P w = .ok (.value v) w') (h : wpAny P md ops Q fuel (l.setIfInBounds i true) (a.put oi.dst v) w') : wpAny P md ops Q (fuel + 1) l a w := by
  refine wpAny_all hr (by simp) ?_
  intro k hk
  obtain rfl : k = i := by simpa using hk
  unfold wpOp
  simp only [ho, hw, if_true]
  exact .inl (by unfold Oper.wp; rw [hy]; exact h)
theorem one_skip {i : Nat} {oi : Oper} {fuel : Nat} {l : Array Bool} {a : Act} {w w' : World} (hr : Region.ready md ops l = [i]) (ho : ops[i]? = some oi) (hw : Region.wanted oi (yielded ops a.tmps) = true)
    (hy : (execOp a.eval oi).run P w = .ok .skip w') (h : wpAny P md ops Q fuel (l.setIfInBounds i true) (a.put oi.dst undef) w') : wpAny P md ops Q (fuel + 1) l a w := by
  refine wpAny_all hr (by simp) ?_
  intro k hk
  obtain rfl : k = i := by simpa using hk
  unfold wpOp
  simp only [ho, hw, if_true]
  exact .inl (by unfold Oper.wp; rw [hy]; exact h)
theorem wp_line {id : Nat} {a : Act} {w : World} (sc : List (Nat × Value)) (hm : P.follows .mixedOrders = true) (hs : Region.noSelect ops = true) (hQ : ∀ c a d v w, Q (.panic c) (Act.put a d v) w → Q (.panic c) a w)
    (hok : okL .any ops sc (Array.replicate ops.size false) = true) (hy : yieldsL P ops sc a) (fuel : Nat) (hf : ops.size = fuel + sc.length)
    (h : wpAny P .any ops Q fuel (listL sc (Array.replicate ops.size false)) (runL ops sc a) w.drew) : (Code.region id ops true).wp P Q a w :=
  wp_region_any hm (by rw [hf]; rw [hf] at hok h; exact takes hs hQ sc _ a _ fuel hok hy h)
/-- The kit's wp_region_still_tail, the world behind the draw by its name. -/
theorem still_tail {id : Nat} {a : Act} {w : World} {l : List Oper} (n : Nat) (hm : P.follows .mixedOrders = true) (hB : Region.lexTailB .any l.toArray n = true)
    (h : wpStill P l.toArray w.drew (fun a' => wpList P l.toArray Q (l.drop n) a' w.drew) (l.take n) a) : (Code.region id l.toArray true).wp P Q a w := wp_region_still_tail n hm hB h
/-- A place at which the walk stands still: an arm '(refine Stop.at dst op ?_)'; 'constructor' goes on. -/
structure Stop (p : Prop) : Prop where
  out : p
theorem Stop.at {P : Program} {ops : Array Oper} {Q : Exit → Act → World → Prop} {rest : List Oper} {a : Act} {w : World} (dst : Option Tmp) (op : Op) {t : TypeId} {pos : String} {af : Array Edge} {g : Option (Nat × Bool)} (h : Stop (wpList P ops Q (⟨dst, op, t, pos, af, g⟩ :: rest) a w)) :
    wpList P ops Q (⟨dst, op, t, pos, af, g⟩ :: rest) a w := h.out
end Go.Proofs.YtnccofpkanhfhaaGreatDoor.Line
