/-
  admin.Book's Check, and All of a book that is not there: by their contracts.
-/
import Derived.Test.YtdnhmlpjohojdaaBook
set_option linter.unusedVariables false
set_option linter.unusedSimpArgs false
namespace Go.Proofs.Ytdnhmlpjohojdaa.Adm.Bk
open Go.RowKit Go.Maps Go.WideMaps Go.Proofs.Ytdnhmlpjohojdaa.Tab Go.Proofs.Ytdnhmlpjohojdaa.Adm
theorem All_nil (w : World) : Calls Try.prog 24 #[.pointer none] w fun e w' => e = .returned (.slice none 0 0) ∧ w = w' := by
  go_enter Try.func24, Try.ntmps24
  go_wp2
  go_ret
  exact ⟨rfl, rfl⟩
/-- Why an order can't be done: of whether it is formed rightly, whether its owner lives, and rests, and of the operation. -/
def whyB (f l r : Bool) (op : Int) : Int :=
  if f = false then 1 else if op = 1 then (if l then 7 else 0) else if l = false then 12 else if op = 2 then (if r then 17 else 0) else if op = 3 then (if r then 0 else 17) else 0
def why (M : Mp) (o : Order) : Int := whyB (formB o) (lives M o.owner) (ten M o.owner).rests o.op
theorem cellsOf_alloc (w : World) (C : Array Value) (t : TypeId) (i : Nat) : (w.alloc (.cells C t)).cell? ⟨w.heap.size, i, none⟩ = C[i]? := World.cell?_alloc_at _ _ _ _ rfl
theorem formB_range {o : Order} (h : formB o = true) : inRange o := (of_decide_eq_true h).1
set_option maxRecDepth 100000 in
set_option maxHeartbeats 1000000 in
theorem Check_nil (o : Order) (w : World) : Calls Try.prog 17 #[.pointer none, ordV o] w fun e w' => e = .returned (.int .i64 17) ∧ Below w.heap.size w w' := by
  have hB : Below w.heap.size w (w.alloc (.cells (cells12 o) 30)) := (Below.refl _ _).alloc (Nat.le_refl _) _
  have HB := Lib.hid hB
  have HN := Lib.hid (find_nil o.owner)
  clear hB
  obtain ⟨id, op, owner, v⟩ := o
  simp only at HN
  go_enter Try.func17, Try.ntmps17
  go_wp2_with (first
    | (go_at_call 42; refine (HN.out _).mono ?_; simp only [tenV, cells10, zeroT, zeroC]; rintro e w1 ⟨rfl, hb⟩; have HB1 := Lib.hid (HB.out.trans (hb.mono (by simp))); clear hb))
  go_ret
  exact ⟨rfl, HB1.out.alloc HB1.out.size _⟩
set_option maxRecDepth 100000 in
set_option maxHeartbeats 4000000 in
theorem Check_k {w : World} {bs n : Nat} {mb : Option Nat} {M : Mp} (h : BookAt w bs mb n M) (o : Order) (hx : (Lit.int .i64 o.owner).wf = true) :
    Calls Try.prog 17 #[.pointer (some ⟨bs, 0, none⟩), ordV o] w fun e w' => e = .returned (.int .i64 (why M o)) ∧ Below w.heap.size w w' := by
  have hB : Below w.heap.size w (w.alloc (.cells (cells12 o) 30)) := (Below.refl _ _).alloc (Nat.le_refl _) _
  have HB := Lib.hid hB
  have HN := Lib.hid (find_ (h.below hB) o.owner hx)
  have HF := Lib.hid (form_ o)
  have HR := Lib.hid (fun h' => formB_range (o := o) h')
  unfold why
  clear hB
  generalize formB o = f at *
  generalize ten M o.owner = t at *
  generalize lives M o.owner = l at *
  have hl := h.lt
  obtain ⟨tv, r⟩ := t
  clear h hx
  obtain ⟨id, op, owner, v⟩ := o
  simp only at HN HF ⊢
  cases f
  · go_enter Try.func17, Try.ntmps17
    go_wp2_with (first
      | (go_at_call 42; refine HN.out.mono ?_; rintro e w1 ⟨rfl, hb⟩; have HB1 := Lib.hid (HB.out.trans (hb.mono (by simp))); have hq := fun i => (hb.cell (p := ⟨w.heap.size, i, none⟩) (by simp)).trans (cellsOf_alloc w _ _ i); have hz : w.heap.size < w1.heap.size := Nat.lt_of_lt_of_le (by simp) hb.size; clear hb)
      | (go_at_call 25; refine (HF.out _).mono ?_; unfold errB; rintro e w2 ⟨rfl, hb⟩; have HB2 := Lib.hid ((HB1.out.alloc HB1.out.size _).trans (hb.mono (by simp; omega))); have hq2 := fun i => (hb.cell (p := ⟨w.heap.size, i, none⟩) (by simp; omega)).trans ((World.cell?_alloc_past _ _ i hz).trans (hq i)); have ht2 := fun i => (hb.cell (p := ⟨w1.heap.size, i, none⟩) (by simp)).trans (cellsOf_alloc w1 _ _ i); clear hb))
    go_ret
    exact ⟨rfl, HB2.out⟩
  · have hop := HR.out rfl
    have h1 := hop.1
    have h2 := hop.2.1
    simp only at h1 h2
    have h3 : op = 1 ∨ op = 2 ∨ op = 3 ∨ op = 4 ∨ op = 5 ∨ op = 6 := by omega
    clear HR hop h1 h2
    rcases h3 with rfl | rfl | rfl | rfl | rfl | rfl
    all_goals
      cases l <;> cases r
      all_goals
        go_enter Try.func17, Try.ntmps17
        go_wp2_with (first
          | (go_at_call 42; refine HN.out.mono ?_; rintro e w1 ⟨rfl, hb⟩; have HB1 := Lib.hid (HB.out.trans (hb.mono (by simp))); have hq := fun i => (hb.cell (p := ⟨w.heap.size, i, none⟩) (by simp)).trans (cellsOf_alloc w _ _ i); have hz : w.heap.size < w1.heap.size := Nat.lt_of_lt_of_le (by simp) hb.size; clear hb)
          | (go_at_call 25; refine (HF.out _).mono ?_; unfold errB; rintro e w2 ⟨rfl, hb⟩; have HB2 := Lib.hid ((HB1.out.alloc HB1.out.size _).trans (hb.mono (by simp; omega))); have hq2 := fun i => (hb.cell (p := ⟨w.heap.size, i, none⟩) (by simp; omega)).trans ((World.cell?_alloc_past _ _ i hz).trans (hq i)); have ht2 := fun i => (hb.cell (p := ⟨w1.heap.size, i, none⟩) (by simp)).trans (cellsOf_alloc w1 _ _ i); clear hb))
        go_ret
        exact ⟨rfl, HB2.out⟩
end Go.Proofs.Ytdnhmlpjohojdaa.Adm.Bk
