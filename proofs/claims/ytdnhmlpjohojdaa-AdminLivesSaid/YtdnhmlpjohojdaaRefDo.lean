/-
  ref.Do of chapter 41: the book of nine, an order done.
-/
import Derived.Test.YtdnhmlpjohojdaaBookDone
import Derived.Test.YtdnhmlpjohojdaaR16
import Derived.Test.YtdnhmlpjohojdaaR15
import Derived.Test.YtdnhmlpjohojdaaR41
import Derived.Test.YtdnhmlpjohojdaaR44
import Derived.Test.YtdnhmlpjohojdaaR43
set_option linter.unusedVariables false
set_option linter.unusedSimpArgs false
namespace Go.Proofs.Ytdnhmlpjohojdaa.Adm.Bk
open Go.RowKit Go.Maps Go.WideMaps Go.Proofs.Ytdnhmlpjohojdaa.Tab Go.Proofs.Ytdnhmlpjohojdaa.Adm Go.Proofs.Ytdnhmlpjohojdaa.R Go.Proofs.YtdnhmlpjohojdaaW.PrintWords Go.Proofs.YtdnhmlpjohojdaaW.PrintLast Go.Proofs.YtdnhmlpjohojdaaW.PrintMore
def v24 (v : Fin 9 → Int) : S24 := ⟨v 0, v 1, v 2, v 3, v 4, v 5, v 6, v 7, v 8⟩
def stepT (x : S75) (o : Order) : S75 :=
  if o.op = 1 then ⟨true, false, v24 o.v⟩ else if o.op = 2 then ⟨x.f0, true, x.f2⟩ else if o.op = 3 then ⟨x.f0, false, x.f2⟩
  else if o.op = 4 then z75 else if o.op = 6 then ⟨x.f0, x.f1, v24 o.v⟩ else x
def chk (k : Nat) (T : List S75) (o : Order) : Option Int :=
  concourseref41_Check.f k T o.id o.op o.owner (o.v 0) (o.v 1) (o.v 2) (o.v 3) (o.v 4) (o.v 5) (o.v 6) (o.v 7) (o.v 8)
theorem Check_ref (k : Nat) (A : Option Addr) (c : Nat) (T : List S75) (o : Order) (r : Int) (w : World) (hr : Kd.C k75 w A T.length T) (hc : T.length ≤ c) (h : chk k T o = some r) :
    Calls Try.prog 16 #[.agg #[.slice A T.length c], ordV o] w fun e w' => e = .returned (.int .i64 r) ∧ Below w.heap.size w w' :=
  concourseref41_Check.calls k A c T _ _ _ _ _ _ _ _ _ _ _ _ r w hr hc h
theorem three (w : World) (X Y Z : Obj) : (((w.alloc X).alloc Y).alloc Z).heap[w.heap.size]? = some X ∧ (((w.alloc X).alloc Y).alloc Z).heap[w.heap.size + 1]? = some Y ∧ (((w.alloc X).alloc Y).alloc Z).heap[w.heap.size + 2]? = some Z ∧ (((w.alloc X).alloc Y).alloc Z).heap.size = w.heap.size + 3 := by
  have e : ∀ (W : World) (o : Obj), (W.alloc o).heap = W.heap.push o := fun _ _ => rfl
  simp only [e, Array.getElem?_push, Array.size_push]
  refine ⟨?_, ?_, ?_, trivial⟩
  · rw [if_neg (by omega), if_neg (by omega), if_pos trivial]
  · rw [if_neg (by omega), if_pos trivial]
  · rw [if_pos trivial]
set_option maxRecDepth 100000 in
set_option maxHeartbeats 2000000 in
theorem RefDo_no (k : Nat) (A : Option Addr) (c : Nat) (T : List S75) (o : Order) (r : Int) (w : World) (hr : Kd.C k75 w A T.length T) (hc : T.length ≤ c) (h : chk k T o = some r) (h0 : r ≠ 0) :
    Calls Try.prog 19 #[.agg #[.slice A T.length c], ordV o] w fun e w' => e = .returned (.tuple #[.agg #[.slice A T.length c], .int .i64 r]) ∧ Below w.heap.size w w' := by
  have HB := Lib.hid ((((Below.refl w.heap.size w).alloc (Nat.le_refl _) (.cells #[.slice A T.length c] 44)).alloc (by simp) (.cells (cells12 o) 26)).alloc (by simp; omega) (.cells #[.slice none 0 0] 44))
  have HC := Lib.hid (Check_ref k A c T o r _ (Kd.C_below hr HB.out) hc h)
  have H3 := three w (.cells #[.slice A T.length c] 44) (.cells (cells12 o) 26) (.cells #[.slice none 0 0] 44)
  replace H3 := Lib.hid H3
  clear hr hc h
  obtain ⟨id, op, owner, v⟩ := o
  go_enter Try.func19, Try.ntmps19
  go_wp2_with fail
  refine HC.out.mono ?_
  rintro e w1 ⟨rfl, hb⟩
  have h1 := (hb.block w.heap.size (by rw [H3.out.2.2.2]; omega)).trans H3.out.1
  have h2 := (hb.block (w.heap.size + 2) (by rw [H3.out.2.2.2]; omega)).trans H3.out.2.2.1
  have HB1 := Lib.hid (HB.out.trans (hb.mono (by rw [H3.out.2.2.2]; omega)))
  have c1 := blk_cell h1 0
  have c2 := blk_cell h2 0
  have f2 := blk_frozen h2 0
  simp only [List.getElem?_toArray, List.getElem?_cons_zero] at c1 c2
  have H2 := Lib.hid h2
  clear hb h1 h2 HC HB H3
  have hr0 : decide (r = 0) = false := decide_eq_false h0
  go_wp2_with fail
  exact bodyPost_ret (v := .tuple #[.agg #[.slice A T.length c], .int .i64 r]) (by simp [results, Try.f19, go_sem, Try.underlying44, c1, c2]) rfl ⟨rfl, HB1.out.setCell (by simp; omega) _⟩
section
variable {P : Program} {ops : Array Oper} {rest : List Oper} {o : Oper} {a : Act} {Q : Exit → Act → World → Prop}
/-- A store into a block that is the walk's own: the world behind it as a letter. -/
theorem put_event {W : World} (hgd : o.guard = none) (hN : o.dst = none) (t : TypeId) (p x : Operand) (ho : o.op = .store t p x) (g j : Nat) (haddr : a.eval p = .pointer (some ⟨g, j, none⟩)) (u : Value) (hx : a.eval x = u)
    (cur cur2 : Array Value) (e : TypeId) (hh : W.heap[g]? = some (.cells cur e (0, 0))) (hfit : j + u.cells.toList.length ≤ cur.size) (ht : (P.info? t).map (·.size) = some u.cells.toList.length) (h1 : u.cells.toList.all (·.oneCell') = true)
    (hcur : cur2.toList = cur.toList.take j ++ u.cells.toList ++ cur.toList.drop (j + u.cells.toList.length))
    (h : ∀ w', w'.heap[g]? = some (.cells cur2 e (0, 0)) → W.grownBy w' (some g) → wpList P ops Q rest a w') : wpList P ops Q (o :: rest) a W := by
  refine wpList_plain hgd fun K hK => ?_
  have hrun := run_store_run (P := P) (o := j) t u u.cells.toList hh rfl ht hfit (fun q hq => List.all_eq_true.1 h1 q hq)
  obtain ⟨cur', hc1, hc2, hc3⟩ := setCells_row u.cells.toList j W cur hh hfit
  have hce : cur' = cur2 := by
    have := hc3.trans hcur.symm
    cases cur'; cases cur2; simpa using this
  subst hce
  obtain ⟨s1, s2, s3, s4⟩ := setCells_same g u.cells.toList j W
  unfold Oper.wp execOp
  simp only [ho, haddr, hx, Sem.run_bind, Sem.run_pure, Result.andThen_ok, hrun]
  show K (a.put o.dst undef) _
  rw [hN]
  exact hK a _ (h _ hc1 ⟨s1, s2, s3, Nat.le_of_eq s4.symm, fun k _ hne => setCells_far _ _ k (fun hk => hne (by rw [hk]))⟩)
end
theorem add0 (g n : Nat) : (⟨g, 0, none⟩ : Addr).add n = ⟨g, n, none⟩ := by
  unfold Addr.add
  by_cases h : n = 0 <;> simp [h]
theorem R_ad {α : Type} {d : Kd α} {e base : Nat} {ok : Nat → Prop} {w : World} {ad : Addr} {n c : Nat} {xs : List α} (h : d.R e w base ok (.slice (some ad) n c) xs) : ∃ g cur, ad = ⟨g, 0, none⟩ ∧ base ≤ g ∧ g < w.heap.size ∧ w.heap[g]? = some (.cells cur e (0, 0)) := by
  obtain ⟨_, inner, hown, hr⟩ := h
  rcases hown.2 with ⟨hv, _⟩ | ⟨g', cap', cur, hv, hb, hh, _⟩
  · cases hv
  · injection hv with ha
    injection ha with ha
    exact ⟨g', cur, ha, hb, blk_lt hh, hh⟩
def cellsT (x : S75) : Array Value := #[.bool x.f0, .bool x.f1, .int .i64 x.f2.f0, .int .i64 x.f2.f1, .int .i64 x.f2.f2, .int .i64 x.f2.f3, .int .i64 x.f2.f4, .int .i64 x.f2.f5, .int .i64 x.f2.f6, .int .i64 x.f2.f7, .int .i64 x.f2.f8]
/-- What stands behind the append: the new row's block, the element's cells. -/
theorem after_app {w : World} {T : List S75} {base : Nat} {v : Value} (h9 : T.length = 9) {i : Int} (h0 : 0 ≤ i) (h8 : i ≤ 8) (h : Kd.R k75 75 w base (fun _ => True) v T) :
    ∃ g cap, v = .slice (some ⟨g, 0, none⟩) 9 cap ∧ 9 ≤ cap ∧ base ≤ g ∧ g < w.heap.size ∧ (∃ cur, w.heap[g]? = some (.cells cur 75 (0, 0))) ∧ ∀ j u, (cellsT (rd_T75 T i))[j]? = some u → w.cell? ⟨g, i.toNat * 11 + j, none⟩ = some u := by
  obtain ⟨A1, c1, rfl, hc, hC⟩ := Kd.R_reads h
  obtain ⟨ad, cs, e, hl, hK, hc0⟩ := Kd.C_get hC z75 i h0 (by omega)
  have hc' : ∀ j u, cs[j]? = some u → w.cell? (ad.add (i.toNat * 11 + j)) = some u := hc0
  obtain rfl := k75_open hK
  subst e
  obtain ⟨g, cur, rfl, hb, hlt, hh⟩ := R_ad h
  rw [h9] at h hc ⊢
  refine ⟨g, c1, rfl, hc, hb, hlt, ⟨cur, hh⟩, fun j u hj => ?_⟩
  have := hc' j u (by simpa [cellsT, rd_T75] using hj)
  rwa [add0] at this
theorem inf75 : (Try.prog.info? 75).map (·.size) = some 11 := by kernel_rfl
theorem inf24 : (Try.prog.info? 24).map (·.size) = some 9 := by kernel_rfl
theorem inf4 : (Try.prog.info? 4).map (·.size) = some 1 := by kernel_rfl
theorem Check_inRange {k : Nat} {T : List S75} {o : Order} (h : chk k T o = some 0) : 1 ≤ o.op ∧ o.op ≤ 6 ∧ 1 ≤ o.owner ∧ o.owner ≤ 8 := by
  unfold chk concourseref41_Check.f concourseref41_Form.f at h
  by_cases h1 : o.op < 1
  · simp [h1] at h
  by_cases h2 : o.op > 6
  · simp [h1, h2] at h
  by_cases h3 : o.owner < 1
  · simp [h1, h2, h3] at h
  by_cases h4 : o.owner > 8
  · simp [h1, h2, h3, h4] at h
  omega
set_option maxRecDepth 100000 in
set_option maxHeartbeats 1000000 in
theorem RefDo_yes (k : Nat) (A : Option Addr) (c : Nat) (T : List S75) (o : Order) (w : World) (hr : Kd.C k75 w A T.length T) (hc : T.length ≤ c) (h : chk k T o = some 0) (h9 : T.length = 9) :
    Calls Try.prog 19 #[.agg #[.slice A T.length c], ordV o] w fun e w' => ∃ v, e = .returned (.tuple #[.agg #[v], .int .i64 0]) ∧ Kd.R k75 75 w' w.heap.size (fun _ => True) v (T.set o.owner.toNat (stepT (rd_T75 T o.owner) o)) ∧ Below w.heap.size w w' := by
  have HB := Lib.hid ((((Below.refl w.heap.size w).alloc (Nat.le_refl _) (.cells #[.slice A T.length c] 44)).alloc (by simp) (.cells (cells12 o) 26)).alloc (by simp; omega) (.cells #[.slice none 0 0] 44))
  have HC := Lib.hid (Check_ref k A c T o 0 _ (Kd.C_below hr HB.out) hc h)
  have H3 := three w (.cells #[.slice A T.length c] 44) (.cells (cells12 o) 26) (.cells #[.slice none 0 0] 44)
  replace H3 := Lib.hid H3
  obtain ⟨r1, r2, r3, r4⟩ := Check_inRange h
  have HT := Lib.hid hr
  obtain ⟨x, HX⟩ : ∃ x, Hid (rd_T75 T o.owner = x) := ⟨_, Lib.hid rfl⟩
  rw [HX.out]
  clear hr h
  obtain ⟨id, op, owner, v⟩ := o
  simp only at r1 r2 r3 r4 HX
  have HRG := Lib.hid (And.intro r1 (And.intro r2 (And.intro r3 r4)))
  have H9 := Lib.hid h9
  have HCC := Lib.hid hc
  clear r1 r2 r3 r4 h9 hc
  go_enter Try.func19, Try.ntmps19
  go_wp2_with fail
  refine HC.out.mono ?_
  rintro e w1 ⟨rfl, hb⟩
  have h1 := (hb.block w.heap.size (by rw [H3.out.2.2.2]; omega)).trans H3.out.1
  have ho := (hb.block (w.heap.size + 1) (by rw [H3.out.2.2.2]; omega)).trans H3.out.2.1
  have h2 := (hb.block (w.heap.size + 2) (by rw [H3.out.2.2.2]; omega)).trans H3.out.2.2.1
  have HB1 := Lib.hid (HB.out.trans (hb.mono (by rw [H3.out.2.2.2]; omega)))
  have hs1 : w.heap.size + 3 ≤ w1.heap.size := by have := hb.size; rw [H3.out.2.2.2] at this; omega
  have c1 := blk_cell h1 0
  simp only [List.getElem?_toArray, List.getElem?_cons_zero] at c1
  have H2 := Lib.hid h2
  have HO := Lib.hid ho
  clear hb h1 h2 ho HC HB H3
  have hz1 : w.heap.size < w1.heap.size := by omega
  have hz2 : w1.heap.size ≠ w.heap.size := by omega
  have HR0 := Lib.hid (show Kd.R k75 75 (w1.alloc (.cells #[] 75)) w.heap.size (fun _ => True) (.slice (some ⟨w1.heap.size, 0, none⟩) 0 0) ([] : List S75) from
    ⟨fun _ _ => trivial, [], World.ownsRow_lit w1 #[] 0 (by omega) (by unfold maxLen; omega) rfl, Reps.none _ _⟩)
  have HB0 := Lib.hid (show Below w.heap.size w (w1.alloc (.cells #[] 75)) from HB1.out.alloc (by omega) _)
  go_wp2_with (first
    | (at_builtin; refine Kd.R_append_rows k75 (w0 := w) w.heap.size rfl (.tmp 16) (.tmp 18) 42 75 (.agg #[(.bool false), (.bool false), (.int .i64 0), (.int .i64 0), (.int .i64 0), (.int .i64 0), (.int .i64 0), (.int .i64 0), (.int .i64 0), (.int .i64 0), (.int .i64 0)]) 80 rfl Try.underlying42 info75 rfl (by decide) (by omega) (.slice (some ⟨w1.heap.size, 0, none⟩) 0 0) [] T A T.length c (fun _ => True) (fun _ => False) rfl rfl HR0.out (Kd.C_below HT.out HB0.out) (fun _ _ h => h) (fun _ h => h.elim) (fun _ _ => trivial) HB0.out (by have := HB0.out.size; omega) (by have := H9.out; simp; omega) ?_; intro v1 w2 ho1 hb1 hg1 hat1; have HAP := Lib.hid (And.intro ho1 (And.intro hb1 (And.intro hg1 hat1))); clear ho1 hb1 hg1 hat1; have HO2 := Lib.hid (blk_grown (blk_alloc HO.out _) HAP.out.2.2.1 (by simp [Value.ownBlock]; omega)); have H22 := Lib.hid (blk_grown (blk_alloc H2.out _) HAP.out.2.2.1 (by simp [Value.ownBlock]; omega)); have q2 : w2.cell? ⟨w.heap.size + 1, 2, none⟩ = some (.int .i64 owner) := blk_cell HO2.out 2; clear c1 hz1 hz2)
    | (refine Line.Stop.at (some 23) (.indexAddr 42 (.tmp 20) (.tmp 22)) ?_))
  constructor
  obtain ⟨g, cap, rfl, hcap, hgb, hgl, ⟨cur, hgc⟩, hcell⟩ := after_app (i := owner) H9.out (by have := HRG.out; omega) (by have := HRG.out; omega) (HAP.out.1 : Kd.R k75 75 w2 w.heap.size (fun _ => True) v1 T)
  rw [HX.out] at hcell
  have HCELL := Lib.hid hcell
  have HGC := Lib.hid hgc
  have hi1 : (0 : Int) ≤ owner := by have := HRG.out; omega
  have hi2 : owner < ((9 : Nat) : Int) := by have := HRG.out; omega
  clear hcell hgc
  have hq0 : w2.cell? ⟨g, owner.toNat * 11, none⟩ = some (.bool x.f0) := HCELL.out 0 _ rfl
  have hq1 : w2.cell? ⟨g, owner.toNat * 11 + 1, none⟩ = some (.bool x.f1) := HCELL.out 1 _ rfl
  have hq2 : w2.cell? ⟨g, owner.toNat * 11 + 2, none⟩ = some (.int .i64 x.f2.f0) := HCELL.out 2 _ rfl
  have hq3 : w2.cell? ⟨g, owner.toNat * 11 + 3, none⟩ = some (.int .i64 x.f2.f1) := HCELL.out 3 _ rfl
  have hq4 : w2.cell? ⟨g, owner.toNat * 11 + 4, none⟩ = some (.int .i64 x.f2.f2) := HCELL.out 4 _ rfl
  have hq5 : w2.cell? ⟨g, owner.toNat * 11 + 5, none⟩ = some (.int .i64 x.f2.f3) := HCELL.out 5 _ rfl
  have hq6 : w2.cell? ⟨g, owner.toNat * 11 + 6, none⟩ = some (.int .i64 x.f2.f4) := HCELL.out 6 _ rfl
  have hq7 : w2.cell? ⟨g, owner.toNat * 11 + 7, none⟩ = some (.int .i64 x.f2.f5) := HCELL.out 7 _ rfl
  have hq8 : w2.cell? ⟨g, owner.toNat * 11 + 8, none⟩ = some (.int .i64 x.f2.f6) := HCELL.out 8 _ rfl
  have hq9 : w2.cell? ⟨g, owner.toNat * 11 + 9, none⟩ = some (.int .i64 x.f2.f7) := HCELL.out 9 _ rfl
  have hq10 : w2.cell? ⟨g, owner.toNat * 11 + 10, none⟩ = some (.int .i64 x.f2.f8) := HCELL.out 10 _ rfl
  go_wp2_with (first
    | (refine Line.Stop.at none (.store 75 (.tmp 8) (.tmp 24)) ?_))
  constructor
  refine put_event rfl rfl 75 (.tmp 8) (.tmp 24) rfl w2.heap.size 0 rfl (.agg (cellsT x)) rfl _ (cellsT x) 75 (heap_alloc_last _ _) (by simp [cellsT, Value.cells]) inf75 (by kernel_rfl) (by simp [cellsT, Value.cells]) ?_
  intro w3 h8 g3
  have hq : ∀ i, w3.cell? ⟨w2.heap.size, i, none⟩ = (cellsT x)[i]? := fun i => blk_cell h8 i
  have B3 : Below w2.heap.size w2 w3 := ((Below.refl _ _).alloc (Nat.le_refl _) _).grown g3 (by simp) (fun k e => by injection e; omega)
  have hs2 : w1.heap.size < w2.heap.size := Nat.lt_of_lt_of_le (by simp) HAP.out.2.2.1.size
  have HO3 := Lib.hid ((B3.block (w.heap.size + 1) (by omega)).trans HO2.out)
  have qo : ∀ i, w3.cell? ⟨w.heap.size + 1, i, none⟩ = (cells12 ⟨id, op, owner, v⟩)[i]? := fun i => blk_cell HO3.out i
  have hs1x := hs1
  have hs2x := hs2
  have hgx : w1.heap.size ≤ g := by
    rcases HAP.out.2.2.2 with e | ⟨b, e, hb⟩
    · simp [Value.ownBlock] at e
      omega
    · simp [Value.ownBlock] at e
      simp at hb
      omega
  clear hs1 hs2
  have hop : op = 1 ∨ op = 2 ∨ op = 3 ∨ op = 4 ∨ op = 5 ∨ op = 6 := by have := HRG.out; omega
  have H8 := Lib.hid h8
  have HB3 := Lib.hid B3
  clear h8 g3 B3 hq0 hq1 hq2 hq3 hq4 hq5 hq6 hq7 hq8 hq9 hq10 q2 hgb
  obtain ⟨n8, hn8⟩ : ∃ n8, n8 = w2.heap.size := ⟨_, rfl⟩
  rw [← hn8] at H8 hq ⊢
  have HN8 := Lib.hid hn8
  clear hn8
  have HS := Lib.hid (show w.heap.size + 3 ≤ w1.heap.size ∧ w1.heap.size < w2.heap.size from ⟨hs1x, hs2x⟩)
  have HG2 := Lib.hid (show w1.heap.size ≤ g from hgx)
  clear hs1x hs2x hgx
  rcases hop with rfl | rfl | rfl | rfl | rfl | rfl
  · go_wp2_with (first
      | (refine Line.Stop.at none (.store 75 (.tmp 8) (.tmp 31)) ?_))
    constructor
    refine put_event rfl rfl 75 (.tmp 8) (.tmp 31) rfl n8 0 rfl (.agg (cellsT ⟨true, false, v24 v⟩)) rfl _ (cellsT ⟨true, false, v24 v⟩) 75 H8.out (by simp [cellsT, cells9, Value.cells]) inf75 (by kernel_rfl) (by simp [cellsT, cells9, v24, Value.cells]) ?_
    intro w4 h9 g4
    have B4 := HB3.out.grown g4 HB3.out.size (fun k e => by injection e with e; rw [← e, HN8.out]; exact Nat.le_refl _)
    clear g4
    clear hq qo
    obtain ⟨y, hy⟩ : ∃ y, y = (⟨true, false, v24 v⟩ : S75) := ⟨_, rfl⟩
    rw [← hy] at h9
    have HY := Lib.hid (show y = stepT x ⟨id, 1, owner, v⟩ from hy)
    clear hy
    have p0 : w4.cell? ⟨n8, 0, none⟩ = some (.bool y.f0) := blk_cell h9 0
    have p1 : w4.cell? ⟨n8, 1, none⟩ = some (.bool y.f1) := blk_cell h9 1
    have p2 : w4.cell? ⟨n8, 2, none⟩ = some (.int .i64 y.f2.f0) := blk_cell h9 2
    have p3 : w4.cell? ⟨n8, 3, none⟩ = some (.int .i64 y.f2.f1) := blk_cell h9 3
    have p4 : w4.cell? ⟨n8, 4, none⟩ = some (.int .i64 y.f2.f2) := blk_cell h9 4
    have p5 : w4.cell? ⟨n8, 5, none⟩ = some (.int .i64 y.f2.f3) := blk_cell h9 5
    have p6 : w4.cell? ⟨n8, 6, none⟩ = some (.int .i64 y.f2.f4) := blk_cell h9 6
    have p7 : w4.cell? ⟨n8, 7, none⟩ = some (.int .i64 y.f2.f5) := blk_cell h9 7
    have p8 : w4.cell? ⟨n8, 8, none⟩ = some (.int .i64 y.f2.f6) := blk_cell h9 8
    have p9 : w4.cell? ⟨n8, 9, none⟩ = some (.int .i64 y.f2.f7) := blk_cell h9 9
    have p10 : w4.cell? ⟨n8, 10, none⟩ = some (.int .i64 y.f2.f8) := blk_cell h9 10
    have HB4 := Lib.hid B4
    have hws := HS.out
    have q2 : w4.cell? ⟨w.heap.size + 1, 2, none⟩ = some (.int .i64 owner) := blk_cell ((HB4.out.block (w.heap.size + 1) (by omega)).trans HO2.out) 2
    have HR4 := Lib.hid (Kd.R_step (HAP.out.1 : Kd.R k75 75 w2 w.heap.size (fun _ => True) (.slice (some ⟨g, 0, none⟩) 9 cap) T) (fun k _ hk => HB4.out.block k hk))
    have HBW := Lib.hid (HAP.out.2.1.trans (HB4.out.mono (by omega)))
    clear h9 B4
    go_wp2_with (first
      | (refine Line.Stop.at none (.store 75 (.tmp 50) (.tmp 49)) ?_))
    constructor
    refine Kd.R_store k75 (w0 := w) w.heap.size rfl rfl 75 (.tmp 50) (.tmp 49) rfl 75 (g := g) (n := 9) (cap := cap) (o' := owner.toNat * 11) owner 0 T y (.agg (cellsT y)) (cellsT y).toList (cellsT x).toList (fun _ => True) (fun _ => False) rfl rfl rfl rfl inf75 ?h1 HR4.out hi1 hi2 rfl ?cc (Nat.le_refl _) ?mm (fun _ h => h.elim) HBW.out ?_
    case h1 => simp [cellsT, Value.oneCell']
    case cc => exact fun j u hj => (World.cell?_of_block (a := ⟨g, owner.toNat * 11 + j, none⟩) (HB4.out.block g hgl)).trans (HCELL.out j u (by simpa using hj))
    case mm => exact k75_mkM _ _ _ _
    intro w5 hR5 hB5 hg5
    have h25 : w5.heap[w.heap.size + 2]? = some (.cells #[.slice none 0 0] 44) := blk_grown ((HB4.out.block (w.heap.size + 2) (by omega)).trans H22.out) hg5 (by intro e; injection e with e; have := HG2.out; omega)
    have c5 := blk_cell h25 0
    simp only [List.getElem?_toArray, List.getElem?_cons_zero] at c5
    have f5 := blk_frozen h25 0
    have HR5 := Lib.hid hR5
    have HB5 := Lib.hid hB5
    have H25 := Lib.hid h25
    clear hR5 hB5 hg5 h25 p0 p1 p2 p3 p4 p5 p6 p7 p8 p9 p10 q2
    go_wp2_with fail
    exact bodyPost_ret (v := .tuple #[.agg #[.slice (some ⟨g, 0, none⟩) 9 cap], .int .i64 0]) (by simp [results, Try.f19, go_sem, Try.underlying44, c5]) rfl ⟨_, rfl, HY.out ▸ Kd.R_set HR5.out H25.out (by decide) 0 _, HB5.out.setCell (by simp; omega) _⟩
  · go_wp2_with (first
      | (refine Line.Stop.at none (.store 4 (.tmp 34) (.const (.bool true))) ?_))
    constructor
    refine put_event rfl rfl 4 (.tmp 34) (.const (.bool true)) rfl n8 1 rfl (.bool true) rfl _ (cellsT ⟨x.f0, true, x.f2⟩) 75 H8.out (by simp [cellsT, cells9, Value.cells]) inf4 (by kernel_rfl) (by simp [cellsT, cells9, v24, Value.cells]) ?_
    intro w4 h9 g4
    have B4 := HB3.out.grown g4 HB3.out.size (fun k e => by injection e with e; rw [← e, HN8.out]; exact Nat.le_refl _)
    clear g4
    clear hq qo
    obtain ⟨y, hy⟩ : ∃ y, y = (⟨x.f0, true, x.f2⟩ : S75) := ⟨_, rfl⟩
    rw [← hy] at h9
    have HY := Lib.hid (show y = stepT x ⟨id, 2, owner, v⟩ from hy)
    clear hy
    have p0 : w4.cell? ⟨n8, 0, none⟩ = some (.bool y.f0) := blk_cell h9 0
    have p1 : w4.cell? ⟨n8, 1, none⟩ = some (.bool y.f1) := blk_cell h9 1
    have p2 : w4.cell? ⟨n8, 2, none⟩ = some (.int .i64 y.f2.f0) := blk_cell h9 2
    have p3 : w4.cell? ⟨n8, 3, none⟩ = some (.int .i64 y.f2.f1) := blk_cell h9 3
    have p4 : w4.cell? ⟨n8, 4, none⟩ = some (.int .i64 y.f2.f2) := blk_cell h9 4
    have p5 : w4.cell? ⟨n8, 5, none⟩ = some (.int .i64 y.f2.f3) := blk_cell h9 5
    have p6 : w4.cell? ⟨n8, 6, none⟩ = some (.int .i64 y.f2.f4) := blk_cell h9 6
    have p7 : w4.cell? ⟨n8, 7, none⟩ = some (.int .i64 y.f2.f5) := blk_cell h9 7
    have p8 : w4.cell? ⟨n8, 8, none⟩ = some (.int .i64 y.f2.f6) := blk_cell h9 8
    have p9 : w4.cell? ⟨n8, 9, none⟩ = some (.int .i64 y.f2.f7) := blk_cell h9 9
    have p10 : w4.cell? ⟨n8, 10, none⟩ = some (.int .i64 y.f2.f8) := blk_cell h9 10
    have HB4 := Lib.hid B4
    have hws := HS.out
    have q2 : w4.cell? ⟨w.heap.size + 1, 2, none⟩ = some (.int .i64 owner) := blk_cell ((HB4.out.block (w.heap.size + 1) (by omega)).trans HO2.out) 2
    have HR4 := Lib.hid (Kd.R_step (HAP.out.1 : Kd.R k75 75 w2 w.heap.size (fun _ => True) (.slice (some ⟨g, 0, none⟩) 9 cap) T) (fun k _ hk => HB4.out.block k hk))
    have HBW := Lib.hid (HAP.out.2.1.trans (HB4.out.mono (by omega)))
    clear h9 B4
    go_wp2_with (first
      | (refine Line.Stop.at none (.store 75 (.tmp 50) (.tmp 49)) ?_))
    constructor
    refine Kd.R_store k75 (w0 := w) w.heap.size rfl rfl 75 (.tmp 50) (.tmp 49) rfl 75 (g := g) (n := 9) (cap := cap) (o' := owner.toNat * 11) owner 0 T y (.agg (cellsT y)) (cellsT y).toList (cellsT x).toList (fun _ => True) (fun _ => False) rfl rfl rfl rfl inf75 ?h1 HR4.out hi1 hi2 rfl ?cc (Nat.le_refl _) ?mm (fun _ h => h.elim) HBW.out ?_
    case h1 => simp [cellsT, Value.oneCell']
    case cc => exact fun j u hj => (World.cell?_of_block (a := ⟨g, owner.toNat * 11 + j, none⟩) (HB4.out.block g hgl)).trans (HCELL.out j u (by simpa using hj))
    case mm => exact k75_mkM _ _ _ _
    intro w5 hR5 hB5 hg5
    have h25 : w5.heap[w.heap.size + 2]? = some (.cells #[.slice none 0 0] 44) := blk_grown ((HB4.out.block (w.heap.size + 2) (by omega)).trans H22.out) hg5 (by intro e; injection e with e; have := HG2.out; omega)
    have c5 := blk_cell h25 0
    simp only [List.getElem?_toArray, List.getElem?_cons_zero] at c5
    have f5 := blk_frozen h25 0
    have HR5 := Lib.hid hR5
    have HB5 := Lib.hid hB5
    have H25 := Lib.hid h25
    clear hR5 hB5 hg5 h25 p0 p1 p2 p3 p4 p5 p6 p7 p8 p9 p10 q2
    go_wp2_with fail
    exact bodyPost_ret (v := .tuple #[.agg #[.slice (some ⟨g, 0, none⟩) 9 cap], .int .i64 0]) (by simp [results, Try.f19, go_sem, Try.underlying44, c5]) rfl ⟨_, rfl, HY.out ▸ Kd.R_set HR5.out H25.out (by decide) 0 _, HB5.out.setCell (by simp; omega) _⟩
  · go_wp2_with (first
      | (refine Line.Stop.at none (.store 4 (.tmp 37) (.const (.bool false))) ?_))
    constructor
    refine put_event rfl rfl 4 (.tmp 37) (.const (.bool false)) rfl n8 1 rfl (.bool false) rfl _ (cellsT ⟨x.f0, false, x.f2⟩) 75 H8.out (by simp [cellsT, cells9, Value.cells]) inf4 (by kernel_rfl) (by simp [cellsT, cells9, v24, Value.cells]) ?_
    intro w4 h9 g4
    have B4 := HB3.out.grown g4 HB3.out.size (fun k e => by injection e with e; rw [← e, HN8.out]; exact Nat.le_refl _)
    clear g4
    clear hq qo
    obtain ⟨y, hy⟩ : ∃ y, y = (⟨x.f0, false, x.f2⟩ : S75) := ⟨_, rfl⟩
    rw [← hy] at h9
    have HY := Lib.hid (show y = stepT x ⟨id, 3, owner, v⟩ from hy)
    clear hy
    have p0 : w4.cell? ⟨n8, 0, none⟩ = some (.bool y.f0) := blk_cell h9 0
    have p1 : w4.cell? ⟨n8, 1, none⟩ = some (.bool y.f1) := blk_cell h9 1
    have p2 : w4.cell? ⟨n8, 2, none⟩ = some (.int .i64 y.f2.f0) := blk_cell h9 2
    have p3 : w4.cell? ⟨n8, 3, none⟩ = some (.int .i64 y.f2.f1) := blk_cell h9 3
    have p4 : w4.cell? ⟨n8, 4, none⟩ = some (.int .i64 y.f2.f2) := blk_cell h9 4
    have p5 : w4.cell? ⟨n8, 5, none⟩ = some (.int .i64 y.f2.f3) := blk_cell h9 5
    have p6 : w4.cell? ⟨n8, 6, none⟩ = some (.int .i64 y.f2.f4) := blk_cell h9 6
    have p7 : w4.cell? ⟨n8, 7, none⟩ = some (.int .i64 y.f2.f5) := blk_cell h9 7
    have p8 : w4.cell? ⟨n8, 8, none⟩ = some (.int .i64 y.f2.f6) := blk_cell h9 8
    have p9 : w4.cell? ⟨n8, 9, none⟩ = some (.int .i64 y.f2.f7) := blk_cell h9 9
    have p10 : w4.cell? ⟨n8, 10, none⟩ = some (.int .i64 y.f2.f8) := blk_cell h9 10
    have HB4 := Lib.hid B4
    have hws := HS.out
    have q2 : w4.cell? ⟨w.heap.size + 1, 2, none⟩ = some (.int .i64 owner) := blk_cell ((HB4.out.block (w.heap.size + 1) (by omega)).trans HO2.out) 2
    have HR4 := Lib.hid (Kd.R_step (HAP.out.1 : Kd.R k75 75 w2 w.heap.size (fun _ => True) (.slice (some ⟨g, 0, none⟩) 9 cap) T) (fun k _ hk => HB4.out.block k hk))
    have HBW := Lib.hid (HAP.out.2.1.trans (HB4.out.mono (by omega)))
    clear h9 B4
    go_wp2_with (first
      | (refine Line.Stop.at none (.store 75 (.tmp 50) (.tmp 49)) ?_))
    constructor
    refine Kd.R_store k75 (w0 := w) w.heap.size rfl rfl 75 (.tmp 50) (.tmp 49) rfl 75 (g := g) (n := 9) (cap := cap) (o' := owner.toNat * 11) owner 0 T y (.agg (cellsT y)) (cellsT y).toList (cellsT x).toList (fun _ => True) (fun _ => False) rfl rfl rfl rfl inf75 ?h1 HR4.out hi1 hi2 rfl ?cc (Nat.le_refl _) ?mm (fun _ h => h.elim) HBW.out ?_
    case h1 => simp [cellsT, Value.oneCell']
    case cc => exact fun j u hj => (World.cell?_of_block (a := ⟨g, owner.toNat * 11 + j, none⟩) (HB4.out.block g hgl)).trans (HCELL.out j u (by simpa using hj))
    case mm => exact k75_mkM _ _ _ _
    intro w5 hR5 hB5 hg5
    have h25 : w5.heap[w.heap.size + 2]? = some (.cells #[.slice none 0 0] 44) := blk_grown ((HB4.out.block (w.heap.size + 2) (by omega)).trans H22.out) hg5 (by intro e; injection e with e; have := HG2.out; omega)
    have c5 := blk_cell h25 0
    simp only [List.getElem?_toArray, List.getElem?_cons_zero] at c5
    have f5 := blk_frozen h25 0
    have HR5 := Lib.hid hR5
    have HB5 := Lib.hid hB5
    have H25 := Lib.hid h25
    clear hR5 hB5 hg5 h25 p0 p1 p2 p3 p4 p5 p6 p7 p8 p9 p10 q2
    go_wp2_with fail
    exact bodyPost_ret (v := .tuple #[.agg #[.slice (some ⟨g, 0, none⟩) 9 cap], .int .i64 0]) (by simp [results, Try.f19, go_sem, Try.underlying44, c5]) rfl ⟨_, rfl, HY.out ▸ Kd.R_set HR5.out H25.out (by decide) 0 _, HB5.out.setCell (by simp; omega) _⟩
  · go_wp2_with (first
      | (refine Line.Stop.at none (.store 75 (.tmp 8) (.tmp 40)) ?_))
    constructor
    refine put_event rfl rfl 75 (.tmp 8) (.tmp 40) rfl n8 0 rfl (.agg (cellsT z75)) rfl _ (cellsT z75) 75 H8.out (by simp [cellsT, cells9, Value.cells]) inf75 (by kernel_rfl) (by simp [cellsT, cells9, v24, Value.cells]) ?_
    intro w4 h9 g4
    have B4 := HB3.out.grown g4 HB3.out.size (fun k e => by injection e with e; rw [← e, HN8.out]; exact Nat.le_refl _)
    clear g4
    clear hq qo
    obtain ⟨y, hy⟩ : ∃ y, y = (z75 : S75) := ⟨_, rfl⟩
    rw [← hy] at h9
    have HY := Lib.hid (show y = stepT x ⟨id, 4, owner, v⟩ from hy)
    clear hy
    have p0 : w4.cell? ⟨n8, 0, none⟩ = some (.bool y.f0) := blk_cell h9 0
    have p1 : w4.cell? ⟨n8, 1, none⟩ = some (.bool y.f1) := blk_cell h9 1
    have p2 : w4.cell? ⟨n8, 2, none⟩ = some (.int .i64 y.f2.f0) := blk_cell h9 2
    have p3 : w4.cell? ⟨n8, 3, none⟩ = some (.int .i64 y.f2.f1) := blk_cell h9 3
    have p4 : w4.cell? ⟨n8, 4, none⟩ = some (.int .i64 y.f2.f2) := blk_cell h9 4
    have p5 : w4.cell? ⟨n8, 5, none⟩ = some (.int .i64 y.f2.f3) := blk_cell h9 5
    have p6 : w4.cell? ⟨n8, 6, none⟩ = some (.int .i64 y.f2.f4) := blk_cell h9 6
    have p7 : w4.cell? ⟨n8, 7, none⟩ = some (.int .i64 y.f2.f5) := blk_cell h9 7
    have p8 : w4.cell? ⟨n8, 8, none⟩ = some (.int .i64 y.f2.f6) := blk_cell h9 8
    have p9 : w4.cell? ⟨n8, 9, none⟩ = some (.int .i64 y.f2.f7) := blk_cell h9 9
    have p10 : w4.cell? ⟨n8, 10, none⟩ = some (.int .i64 y.f2.f8) := blk_cell h9 10
    have HB4 := Lib.hid B4
    have hws := HS.out
    have q2 : w4.cell? ⟨w.heap.size + 1, 2, none⟩ = some (.int .i64 owner) := blk_cell ((HB4.out.block (w.heap.size + 1) (by omega)).trans HO2.out) 2
    have HR4 := Lib.hid (Kd.R_step (HAP.out.1 : Kd.R k75 75 w2 w.heap.size (fun _ => True) (.slice (some ⟨g, 0, none⟩) 9 cap) T) (fun k _ hk => HB4.out.block k hk))
    have HBW := Lib.hid (HAP.out.2.1.trans (HB4.out.mono (by omega)))
    clear h9 B4
    go_wp2_with (first
      | (refine Line.Stop.at none (.store 75 (.tmp 50) (.tmp 49)) ?_))
    constructor
    refine Kd.R_store k75 (w0 := w) w.heap.size rfl rfl 75 (.tmp 50) (.tmp 49) rfl 75 (g := g) (n := 9) (cap := cap) (o' := owner.toNat * 11) owner 0 T y (.agg (cellsT y)) (cellsT y).toList (cellsT x).toList (fun _ => True) (fun _ => False) rfl rfl rfl rfl inf75 ?h1 HR4.out hi1 hi2 rfl ?cc (Nat.le_refl _) ?mm (fun _ h => h.elim) HBW.out ?_
    case h1 => simp [cellsT, Value.oneCell']
    case cc => exact fun j u hj => (World.cell?_of_block (a := ⟨g, owner.toNat * 11 + j, none⟩) (HB4.out.block g hgl)).trans (HCELL.out j u (by simpa using hj))
    case mm => exact k75_mkM _ _ _ _
    intro w5 hR5 hB5 hg5
    have h25 : w5.heap[w.heap.size + 2]? = some (.cells #[.slice none 0 0] 44) := blk_grown ((HB4.out.block (w.heap.size + 2) (by omega)).trans H22.out) hg5 (by intro e; injection e with e; have := HG2.out; omega)
    have c5 := blk_cell h25 0
    simp only [List.getElem?_toArray, List.getElem?_cons_zero] at c5
    have f5 := blk_frozen h25 0
    have HR5 := Lib.hid hR5
    have HB5 := Lib.hid hB5
    have H25 := Lib.hid h25
    clear hR5 hB5 hg5 h25 p0 p1 p2 p3 p4 p5 p6 p7 p8 p9 p10 q2
    go_wp2_with fail
    exact bodyPost_ret (v := .tuple #[.agg #[.slice (some ⟨g, 0, none⟩) 9 cap], .int .i64 0]) (by simp [results, Try.f19, go_sem, Try.underlying44, c5]) rfl ⟨_, rfl, HY.out ▸ Kd.R_set HR5.out H25.out (by decide) 0 _, HB5.out.setCell (by simp; omega) _⟩
  · obtain ⟨w4, hw4⟩ : ∃ w4, w4 = w3 := ⟨_, rfl⟩
    have h9 := H8.out
    have B4 := HB3.out
    rw [← hw4] at h9 B4 ⊢
    rw [← hw4] at qo hq
    clear hw4
    have qp : w4.cell? ⟨w.heap.size + 1, 1, none⟩ = some (.int .i64 5) := qo 1
    clear hq qo
    obtain ⟨y, hy⟩ : ∃ y, y = (x : S75) := ⟨_, rfl⟩
    rw [← hy] at h9
    have HY := Lib.hid (show y = stepT x ⟨id, 5, owner, v⟩ from hy)
    clear hy
    have p0 : w4.cell? ⟨n8, 0, none⟩ = some (.bool y.f0) := blk_cell h9 0
    have p1 : w4.cell? ⟨n8, 1, none⟩ = some (.bool y.f1) := blk_cell h9 1
    have p2 : w4.cell? ⟨n8, 2, none⟩ = some (.int .i64 y.f2.f0) := blk_cell h9 2
    have p3 : w4.cell? ⟨n8, 3, none⟩ = some (.int .i64 y.f2.f1) := blk_cell h9 3
    have p4 : w4.cell? ⟨n8, 4, none⟩ = some (.int .i64 y.f2.f2) := blk_cell h9 4
    have p5 : w4.cell? ⟨n8, 5, none⟩ = some (.int .i64 y.f2.f3) := blk_cell h9 5
    have p6 : w4.cell? ⟨n8, 6, none⟩ = some (.int .i64 y.f2.f4) := blk_cell h9 6
    have p7 : w4.cell? ⟨n8, 7, none⟩ = some (.int .i64 y.f2.f5) := blk_cell h9 7
    have p8 : w4.cell? ⟨n8, 8, none⟩ = some (.int .i64 y.f2.f6) := blk_cell h9 8
    have p9 : w4.cell? ⟨n8, 9, none⟩ = some (.int .i64 y.f2.f7) := blk_cell h9 9
    have p10 : w4.cell? ⟨n8, 10, none⟩ = some (.int .i64 y.f2.f8) := blk_cell h9 10
    have HB4 := Lib.hid B4
    have hws := HS.out
    have q2 : w4.cell? ⟨w.heap.size + 1, 2, none⟩ = some (.int .i64 owner) := blk_cell ((HB4.out.block (w.heap.size + 1) (by omega)).trans HO2.out) 2
    have HR4 := Lib.hid (Kd.R_step (HAP.out.1 : Kd.R k75 75 w2 w.heap.size (fun _ => True) (.slice (some ⟨g, 0, none⟩) 9 cap) T) (fun k _ hk => HB4.out.block k hk))
    have HBW := Lib.hid (HAP.out.2.1.trans (HB4.out.mono (by omega)))
    clear h9 B4
    go_wp2_with (first
      | (refine Line.Stop.at none (.store 75 (.tmp 50) (.tmp 49)) ?_))
    constructor
    refine Kd.R_store k75 (w0 := w) w.heap.size rfl rfl 75 (.tmp 50) (.tmp 49) rfl 75 (g := g) (n := 9) (cap := cap) (o' := owner.toNat * 11) owner 0 T y (.agg (cellsT y)) (cellsT y).toList (cellsT x).toList (fun _ => True) (fun _ => False) rfl rfl rfl rfl inf75 ?h1 HR4.out hi1 hi2 rfl ?cc (Nat.le_refl _) ?mm (fun _ h => h.elim) HBW.out ?_
    case h1 => simp [cellsT, Value.oneCell']
    case cc => exact fun j u hj => (World.cell?_of_block (a := ⟨g, owner.toNat * 11 + j, none⟩) (HB4.out.block g hgl)).trans (HCELL.out j u (by simpa using hj))
    case mm => exact k75_mkM _ _ _ _
    intro w5 hR5 hB5 hg5
    have h25 : w5.heap[w.heap.size + 2]? = some (.cells #[.slice none 0 0] 44) := blk_grown ((HB4.out.block (w.heap.size + 2) (by omega)).trans H22.out) hg5 (by intro e; injection e with e; have := HG2.out; omega)
    have c5 := blk_cell h25 0
    simp only [List.getElem?_toArray, List.getElem?_cons_zero] at c5
    have f5 := blk_frozen h25 0
    have HR5 := Lib.hid hR5
    have HB5 := Lib.hid hB5
    have H25 := Lib.hid h25
    clear hR5 hB5 hg5 h25 p0 p1 p2 p3 p4 p5 p6 p7 p8 p9 p10 q2
    go_wp2_with fail
    exact bodyPost_ret (v := .tuple #[.agg #[.slice (some ⟨g, 0, none⟩) 9 cap], .int .i64 0]) (by simp [results, Try.f19, go_sem, Try.underlying44, c5]) rfl ⟨_, rfl, HY.out ▸ Kd.R_set HR5.out H25.out (by decide) 0 _, HB5.out.setCell (by simp; omega) _⟩
  · go_wp2_with (first
      | (refine Line.Stop.at none (.store 24 (.tmp 45) (.tmp 44)) ?_))
    constructor
    refine put_event rfl rfl 24 (.tmp 45) (.tmp 44) rfl n8 2 rfl (.agg (cells9 v)) rfl _ (cellsT ⟨x.f0, x.f1, v24 v⟩) 75 H8.out (by simp [cellsT, cells9, Value.cells]) inf24 (by kernel_rfl) (by simp [cellsT, cells9, v24, Value.cells]) ?_
    intro w4 h9 g4
    have B4 := HB3.out.grown g4 HB3.out.size (fun k e => by injection e with e; rw [← e, HN8.out]; exact Nat.le_refl _)
    clear g4
    clear hq qo
    obtain ⟨y, hy⟩ : ∃ y, y = (⟨x.f0, x.f1, v24 v⟩ : S75) := ⟨_, rfl⟩
    rw [← hy] at h9
    have HY := Lib.hid (show y = stepT x ⟨id, 6, owner, v⟩ from hy)
    clear hy
    have p0 : w4.cell? ⟨n8, 0, none⟩ = some (.bool y.f0) := blk_cell h9 0
    have p1 : w4.cell? ⟨n8, 1, none⟩ = some (.bool y.f1) := blk_cell h9 1
    have p2 : w4.cell? ⟨n8, 2, none⟩ = some (.int .i64 y.f2.f0) := blk_cell h9 2
    have p3 : w4.cell? ⟨n8, 3, none⟩ = some (.int .i64 y.f2.f1) := blk_cell h9 3
    have p4 : w4.cell? ⟨n8, 4, none⟩ = some (.int .i64 y.f2.f2) := blk_cell h9 4
    have p5 : w4.cell? ⟨n8, 5, none⟩ = some (.int .i64 y.f2.f3) := blk_cell h9 5
    have p6 : w4.cell? ⟨n8, 6, none⟩ = some (.int .i64 y.f2.f4) := blk_cell h9 6
    have p7 : w4.cell? ⟨n8, 7, none⟩ = some (.int .i64 y.f2.f5) := blk_cell h9 7
    have p8 : w4.cell? ⟨n8, 8, none⟩ = some (.int .i64 y.f2.f6) := blk_cell h9 8
    have p9 : w4.cell? ⟨n8, 9, none⟩ = some (.int .i64 y.f2.f7) := blk_cell h9 9
    have p10 : w4.cell? ⟨n8, 10, none⟩ = some (.int .i64 y.f2.f8) := blk_cell h9 10
    have HB4 := Lib.hid B4
    have hws := HS.out
    have q2 : w4.cell? ⟨w.heap.size + 1, 2, none⟩ = some (.int .i64 owner) := blk_cell ((HB4.out.block (w.heap.size + 1) (by omega)).trans HO2.out) 2
    have HR4 := Lib.hid (Kd.R_step (HAP.out.1 : Kd.R k75 75 w2 w.heap.size (fun _ => True) (.slice (some ⟨g, 0, none⟩) 9 cap) T) (fun k _ hk => HB4.out.block k hk))
    have HBW := Lib.hid (HAP.out.2.1.trans (HB4.out.mono (by omega)))
    clear h9 B4
    go_wp2_with (first
      | (refine Line.Stop.at none (.store 75 (.tmp 50) (.tmp 49)) ?_))
    constructor
    refine Kd.R_store k75 (w0 := w) w.heap.size rfl rfl 75 (.tmp 50) (.tmp 49) rfl 75 (g := g) (n := 9) (cap := cap) (o' := owner.toNat * 11) owner 0 T y (.agg (cellsT y)) (cellsT y).toList (cellsT x).toList (fun _ => True) (fun _ => False) rfl rfl rfl rfl inf75 ?h1 HR4.out hi1 hi2 rfl ?cc (Nat.le_refl _) ?mm (fun _ h => h.elim) HBW.out ?_
    case h1 => simp [cellsT, Value.oneCell']
    case cc => exact fun j u hj => (World.cell?_of_block (a := ⟨g, owner.toNat * 11 + j, none⟩) (HB4.out.block g hgl)).trans (HCELL.out j u (by simpa using hj))
    case mm => exact k75_mkM _ _ _ _
    intro w5 hR5 hB5 hg5
    have h25 : w5.heap[w.heap.size + 2]? = some (.cells #[.slice none 0 0] 44) := blk_grown ((HB4.out.block (w.heap.size + 2) (by omega)).trans H22.out) hg5 (by intro e; injection e with e; have := HG2.out; omega)
    have c5 := blk_cell h25 0
    simp only [List.getElem?_toArray, List.getElem?_cons_zero] at c5
    have f5 := blk_frozen h25 0
    have HR5 := Lib.hid hR5
    have HB5 := Lib.hid hB5
    have H25 := Lib.hid h25
    clear hR5 hB5 hg5 h25 p0 p1 p2 p3 p4 p5 p6 p7 p8 p9 p10 q2
    go_wp2_with fail
    exact bodyPost_ret (v := .tuple #[.agg #[.slice (some ⟨g, 0, none⟩) 9 cap], .int .i64 0]) (by simp [results, Try.f19, go_sem, Try.underlying44, c5]) rfl ⟨_, rfl, HY.out ▸ Kd.R_set HR5.out H25.out (by decide) 0 _, HB5.out.setCell (by simp; omega) _⟩
end Go.Proofs.Ytdnhmlpjohojdaa.Adm.Bk
