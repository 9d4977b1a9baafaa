/-
  AdminDoes, walked.
-/
import Derived.Test.YtdnhmlpjohojdaaDoes
set_option linter.unusedVariables false
set_option linter.unusedSimpArgs false
namespace Go.Proofs.Ytdnhmlpjohojdaa.Adm.Bk
open Go.RowKit Go.Maps Go.WideMaps Go.Proofs.Ytdnhmlpjohojdaa.Tab Go.Proofs.Ytdnhmlpjohojdaa.Adm Go.Proofs.Ytdnhmlpjohojdaa.R Go.Proofs.YtdnhmlpjohojdaaW.PrintWords Go.Proofs.YtdnhmlpjohojdaaW.PrintLast Go.Proofs.YtdnhmlpjohojdaaW.PrintMore
attribute [local go_sem ↓] Go.wp_at_zero Go.wp_at_succ
theorem New_ref (w : World) : Calls Try.prog 15 #[] w fun e w' => ∃ A c, e = .returned (.agg #[.slice A 9 c]) ∧ Kd.R k75 75 w' w.heap.size (fun _ => True) (.slice A 9 c) (List.replicate 9 z75) ∧ Below w.heap.size w w' := by
  refine (concourseref41_New.calls _ w (if_pos (by omega))).mono ?_
  rintro e w' ⟨v, rfl, hR, hb⟩
  obtain ⟨A, c, e, _, _⟩ := Kd.R_reads hR
  subst e
  exact ⟨A, c, rfl, hR, hb⟩
theorem Ds.start {w w2 : World} {A0 : Option Addr} {c0 : Nat} (hb0 : Below (w.alloc (.cells #[.map none] 54)).heap.size (w.alloc (.cells #[.map none] 54)) w2) (hR0 : Kd.R k75 75 w2 (w.alloc (.cells #[.map none] 54)).heap.size (fun _ => True) (.slice A0 9 c0) (List.replicate 9 z75)) :
    Ds w (w2.alloc (.cells #[.slice A0 9 c0] 44)) w.heap.size w2.heap.size none 0 [] A0 c0 (List.replicate 9 z75) := by
  obtain ⟨A1, c1, e, hc, hC, g, cur, e2, hg⟩ := row_of_R hR0 rfl
  injection e with e1 e3 e4
  subst e1 e4
  have hba : Below w2.heap.size w2 (w2.alloc (.cells #[.slice A0 9 c0] 44)) := (Below.refl _ _).alloc (Nat.le_refl _) _
  have hB0 : BookAt (w.alloc (.cells #[.map none] 54)) w.heap.size none 0 [] := ⟨heap_alloc_last _ _, rfl⟩
  have hw1 : w.heap.size ≤ (w.alloc (.cells #[.map none] 54)).heap.size := by simp
  exact ⟨(hB0.below hb0).below hba, Kd.C_below hC hba, hc, ⟨g, cur, e2, (hba.block _ (blk_lt hg)).trans hg⟩, heap_alloc_last _ _, (((Below.refl _ w).alloc (Nat.le_refl _) _).trans (hb0.mono hw1)).trans (hba.mono (Nat.le_trans hw1 hb0.size)), Nat.le_refl _, Nat.le_trans hw1 hb0.size, fun b e => by cases e⟩
theorem below_ad (w : World) (o : Obj) : Below w.heap.size w (w.alloc o).drew := ((Below.refl _ _).alloc (Nat.le_refl _) o).drew
theorem Ds.mono {w W : World} {bs rb n m c : Nat} {mb : Option Nat} {M : Mp} {A : Option Addr} {T : TT} (h : Ds w W bs rb mb n M A c T) (hm : n ≤ m) : Ds w W bs rb mb m M A c T :=
  ⟨⟨h.book.box, h.book.map.mono hm⟩, h.ref, h.hc, h.row, h.box, h.below, h.hbs, h.hrb, h.hb⟩
theorem Ds.again {w W : World} {bs rb n c : Nat} {mb : Option Nat} {M : Mp} {A : Option Addr} {T : TT} (h : Ds w W bs rb mb n M A c T) : Ds w (W.setCell ⟨rb, 0, none⟩ (.slice A T.length c)) bs rb mb n M A c T := by
  refine h.move ⟨rfl, rfl, rfl, by simp, fun k hk => ?_⟩
  by_cases e : k = rb
  · subst e
    exact (blk_put h.box 0 _ rfl).trans h.box.symm
  · exact Below.heap_setCell W ⟨rb, 0, none⟩ _ k e
theorem Ds.side {w W : World} {bs rb n c p : Nat} {mb : Option Nat} {M : Mp} {A : Option Addr} {T : TT} (h : Ds w W bs rb mb n M A c T) {cs : Array Value} (hp : W.heap[p]? = some (.cells cs 44 (0, 0))) (hw : w.heap.size ≤ p) (hne : p ≠ rb) (u : Value) : Ds w (W.setCell ⟨p, 0, none⟩ u) bs rb mb n M A c T := by
  have far : ∀ k, k ≠ p → (W.setCell ⟨p, 0, none⟩ u).heap[k]? = W.heap[k]? := fun k hk => Below.heap_setCell W ⟨p, 0, none⟩ _ k hk
  have nt : ∀ (k : Nat) (t : TypeId) (cs : Array Value), W.heap[k]? = some (.cells cs t (0, 0)) → t ≠ 44 → k ≠ p := by
    rintro k t cs hk ht rfl
    have := hk.symm.trans hp
    injection this with this
    injection this with _ this
    exact ht this
  obtain ⟨g, cur, e, hg⟩ := h.row
  have hgp := nt g _ _ hg (by decide)
  subst e
  exact ⟨⟨(far bs (nt bs _ _ h.book.box (by decide))).trans h.book.box, h.book.map.move fun b e => by subst e; exact far b (fun e => mb_ne h.book _ _ (e ▸ hp))⟩, C_block h.ref (far g hgp), h.hc, ⟨g, cur, rfl, (far g hgp).trans hg⟩, (far rb hne.symm).trans h.box, h.below.setCell hw _, h.hbs, h.hrb, h.hb⟩
theorem RefDo_C {w W : World} {bs rb n c : Nat} {mb : Option Nat} {M M0 : Mp} {A : Option Addr} {T : TT} (h : Ds w W bs rb mb n M0 A c T) (hs : Sees M T) {o : Order} (hw : why M o = 0) {T' : TT} (hT : T.set o.owner.toNat (stepT (rd_T75 T o.owner) o) = T') (h9 : T'.length = 9) :
    Calls Try.prog 19 #[.agg #[.slice A T.length c], ordV o] W fun e w' => ∃ A' c', e = .returned (.tuple #[.agg #[.slice A' T'.length c'], .int .i64 0]) ∧ Kd.R k75 75 w' W.heap.size (fun _ => True) (.slice A' T'.length c') T' ∧ Below W.heap.size W w' := by
  refine (RefDo_yes 10 A c T o W h.ref h.hc ((chk_why hs o).trans (by rw [hw])) hs.len).mono ?_
  rintro e w' ⟨v, rfl, hR, hb⟩
  rw [hT] at hR
  obtain ⟨A', c', rfl, _⟩ := row_of_R hR h9
  exact ⟨A', c', rfl, hR, hb⟩
theorem DoOur_C {w W : World} {bs rb n c : Nat} {mb : Option Nat} {M M' : Mp} {A : Option Addr} {T : TT} (h : Ds w W bs rb mb n M A c T) {o : Order} (hx : (Lit.int .i64 o.owner).wf = true) (hw : why M o = 0) (hn : n < maxLen) (hM : doM M o = M') :
    Calls Try.prog 20 #[.pointer (some ⟨bs, 0, none⟩), ordV o] W fun e w' => e = .returned (.int .i64 0) ∧ ∃ b, Ds w w' bs rb (some b) (n + 1) M' A c T := by
  subst hM
  refine (Do_ok h.book o hx hw hn).mono ?_
  rintro e w' ⟨rfl, b, hb, hB, ht⟩
  exact ⟨rfl, b, h.done hb hB ht⟩
set_option maxRecDepth 100000 in
set_option maxHeartbeats 2000000 in
theorem AdminDoes_walk (w : World) (Al : Option Addr) (cl : Nat) (l : List Order) (hr : Kd.C kO w Al l.length l) (hc : l.length ≤ cl) (hq : ∀ x ∈ l, Open.WfO x) (hlen : l.length * 96 ≤ 140737488351232) :
    Calls Try.prog 5 #[.slice Al l.length cl] w fun e w' => e = .returned (.bool true) ∧ Below w.heap.size w w' := by
  clear hlen
  have HR := Lib.hid hr
  have HQ := Lib.hid hq
  have HCL := Lib.hid hc
  clear hr hq hc
  by_cases h200 : l.length ≤ 200
  · have H200 := Lib.hid h200
    have h201 : ((l.length : Int) > 200) = False := by simp; omega
    go_enter Try.func5, Try.ntmps5
    go_wp2_with (first
      | (go_at_call 14; refine (New_ _).mono ?_; rintro e w' ⟨rfl, rfl⟩)
      | (go_at_call 15; refine (New_ref _).mono ?_; rintro e w2 ⟨A0, c0, rfl, hR0, hb0⟩))
    have D0 := Lib.hid (And.intro (Ds.start hb0 hR0) sees_new)
    have hbs : (w.alloc (.cells #[.map none] 54)).heap.size ≤ w2.heap.size := hb0.size
    clear hb0 hR0
    generalize w2.alloc (.cells #[.slice A0 9 c0] 44) = W0 at *
    generalize w2.heap.size = rb at *
    clear hbs
    obtain ⟨bs, hbse⟩ : ∃ bs, bs = w.heap.size := ⟨_, rfl⟩
    rw [← hbse] at D0 ⊢
    clear hbse
    go_loopw [5] (fun v0 wr => ∃ (i : Nat) (mb : Option Nat) (M : Mp) (A : Option Addr) (c : Nat) (T : TT), i ≤ l.length ∧ v0 = .int .i64 i ∧ Hid (Ds w wr bs rb mb i M A c T ∧ Sees M T)) (fun v0 _ => l.length - (intOf v0).toNat)
    case atStart => exact ⟨0, none, [], A0, c0, _, Nat.zero_le _, rfl, D0⟩
    case round =>
      clear D0
      obtain ⟨i, mb, M, A, c, T, hil, rfl, HI⟩ := hrel
      by_cases hlt : i < l.length
      · obtain ⟨ad, ead⟩ : ∃ ad, Al = some ad := by
          obtain ⟨ad, e, _⟩ := HR.out.2.2 (by omega)
          exact ⟨ad, e⟩
        subst ead
        obtain ⟨o, HOe⟩ : ∃ o, Hid (l.getD i default = o) := ⟨_, Lib.hid rfl⟩
        have HWF := Lib.hid (HQ.out o (by rw [← HOe.out]; simp [List.getD_eq_getElem?_getD, List.getElem?_eq_getElem hlt]))
        obtain ⟨x0, x1, x2, x3, x4, x5, x6, x7, x8, x9, x10, x11⟩ := ord_cells (Kd.C_below HR.out HI.out.1.below) i hlt o HOe.out
        have hi0 : (0 : Int) ≤ (i : Int) := by omega
        have hic : (i : Int) < (l.length : Int) := by omega
        have hic2 : (i : Int) ≤ (cl : Int) := by have := HCL.out; omega
        have hi2 : i ≤ 200 := by have := H200.out; omega
        have HCK := Lib.hid (fun (W : World) (h : Ds w W bs rb mb i M A c T) => Check_ref 10 A c T o _ W h.ref h.hc (chk_why HI.out.2 o))
        have HCO := Lib.hid (fun (W : World) (h : Ds w W bs rb mb i M A c T) => Check_k h.book o HWF.out.2.2.1)
        have HOU := Lib.hid (ours_ o)
        have HSA := Lib.hid (fun (W : World) (h : Ds w W bs rb mb i M A c T) => same_ h.book (by omega) h.ref h.hc HI.out.2)
        have c4 : wr.cell? ⟨rb, 0, none⟩ = some (.slice A T.length c) := blk_cell HI.out.1.box 0
        have hS := HI.out.1
        by_cases hw : why M o = 0
        · obtain ⟨T', hT'⟩ : ∃ T', T.set o.owner.toNat (stepT (rd_T75 T o.owner) o) = T' := ⟨_, rfl⟩
          obtain ⟨M', hM'⟩ : ∃ M', doM M o = M' := ⟨_, rfl⟩
          have HS' := Lib.hid (show Sees M' T' by rw [← hM', ← hT']; exact do_sees HI.out.2 o hw)
          have HDR := Lib.hid (fun (W : World) (h : Ds w W bs rb mb i M A c T) => RefDo_C h HI.out.2 hw hT' HS'.out.len)
          have HDO := Lib.hid (fun (W : World) (A' : Option Addr) (c' : Nat) (h : Ds w W bs rb mb i M A' c' T') => DoOur_C h HWF.out.2.2.1 hw (by unfold maxLen; omega) hM')
          have HSB := Lib.hid (fun (W : World) (b : Nat) (A' : Option Addr) (c' : Nat) (h : Ds w W bs rb (some b) (i + 1) M' A' c' T') => same_ h.book (by omega) h.ref h.hc HS'.out)
          clear hT' hM'
          rw [hw] at HCK HCO
          have hS0 := hS
          clear hw
          obtain ⟨id, op, owner, v⟩ := o
          simp only at x0 x1 x2 x3 x4 x5 x6 x7 x8 x9 x10 x11
          simp only [ordV, cells12] at HCK HCO HOU HDR HDO
          go_wp2_with fail
          go_region_held3 (fun w' => w'.cell? ⟨rb, 0, none⟩ = some (.slice A T.length c) ∧ w'.cell? (ad.add (i * 12)) = some (.int .u64 id) ∧ w'.cell? ⟨(ad.add (i * 12)).block, (ad.add (i * 12)).off + 1, none⟩ = some (.int .i64 op) ∧ w'.cell? ⟨(ad.add (i * 12)).block, (ad.add (i * 12)).off + 2, none⟩ = some (.int .i64 owner) ∧ w'.cell? ⟨(ad.add (i * 12)).block, (ad.add (i * 12)).off + 3, none⟩ = some (.int .i64 (v 0)) ∧ w'.cell? ⟨(ad.add (i * 12)).block, (ad.add (i * 12)).off + 4, none⟩ = some (.int .i64 (v 1)) ∧ w'.cell? ⟨(ad.add (i * 12)).block, (ad.add (i * 12)).off + 5, none⟩ = some (.int .i64 (v 2)) ∧ w'.cell? ⟨(ad.add (i * 12)).block, (ad.add (i * 12)).off + 6, none⟩ = some (.int .i64 (v 3)) ∧ w'.cell? ⟨(ad.add (i * 12)).block, (ad.add (i * 12)).off + 7, none⟩ = some (.int .i64 (v 4)) ∧ w'.cell? ⟨(ad.add (i * 12)).block, (ad.add (i * 12)).off + 8, none⟩ = some (.int .i64 (v 5)) ∧ w'.cell? ⟨(ad.add (i * 12)).block, (ad.add (i * 12)).off + 9, none⟩ = some (.int .i64 (v 6)) ∧ w'.cell? ⟨(ad.add (i * 12)).block, (ad.add (i * 12)).off + 10, none⟩ = some (.int .i64 (v 7)) ∧ w'.cell? ⟨(ad.add (i * 12)).block, (ad.add (i * 12)).off + 11, none⟩ = some (.int .i64 (v 8))) (first | exact ⟨c4, x0, x1, x2, x3, x4, x5, x6, x7, x8, x9, x10, x11⟩ | go_keep)
            (first
              | (go_at_call 16; (with_reducible refine (HCK.out _ ?_).mono ?_); (exact hS.drew); rintro e w3 ⟨rfl, hb3⟩; replace c4 := pw_cell_below hb3 c4; replace x0 := pw_cell_below hb3 x0; replace x1 := pw_cell_below hb3 x1; replace x2 := pw_cell_below hb3 x2; replace x3 := pw_cell_below hb3 x3; replace x4 := pw_cell_below hb3 x4; replace x5 := pw_cell_below hb3 x5; replace x6 := pw_cell_below hb3 x6; replace x7 := pw_cell_below hb3 x7; replace x8 := pw_cell_below hb3 x8; replace x9 := pw_cell_below hb3 x9; replace x10 := pw_cell_below hb3 x10; replace x11 := pw_cell_below hb3 x11; replace hS := hS.drew.move hb3; clear hb3))
          clear x0 x1 x2 x3 x4 x5 x6 x7 x8 x9 x10 x11 c4
          go_wp2_with fail
          refine (HOU.out _).mono ?_
          rintro e w4 ⟨rfl, hb⟩
          replace hS := hS.move hb
          clear hb
          go_wp2_with fail
          refine (HCO.out _ hS).mono ?_
          rintro e w5 ⟨rfl, hb⟩
          replace hS := hS.move hb
          clear hb
          have c4 : w5.cell? ⟨rb, 0, none⟩ = some (.slice A T.length c) := blk_cell hS.box 0
          go_wp2_with fail
          refine (HSA.out _ hS).mono ?_
          rintro e w6 ⟨rfl, hb⟩
          replace hS := hS.move hb
          clear hb c4
          obtain ⟨x0, x1, x2, x3, x4, x5, x6, x7, x8, x9, x10, x11⟩ := ord_cells (Kd.C_below HR.out hS.below) i hlt ⟨id, op, owner, v⟩ HOe.out
          have c4 : w6.cell? ⟨rb, 0, none⟩ = some (.slice A T.length c) := blk_cell hS.box 0
          simp only at x0 x1 x2 x3 x4 x5 x6 x7 x8 x9 x10 x11
          go_wp2_with fail
          have hw6 := hS.below.size
          have nn1 := World.new_ne w6 _ c4
          have nn2 := World.new_ne w6 _ x0
          have nn3 := World.new_ne w6 _ x1
          go_region_held3 (fun w' => w'.cell? ⟨rb, 0, none⟩ = some (.slice A T.length c) ∧ w'.cell? (ad.add (i * 12)) = some (.int .u64 id) ∧ w'.cell? ⟨(ad.add (i * 12)).block, (ad.add (i * 12)).off + 1, none⟩ = some (.int .i64 op) ∧ w'.cell? ⟨(ad.add (i * 12)).block, (ad.add (i * 12)).off + 2, none⟩ = some (.int .i64 owner) ∧ w'.cell? ⟨(ad.add (i * 12)).block, (ad.add (i * 12)).off + 3, none⟩ = some (.int .i64 (v 0)) ∧ w'.cell? ⟨(ad.add (i * 12)).block, (ad.add (i * 12)).off + 4, none⟩ = some (.int .i64 (v 1)) ∧ w'.cell? ⟨(ad.add (i * 12)).block, (ad.add (i * 12)).off + 5, none⟩ = some (.int .i64 (v 2)) ∧ w'.cell? ⟨(ad.add (i * 12)).block, (ad.add (i * 12)).off + 6, none⟩ = some (.int .i64 (v 3)) ∧ w'.cell? ⟨(ad.add (i * 12)).block, (ad.add (i * 12)).off + 7, none⟩ = some (.int .i64 (v 4)) ∧ w'.cell? ⟨(ad.add (i * 12)).block, (ad.add (i * 12)).off + 8, none⟩ = some (.int .i64 (v 5)) ∧ w'.cell? ⟨(ad.add (i * 12)).block, (ad.add (i * 12)).off + 9, none⟩ = some (.int .i64 (v 6)) ∧ w'.cell? ⟨(ad.add (i * 12)).block, (ad.add (i * 12)).off + 10, none⟩ = some (.int .i64 (v 7)) ∧ w'.cell? ⟨(ad.add (i * 12)).block, (ad.add (i * 12)).off + 11, none⟩ = some (.int .i64 (v 8))) (first | exact ⟨c4, x0, x1, x2, x3, x4, x5, x6, x7, x8, x9, x10, x11⟩ | go_keep)
            (first
              | (go_at_call 19; (with_reducible refine (HDR.out _ ?_).mono ?_); (exact hS.drew); rintro e w7 ⟨A', c', rfl, hR7, hb7⟩; replace c4 := pw_cell_below hb7 c4; replace x0 := pw_cell_below hb7 x0; replace x1 := pw_cell_below hb7 x1; replace x2 := pw_cell_below hb7 x2; replace x3 := pw_cell_below hb7 x3; replace x4 := pw_cell_below hb7 x4; replace x5 := pw_cell_below hb7 x5; replace x6 := pw_cell_below hb7 x6; replace x7 := pw_cell_below hb7 x7; replace x8 := pw_cell_below hb7 x8; replace x9 := pw_cell_below hb7 x9; replace x10 := pw_cell_below hb7 x10; replace x11 := pw_cell_below hb7 x11; replace hS := hS.drew.move hb7; clear hb7; have nn4 := World.new_ne w7 _ c4; have nn5 := World.new_ne w7 _ x0; have nn6 := World.new_ne w7 _ x1)
              | (go_at_call 19; (with_reducible refine (HDR.out _ ?_).mono ?_); (exact (hS.alloc _).drew); rintro e w7 ⟨A', c', rfl, hR7, hb7⟩; have q7 : w7.heap[w6.heap.size]? = some (.cells #[.slice none 0 0] 44 (0, 0)) := (hb7.block _ (by simp)).trans (heap_alloc_last _ _); have q8 : w7.cell? ⟨w6.heap.size, 0, none⟩ = some (.slice none 0 0) := blk_cell q7 0; have q9 := blk_frozen q7 0; have hb7' := (below_ad w6 (.cells #[.slice none 0 0] 44)).trans (hb7.mono (below_ad w6 _).size); replace c4 := pw_cell_below hb7' c4; replace x0 := pw_cell_below hb7' x0; replace x1 := pw_cell_below hb7' x1; replace x2 := pw_cell_below hb7' x2; replace x3 := pw_cell_below hb7' x3; replace x4 := pw_cell_below hb7' x4; replace x5 := pw_cell_below hb7' x5; replace x6 := pw_cell_below hb7' x6; replace x7 := pw_cell_below hb7' x7; replace x8 := pw_cell_below hb7' x8; replace x9 := pw_cell_below hb7' x9; replace x10 := pw_cell_below hb7' x10; replace x11 := pw_cell_below hb7' x11; replace hS := hS.move hb7'; clear hb7))
          · have hS8 := hS.alloc (.cells #[.slice A' T'.length c'] 44)
            have hR8 := Kd.R_below hR7 ((Below.refl w7.heap.size w7).alloc (Nat.le_refl _) (.cells #[.slice A' T'.length c'] 44))
            have q8 : (w7.alloc (.cells #[.slice A' T'.length c'] 44)).cell? ⟨w7.heap.size, 0, none⟩ = some (.slice A' T'.length c') := World.cell?_alloc_at _ _ _ _ rfl
            generalize w7.alloc (.cells #[.slice A' T'.length c'] 44) = W8 at *
            generalize w7.heap.size = p7 at *
            clear nn1 nn2 nn3 nn4 nn5 nn6 hS hR7 c4 x0 x1 x2 x3 x4 x5 x6 x7 x8 x9 x10 x11
            have c4 : W8.cell? ⟨rb, 0, none⟩ = some (.slice A T.length c) := blk_cell hS8.box 0
            have f4 : W8.frozen? ⟨rb, 0, none⟩ = false := blk_frozen hS8.box 0
            go_wp2_with (first
              | (refine Line.Stop.at (some 55) (.indexAddr 39 (.tmp 53) (.tmp 54)) ?_))
            constructor
            have hS9 := hS8.put HS'.out.len hR8
            generalize W8.setCell ⟨rb, 0, none⟩ (.slice A' T'.length c') = W9 at *
            clear hS8 hR8 c4 f4 q8
            obtain ⟨x0, x1, x2, x3, x4, x5, x6, x7, x8, x9, x10, x11⟩ := ord_cells (Kd.C_below HR.out hS9.below) i hlt ⟨id, op, owner, v⟩ HOe.out
            have c4 : W9.cell? ⟨rb, 0, none⟩ = some (.slice A' T'.length c') := blk_cell hS9.box 0
            simp only at x0 x1 x2 x3 x4 x5 x6 x7 x8 x9 x10 x11
            go_wp2_with fail
            refine (HOU.out _).mono ?_
            rintro e w10 ⟨rfl, hb⟩
            have hS10 := hS9.move hb
            clear hb hS9 c4 x0 x1 x2 x3 x4 x5 x6 x7 x8 x9 x10 x11
            go_wp2_with fail
            refine (HDO.out _ _ _ hS10).mono ?_
            rintro e w11 ⟨rfl, b, hS11⟩
            clear hS10
            have c4 : w11.cell? ⟨rb, 0, none⟩ = some (.slice A' T'.length c') := blk_cell hS11.box 0
            go_wp2_with fail
            refine (HSB.out _ _ _ _ hS11).mono ?_
            rintro e w12 ⟨rfl, hb⟩
            have HS12 := Lib.hid (And.intro (hS11.move hb) HS'.out)
            clear hb hS11 c4
            go_wp2_with fail
            go_roundw
            case rel => exact ⟨i + 1, some b, M', A', c', T', by omega, by go_num, HS12⟩
            case measure => simp [intOf]; omega
          · have hS8 := hS.side q7 hw6 nn1 (.slice A' T'.length c')
            have hR8 := Kd.R_set hR7 q7 (by decide) 0 (.slice A' T'.length c')
            have q10 : (w7.setCell ⟨w6.heap.size, 0, none⟩ (.slice A' T'.length c')).cell? ⟨w6.heap.size, 0, none⟩ = some (.slice A' T'.length c') := blk_cell (blk_put q7 0 (.slice A' T'.length c') rfl) 0
            clear q8 q9 q7
            have q8 := q10
            clear q10 nn1 nn2 nn3 hS hR7 c4 x0 x1 x2 x3 x4 x5 x6 x7 x8 x9 x10 x11
            generalize w7.setCell ⟨w6.heap.size, 0, none⟩ (.slice A' T'.length c') = W8 at *
            generalize w6.heap.size = p7 at *
            have c4 : W8.cell? ⟨rb, 0, none⟩ = some (.slice A T.length c) := blk_cell hS8.box 0
            have f4 : W8.frozen? ⟨rb, 0, none⟩ = false := blk_frozen hS8.box 0
            go_wp2_with (first
              | (refine Line.Stop.at (some 55) (.indexAddr 39 (.tmp 53) (.tmp 54)) ?_))
            constructor
            have hS9 := hS8.put HS'.out.len hR8
            generalize W8.setCell ⟨rb, 0, none⟩ (.slice A' T'.length c') = W9 at *
            clear hS8 hR8 c4 f4 q8
            obtain ⟨x0, x1, x2, x3, x4, x5, x6, x7, x8, x9, x10, x11⟩ := ord_cells (Kd.C_below HR.out hS9.below) i hlt ⟨id, op, owner, v⟩ HOe.out
            have c4 : W9.cell? ⟨rb, 0, none⟩ = some (.slice A' T'.length c') := blk_cell hS9.box 0
            simp only at x0 x1 x2 x3 x4 x5 x6 x7 x8 x9 x10 x11
            go_wp2_with fail
            refine (HOU.out _).mono ?_
            rintro e w10 ⟨rfl, hb⟩
            have hS10 := hS9.move hb
            clear hb hS9 c4 x0 x1 x2 x3 x4 x5 x6 x7 x8 x9 x10 x11
            go_wp2_with fail
            refine (HDO.out _ _ _ hS10).mono ?_
            rintro e w11 ⟨rfl, b, hS11⟩
            clear hS10
            have c4 : w11.cell? ⟨rb, 0, none⟩ = some (.slice A' T'.length c') := blk_cell hS11.box 0
            go_wp2_with fail
            refine (HSB.out _ _ _ _ hS11).mono ?_
            rintro e w12 ⟨rfl, hb⟩
            have HS12 := Lib.hid (And.intro (hS11.move hb) HS'.out)
            clear hb hS11 c4
            go_wp2_with fail
            go_roundw
            case rel => exact ⟨i + 1, some b, M', A', c', T', by omega, by go_num, HS12⟩
            case measure => simp [intOf]; omega
        · have HDR := Lib.hid (fun (W : World) (h : Ds w W bs rb mb i M A c T) => RefDo_no 10 A c T o _ W h.ref h.hc (chk_why HI.out.2 o) hw)
          have HDO := Lib.hid (fun (W : World) (h : Ds w W bs rb mb i M A c T) => Do_bad h.book o HWF.out.2.2.1 hw)
          have hS0 := hS
          generalize why M o = r at *
          obtain ⟨id, op, owner, v⟩ := o
          simp only at x0 x1 x2 x3 x4 x5 x6 x7 x8 x9 x10 x11
          simp only [ordV, cells12] at HCK HCO HOU HDR HDO
          go_wp2_with fail
          go_region_held3 (fun w' => w'.cell? ⟨rb, 0, none⟩ = some (.slice A T.length c) ∧ w'.cell? (ad.add (i * 12)) = some (.int .u64 id) ∧ w'.cell? ⟨(ad.add (i * 12)).block, (ad.add (i * 12)).off + 1, none⟩ = some (.int .i64 op) ∧ w'.cell? ⟨(ad.add (i * 12)).block, (ad.add (i * 12)).off + 2, none⟩ = some (.int .i64 owner) ∧ w'.cell? ⟨(ad.add (i * 12)).block, (ad.add (i * 12)).off + 3, none⟩ = some (.int .i64 (v 0)) ∧ w'.cell? ⟨(ad.add (i * 12)).block, (ad.add (i * 12)).off + 4, none⟩ = some (.int .i64 (v 1)) ∧ w'.cell? ⟨(ad.add (i * 12)).block, (ad.add (i * 12)).off + 5, none⟩ = some (.int .i64 (v 2)) ∧ w'.cell? ⟨(ad.add (i * 12)).block, (ad.add (i * 12)).off + 6, none⟩ = some (.int .i64 (v 3)) ∧ w'.cell? ⟨(ad.add (i * 12)).block, (ad.add (i * 12)).off + 7, none⟩ = some (.int .i64 (v 4)) ∧ w'.cell? ⟨(ad.add (i * 12)).block, (ad.add (i * 12)).off + 8, none⟩ = some (.int .i64 (v 5)) ∧ w'.cell? ⟨(ad.add (i * 12)).block, (ad.add (i * 12)).off + 9, none⟩ = some (.int .i64 (v 6)) ∧ w'.cell? ⟨(ad.add (i * 12)).block, (ad.add (i * 12)).off + 10, none⟩ = some (.int .i64 (v 7)) ∧ w'.cell? ⟨(ad.add (i * 12)).block, (ad.add (i * 12)).off + 11, none⟩ = some (.int .i64 (v 8))) (first | exact ⟨c4, x0, x1, x2, x3, x4, x5, x6, x7, x8, x9, x10, x11⟩ | go_keep)
            (first
              | (go_at_call 16; (with_reducible refine (HCK.out _ ?_).mono ?_); (exact hS.drew); rintro e w3 ⟨rfl, hb3⟩; replace c4 := pw_cell_below hb3 c4; replace x0 := pw_cell_below hb3 x0; replace x1 := pw_cell_below hb3 x1; replace x2 := pw_cell_below hb3 x2; replace x3 := pw_cell_below hb3 x3; replace x4 := pw_cell_below hb3 x4; replace x5 := pw_cell_below hb3 x5; replace x6 := pw_cell_below hb3 x6; replace x7 := pw_cell_below hb3 x7; replace x8 := pw_cell_below hb3 x8; replace x9 := pw_cell_below hb3 x9; replace x10 := pw_cell_below hb3 x10; replace x11 := pw_cell_below hb3 x11; replace hS := hS.drew.move hb3; clear hb3))
          clear x0 x1 x2 x3 x4 x5 x6 x7 x8 x9 x10 x11 c4
          go_wp2_with fail
          refine (HOU.out _).mono ?_
          rintro e w4 ⟨rfl, hb⟩
          replace hS := hS.move hb
          clear hb
          go_wp2_with fail
          refine (HCO.out _ hS).mono ?_
          rintro e w5 ⟨rfl, hb⟩
          replace hS := hS.move hb
          clear hb
          have c4 : w5.cell? ⟨rb, 0, none⟩ = some (.slice A T.length c) := blk_cell hS.box 0
          go_wp2_with fail
          refine (HSA.out _ hS).mono ?_
          rintro e w6 ⟨rfl, hb⟩
          replace hS := hS.move hb
          clear hb c4
          obtain ⟨x0, x1, x2, x3, x4, x5, x6, x7, x8, x9, x10, x11⟩ := ord_cells (Kd.C_below HR.out hS.below) i hlt ⟨id, op, owner, v⟩ HOe.out
          have c4 : w6.cell? ⟨rb, 0, none⟩ = some (.slice A T.length c) := blk_cell hS.box 0
          simp only at x0 x1 x2 x3 x4 x5 x6 x7 x8 x9 x10 x11
          go_wp2_with fail
          have hw6 := hS.below.size
          have nn1 := World.new_ne w6 _ c4
          have nn2 := World.new_ne w6 _ x0
          have nn3 := World.new_ne w6 _ x1
          go_region_held3 (fun w' => w'.cell? ⟨rb, 0, none⟩ = some (.slice A T.length c) ∧ w'.cell? (ad.add (i * 12)) = some (.int .u64 id) ∧ w'.cell? ⟨(ad.add (i * 12)).block, (ad.add (i * 12)).off + 1, none⟩ = some (.int .i64 op) ∧ w'.cell? ⟨(ad.add (i * 12)).block, (ad.add (i * 12)).off + 2, none⟩ = some (.int .i64 owner) ∧ w'.cell? ⟨(ad.add (i * 12)).block, (ad.add (i * 12)).off + 3, none⟩ = some (.int .i64 (v 0)) ∧ w'.cell? ⟨(ad.add (i * 12)).block, (ad.add (i * 12)).off + 4, none⟩ = some (.int .i64 (v 1)) ∧ w'.cell? ⟨(ad.add (i * 12)).block, (ad.add (i * 12)).off + 5, none⟩ = some (.int .i64 (v 2)) ∧ w'.cell? ⟨(ad.add (i * 12)).block, (ad.add (i * 12)).off + 6, none⟩ = some (.int .i64 (v 3)) ∧ w'.cell? ⟨(ad.add (i * 12)).block, (ad.add (i * 12)).off + 7, none⟩ = some (.int .i64 (v 4)) ∧ w'.cell? ⟨(ad.add (i * 12)).block, (ad.add (i * 12)).off + 8, none⟩ = some (.int .i64 (v 5)) ∧ w'.cell? ⟨(ad.add (i * 12)).block, (ad.add (i * 12)).off + 9, none⟩ = some (.int .i64 (v 6)) ∧ w'.cell? ⟨(ad.add (i * 12)).block, (ad.add (i * 12)).off + 10, none⟩ = some (.int .i64 (v 7)) ∧ w'.cell? ⟨(ad.add (i * 12)).block, (ad.add (i * 12)).off + 11, none⟩ = some (.int .i64 (v 8))) (first | exact ⟨c4, x0, x1, x2, x3, x4, x5, x6, x7, x8, x9, x10, x11⟩ | go_keep)
            (first
              | (go_at_call 19; (with_reducible refine (HDR.out _ ?_).mono ?_); (exact hS.drew); rintro e w7 ⟨rfl, hb7⟩; replace c4 := pw_cell_below hb7 c4; replace x0 := pw_cell_below hb7 x0; replace x1 := pw_cell_below hb7 x1; replace x2 := pw_cell_below hb7 x2; replace x3 := pw_cell_below hb7 x3; replace x4 := pw_cell_below hb7 x4; replace x5 := pw_cell_below hb7 x5; replace x6 := pw_cell_below hb7 x6; replace x7 := pw_cell_below hb7 x7; replace x8 := pw_cell_below hb7 x8; replace x9 := pw_cell_below hb7 x9; replace x10 := pw_cell_below hb7 x10; replace x11 := pw_cell_below hb7 x11; replace hS := hS.drew.move hb7; clear hb7; have nn4 := World.new_ne w7 _ c4; have nn5 := World.new_ne w7 _ x0; have nn6 := World.new_ne w7 _ x1)
              | (go_at_call 19; (with_reducible refine (HDR.out _ ?_).mono ?_); (exact (hS.alloc _).drew); rintro e w7 ⟨rfl, hb7⟩; have q7 : w7.heap[w6.heap.size]? = some (.cells #[.slice none 0 0] 44 (0, 0)) := (hb7.block _ (by simp)).trans (heap_alloc_last _ _); have q8 : w7.cell? ⟨w6.heap.size, 0, none⟩ = some (.slice none 0 0) := blk_cell q7 0; have q9 := blk_frozen q7 0; have hb7' := (below_ad w6 (.cells #[.slice none 0 0] 44)).trans (hb7.mono (below_ad w6 _).size); replace c4 := pw_cell_below hb7' c4; replace x0 := pw_cell_below hb7' x0; replace x1 := pw_cell_below hb7' x1; replace x2 := pw_cell_below hb7' x2; replace x3 := pw_cell_below hb7' x3; replace x4 := pw_cell_below hb7' x4; replace x5 := pw_cell_below hb7' x5; replace x6 := pw_cell_below hb7' x6; replace x7 := pw_cell_below hb7' x7; replace x8 := pw_cell_below hb7' x8; replace x9 := pw_cell_below hb7' x9; replace x10 := pw_cell_below hb7' x10; replace x11 := pw_cell_below hb7' x11; replace hS := hS.move hb7'; clear hb7))
          · have hS8 := hS.alloc (.cells #[.slice A T.length c] 44)
            have q8 : (w7.alloc (.cells #[.slice A T.length c] 44)).cell? ⟨w7.heap.size, 0, none⟩ = some (.slice A T.length c) := World.cell?_alloc_at _ _ _ _ rfl
            generalize w7.alloc (.cells #[.slice A T.length c] 44) = W8 at *
            generalize w7.heap.size = p7 at *
            clear nn1 nn2 nn3 nn4 nn5 nn6 hS c4 x0 x1 x2 x3 x4 x5 x6 x7 x8 x9 x10 x11
            have c4 : W8.cell? ⟨rb, 0, none⟩ = some (.slice A T.length c) := blk_cell hS8.box 0
            have f4 : W8.frozen? ⟨rb, 0, none⟩ = false := blk_frozen hS8.box 0
            go_wp2_with (first
              | (refine Line.Stop.at (some 55) (.indexAddr 39 (.tmp 53) (.tmp 54)) ?_))
            constructor
            have hS9 := hS8.again
            generalize W8.setCell ⟨rb, 0, none⟩ (.slice A T.length c) = W9 at *
            clear hS8 c4 f4 q8
            obtain ⟨x0, x1, x2, x3, x4, x5, x6, x7, x8, x9, x10, x11⟩ := ord_cells (Kd.C_below HR.out hS9.below) i hlt ⟨id, op, owner, v⟩ HOe.out
            have c4 : W9.cell? ⟨rb, 0, none⟩ = some (.slice A T.length c) := blk_cell hS9.box 0
            simp only at x0 x1 x2 x3 x4 x5 x6 x7 x8 x9 x10 x11
            go_wp2_with fail
            refine (HOU.out _).mono ?_
            rintro e w10 ⟨rfl, hb⟩
            have hS10 := hS9.move hb
            clear hb hS9 c4 x0 x1 x2 x3 x4 x5 x6 x7 x8 x9 x10 x11
            go_wp2_with fail
            refine (HDO.out _ hS10).mono ?_
            rintro e w11 ⟨rfl, hb⟩
            have hS11 := hS10.move hb
            clear hb hS10
            have c4 : w11.cell? ⟨rb, 0, none⟩ = some (.slice A T.length c) := blk_cell hS11.box 0
            go_wp2_with fail
            refine (HSA.out _ hS11).mono ?_
            rintro e w12 ⟨rfl, hb⟩
            have HS12 := Lib.hid (And.intro ((hS11.move hb).mono (Nat.le_succ i)) HI.out.2)
            clear hb hS11 c4
            go_wp2_with fail
            go_roundw
            case rel => exact ⟨i + 1, mb, M, A, c, T, by omega, by go_num, HS12⟩
            case measure => simp [intOf]; omega
          · have hS8 := hS.side q7 hw6 nn1 (.slice A T.length c)
            have q10 : (w7.setCell ⟨w6.heap.size, 0, none⟩ (.slice A T.length c)).cell? ⟨w6.heap.size, 0, none⟩ = some (.slice A T.length c) := blk_cell (blk_put q7 0 (.slice A T.length c) rfl) 0
            clear q8 q9 q7
            have q8 := q10
            clear q10 nn1 nn2 nn3 hS c4 x0 x1 x2 x3 x4 x5 x6 x7 x8 x9 x10 x11
            generalize w7.setCell ⟨w6.heap.size, 0, none⟩ (.slice A T.length c) = W8 at *
            generalize w6.heap.size = p7 at *
            have c4 : W8.cell? ⟨rb, 0, none⟩ = some (.slice A T.length c) := blk_cell hS8.box 0
            have f4 : W8.frozen? ⟨rb, 0, none⟩ = false := blk_frozen hS8.box 0
            go_wp2_with (first
              | (refine Line.Stop.at (some 55) (.indexAddr 39 (.tmp 53) (.tmp 54)) ?_))
            constructor
            have hS9 := hS8.again
            generalize W8.setCell ⟨rb, 0, none⟩ (.slice A T.length c) = W9 at *
            clear hS8 c4 f4 q8
            obtain ⟨x0, x1, x2, x3, x4, x5, x6, x7, x8, x9, x10, x11⟩ := ord_cells (Kd.C_below HR.out hS9.below) i hlt ⟨id, op, owner, v⟩ HOe.out
            have c4 : W9.cell? ⟨rb, 0, none⟩ = some (.slice A T.length c) := blk_cell hS9.box 0
            simp only at x0 x1 x2 x3 x4 x5 x6 x7 x8 x9 x10 x11
            go_wp2_with fail
            refine (HOU.out _).mono ?_
            rintro e w10 ⟨rfl, hb⟩
            have hS10 := hS9.move hb
            clear hb hS9 c4 x0 x1 x2 x3 x4 x5 x6 x7 x8 x9 x10 x11
            go_wp2_with fail
            refine (HDO.out _ hS10).mono ?_
            rintro e w11 ⟨rfl, hb⟩
            have hS11 := hS10.move hb
            clear hb hS10
            have c4 : w11.cell? ⟨rb, 0, none⟩ = some (.slice A T.length c) := blk_cell hS11.box 0
            go_wp2_with fail
            refine (HSA.out _ hS11).mono ?_
            rintro e w12 ⟨rfl, hb⟩
            have HS12 := Lib.hid (And.intro ((hS11.move hb).mono (Nat.le_succ i)) HI.out.2)
            clear hb hS11 c4
            go_wp2_with fail
            go_roundw
            case rel => exact ⟨i + 1, mb, M, A, c, T, by omega, by go_num, HS12⟩
            case measure => simp [intOf]; omega
      · have hiL : i = l.length := by omega
        subst hiL
        have hL := Lib.hid HI.out.1.below
        clear HI
        go_wp2_with (go_at_call 13; refine (awake_ _).mono ?_; rintro e w' ⟨rfl, hB⟩)
        go_ret
        exact ⟨rfl, hL.out.trans (hB.mono hL.out.size)⟩
  · have h201 : ((l.length : Int) > 200) = True := by simp; omega
    go_enter Try.func5, Try.ntmps5
    go_wp2_with (go_at_call 13; refine (awake_ _).mono ?_; rintro e w' ⟨rfl, hB⟩)
    go_ret
    exact ⟨rfl, hB⟩
end Go.Proofs.Ytdnhmlpjohojdaa.Adm.Bk
