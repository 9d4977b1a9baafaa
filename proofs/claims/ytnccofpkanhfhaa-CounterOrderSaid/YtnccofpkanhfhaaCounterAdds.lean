/-
  concourselaw27.CounterAdds: the walk.
-/
import Derived.Test.YtnccofpkanhfhaaCounterPure
import Derived.Test.YtnccofpkanhfhaaCounterLaw
import Derived.Deep.RegionHeld3
import Derived.Deep.DrawnRows
import Derived.Outline
set_option linter.unusedVariables false
set_option linter.unusedSimpArgs false
namespace Go.Proofs.Ytnccofpkanhfhaa.Counter
open Go.RowKit Go.Maps Go.WideMaps Go.Proofs.Ytnccofpkanhfhaa.Tab Go.Proofs.Ytnccofpkanhfhaa.R Go.Proofs.YtnccofpkanhfhaaW.PrintWords
attribute [local go_sem ↓] Go.wp_at_zero Go.wp_at_succ
/-! ### the document's functions, asked of the first i rows -/
section
variable {W : World} {A : Option Addr} {c i : Nat} {l : List Row}
theorem Size_at (hr : Kd.C k28 W A l.length l) (hc : l.length ≤ c) (hi : i ≤ l.length) (h80 : l.length ≤ 80) (h10 : len l ≤ 10000) :
    Calls Try.prog 18 #[.slice A i c] W fun e w' => e = .returned (.int .i64 (size (fold (l.take i)))) ∧ Below W.heap.size W w' := by
  have hl : (l.take i).length = i := by rw [List.length_take]; omega
  obtain ⟨k, hk⟩ := size_fold (l.take i) (by omega) (by have := size_le (l.take i); have := len_take l i; omega)
  have h2 := concourseref27_Size.calls k A c (l.take i) _ W (Kd.C_take hr hi) (by omega) hk
  rwa [hl] at h2
theorem Value_at (hr : Kd.C k28 W A l.length l) (hc : l.length ≤ c) (hi : i ≤ l.length) (h80 : l.length ≤ 80) (t : ByteArray) :
    Calls Try.prog 20 #[.slice A i c, .string t] W fun e w' => e = .returned (.int .i64 (val (fold (l.take i)) t)) ∧ Below W.heap.size W w' := by
  have hl : (l.take i).length = i := by rw [List.length_take]; omega
  have h2 := concourseref27_Value.calls _ A c (l.take i) t _ W (Kd.C_take hr hi) (by omega) (value_ok (l.take i) t (by omega))
  rw [hl] at h2
  exact h2.mono fun e w' ⟨he, hd⟩ => ⟨he, hd.below⟩
theorem Names_at (hr : Kd.C k28 W A l.length l) (hc : l.length ≤ c) (hi : i ≤ l.length) (h80 : l.length ≤ 80) :
    Calls Try.prog 25 #[.slice A i c] W fun e w' => ∃ v, e = .returned v ∧ Kd.R Kd.string 9 w' W.heap.size (fun _ => True) v ((fold (l.take i)).map fun p => p.1) ∧ Below W.heap.size W w' := by
  have hl : (l.take i).length = i := by rw [List.length_take]; omega
  obtain ⟨k, hk⟩ := names_fold (l.take i) (by omega)
  have h2 := concourseref27_Names.calls k A c (l.take i) _ W (Kd.C_take hr hi) (by omega) hk
  rwa [hl] at h2
/-- What is left as it was behind an Add: a box bx laid behind the book. -/
theorem after_add {w w3 w4 : World} {bs bx b : Nat} {mb : Option Nat} (hL : Below w.heap.size w w3) (hbs : w.heap.size ≤ bs) (hbn : bs < bx) (hbM : ∀ b, mb = some b → w.heap.size ≤ b) (hmn : mb ≠ some bx) (hx : bx < w3.heap.size) (hb : mb = some b ∨ mb = none ∧ b = w3.heap.size) (ht : Turn w3 w4 bs 0 (fun k => k = b)) :
    Below w.heap.size w w4 ∧ (∀ b', some b = some b' → w.heap.size ≤ b') ∧ w4.cell? ⟨bx, 0, none⟩ = w3.cell? ⟨bx, 0, none⟩ ∧ w4.cell? ⟨bx, 1, none⟩ = w3.cell? ⟨bx, 1, none⟩ := by
  have hwb : w.heap.size ≤ b := by
    rcases hb with hb | ⟨_, hb⟩
    · exact hbM b hb
    · have := hL.size; omega
  have hne : ¬ bx = b := fun e => by
    subst e
    rcases hb with hb | ⟨_, hb⟩
    · exact hmn hb
    · omega
  have e := ht.block bx hx (by omega) hne
  exact ⟨hL.trans (ht.under hL.size hbs (fun k hk => by subst hk; exact hwb)), fun b' e => by cases e; exact hwb, World.cell?_of_block e, World.cell?_of_block e⟩
theorem Texts_same {A B : Option Addr} {c d n m : Nat} {ns : List ByteArray} (hA : Kd.C Kd.string W A ns.length ns) (hc : ns.length ≤ c) (hB : Kd.C Kd.string W B ns.length ns) (hd : ns.length ≤ d) (hn : ns.length ≤ 8796093022207) (en : ns.length = n) (em : ns.length = m) :
    Calls Try.prog 23 #[.slice A n c, .slice B m d] W fun e w' => e = .returned (.bool true) ∧ Below W.heap.size W w' := by
  subst en; subst em
  exact (concourseref04_Texts.calls _ A c ns B d ns true W hA hc hB hd (texts_same ns hn)).mono fun e w' ⟨he, hd⟩ => ⟨he, hd.below⟩
end
set_option maxRecDepth 100000 in
set_option maxHeartbeats 2000000 in
theorem CounterAdds_walk (w : World) (A : Option Addr) (c : Nat) (l : List Row) (hr : Kd.C k28 w A l.length l) (hc : l.length ≤ c) (hq : ∀ x ∈ l, x.f0.size ≤ 140737488351232 ∧ (Lit.int .i64 x.f1).wf = true) (hlen : l.length * 24 ≤ 140737488351232) (name : ByteArray) (hs : name.size ≤ 140737488351232) :
    Calls Try.prog 3 #[.slice A l.length c, .string name] w fun e w' => e = .returned (.bool true) ∧ Below w.heap.size w w' := by
  obtain ⟨r, hm1, hm2⟩ := much_ok l (fun x hx => (hq x hx).1) (by omega)
  have hM := hid (concourselaw27_much.calls _ A c l r w hr hc hm1)
  have HR := hid hr
  have HQ := hid hq
  clear hq
  have HM2 := hid hm2
  clear hr hm1 hm2
  go_enter Try.func3, Try.ntmps3
  go_wp2_with fail
  refine hM.out.mono ?_
  rintro e w1 ⟨rfl, hb1⟩
  cases r with
  | true =>
    go_wp2_with (go_at_call 15; refine (awake _).mono ?_; rintro e w' ⟨rfl, hB⟩)
    go_ret
    exact ⟨rfl, hb1.trans (hB.mono hb1.size)⟩
  | false =>
    obtain ⟨h80, h10⟩ := HM2.out rfl
    clear HM2 hM
    have hC := hid hc
    clear hc
    go_wp2_with (go_at_call 16; refine (New _).mono ?_; rintro e w' ⟨rfl, rfl⟩)
    have h0 : Book (w1.alloc (.cells #[.map none, .int .i64 0] 42)) w1.heap.size 0 none 0 [] 0 := made w1 0
    have B0 : Below w.heap.size w (w1.alloc (.cells #[.map none, .int .i64 0] 42)) := hb1.alloc hb1.size _
    have hbs : w.heap.size ≤ w1.heap.size := hb1.size
    obtain ⟨bs, hbe⟩ : ∃ bs, bs = w1.heap.size := ⟨_, rfl⟩
    rw [← hbe] at h0 hbs ⊢
    generalize w1.alloc (.cells #[.map none, .int .i64 0] 42) = W0 at *
    clear hbe hb1 w1
    go_loopw [6] (fun v wr => ∃ (i : Nat) (mb : Option Nat), i ≤ l.length ∧ v = .int .i64 i ∧ Hid (Book wr bs 0 mb i (fold (l.take i)) (size (fold (l.take i))) ∧ (∀ b, mb = some b → w.heap.size ≤ b) ∧ Below w.heap.size w wr)) (fun v _ => l.length - (intOf v).toNat)
    case atStart => exact ⟨0, none, Nat.zero_le _, rfl, hid ⟨h0, (fun b e => by cases e), B0⟩⟩
    case round =>
      clear h0 B0
      obtain ⟨i, mb, hil, rfl, HI⟩ := hrel
      by_cases hlt : i < l.length
      · obtain ⟨ad, ead, hx0, hx1⟩ := at_T28 (Kd.C_below HR.out HI.out.2.2) (i : Int) (by omega) (by omega)
        have hxs := HQ.out _ (show rd_T28 l (i : Int) ∈ l by rw [rd_eq]; simp [List.getD_eq_getElem?_getD, List.getElem?_eq_getElem hlt])
        have HX : Hid (rd_T28 l (i : Int) = l.getD i z) := hid (by rw [rd_eq, Int.toNat_natCast])
        generalize rd_T28 l (i : Int) = x at *
        rw [Int.toNat_natCast] at hx0 hx1
        subst ead
        have hci : l.length ≤ c := hC.out
        have HSa := hid (fun W' (hb : Below w.heap.size w W') => Size_at (i := i + 1) (Kd.C_below HR.out hb) hci (by omega) h80 h10)
        have HSb := hid (fun W' (hb : Below w.heap.size w W') => Size_at (i := i) (Kd.C_below HR.out hb) hci (by omega) h80 h10)
        have HVa := hid (fun (t : ByteArray) W' (hb : Below w.heap.size w W') => Value_at (i := i + 1) (Kd.C_below HR.out hb) hci (by omega) h80 t)
        have HNa := hid (fun W' (hb : Below w.heap.size w W') => Names_at (i := i + 1) (Kd.C_below HR.out hb) hci (by omega) h80)
        have hft := hid (fold_take l i hlt)
        have hB1 := hid (HI.out.1.below ((Below.refl _ wr).alloc (Nat.le_refl _) (.cells #[.string x.f0, .int .i64 x.f1] 28)))
        have hL1 := hid (HI.out.2.2.alloc HI.out.2.2.size (.cells #[.string x.f0, .int .i64 x.f1] 28))
        go_wp2_with fail
        have hxa : (wr.alloc (.cells #[.string x.f0, .int .i64 x.f1] 28)).cell? ⟨wr.heap.size, 0, none⟩ = some (.string x.f0) := World.cell?_alloc_at _ _ _ _ rfl
        have hxb : (wr.alloc (.cells #[.string x.f0, .int .i64 x.f1] 28)).cell? ⟨wr.heap.size, 1, none⟩ = some (.int .i64 x.f1) := World.cell?_alloc_at _ _ _ _ rfl
        have hbx : w.heap.size ≤ wr.heap.size := HI.out.2.2.size
        have hbn : bs < wr.heap.size := HI.out.1.lt
        have hmn : mb ≠ some wr.heap.size := fun e => by have := HI.out.1.map; subst e; exact absurd this.lt (Nat.lt_irrefl _)
        have HI2 := hid HI.out.2.1
        clear hx0 hx1 HI
        generalize wr.heap.size = bx at *
        generalize wr.alloc (.cells #[.string x.f0, .int .i64 x.f1] 28) = W1 at *
        have hx0 := hxs.1
        have hri := hid (fold_rising (l.take i))
        have hsb := hid (size_le (l.take i))
        have hlb := hid (len_take l i)
        have hnz := hid (size_nonneg (fold (l.take i)))
        clear hxs
        generalize fold (l.take i) = M at *
        generalize hM1 : fold (l.take (i + 1)) = M1 at *
        have HM1 := hid hM1
        clear hM1
        have hB := hB1.out
        have hL := hL1.out
        have hza : size M1 = size M + grows M x.f0 := by rw [hft.out, ← HX.out, size_tput hri.out]
        have hgb := grows_bd M x.f0
        have hwr : IntKind.i64.wrap (size M1 - size M) = grows M x.f0 := by
          have h1 := hsb.out; have h2 := hlb.out; have h3 := hnz.out
          rw [IntWalk.i64_in _ (by have : (l.take i).length ≤ 80 := by (rw [List.length_take]; omega)
                                   omega)]
          omega
        have hv1 : val M1 x.f0 = wrap64 (val M x.f0 + x.f1) := by rw [hft.out, ← HX.out, val_tput, if_pos rfl]
        have Hza := hid hza
        clear hza hgb hB1 hL1
        have hi0 : (0 : Int) ≤ (i : Int) := by omega
        have hic : (i : Int) ≤ (c : Int) := by omega
        have hmx : i < maxLen := by unfold maxLen; omega
        have hza0 : 0 ≤ size M := hnz.out
        have hza1 : size M ≤ 1152921504606846976 := by
          have h1 := hsb.out; have h2 := hlb.out
          have : (l.take i).length ≤ 80 := by rw [List.length_take]; omega
          omega
        have hbM : ∀ b, mb = some b → w.heap.size ≤ b := HI2.out
        go_region_held3 (fun w' => w'.cell? ⟨bx, 0, none⟩ = some (.string x.f0) ∧ w'.cell? ⟨bx, 1, none⟩ = some (.int .i64 x.f1)) (first | exact ⟨hxa, hxb⟩ | go_keep)
          (first
            | (go_at_call 17; refine (Grows hB.drew x.f0 hx0).mono ?_; rintro e w' ⟨rfl, rfl⟩)
            | (go_at_call 18; (with_reducible refine (HSa.out _ ?_).mono ?_); (exact hL.drew); rintro e w2 ⟨rfl, hb2⟩; replace hxa := pw_cell_below hb2 hxa; replace hxb := pw_cell_below hb2 hxb; replace hB := hB.drew.below hb2; replace hL := below_then hL.drew hL.size hb2)
            | (go_at_call 18; (with_reducible refine (HSb.out _ ?_).mono ?_); (exact hL); rintro e w3 ⟨rfl, hb3⟩; replace hxa := pw_cell_below hb3 hxa; replace hxb := pw_cell_below hb3 hxb; replace hB := hB.below hb3; replace hL := below_then hL hL.size hb3)
            | (go_at_call 19; refine (Add hB x.f0 hx0 x.f1 hza0 hza1 hmx).mono ?_; rintro e w4 ⟨rfl, b, hb4, hB4, ht4⟩; have hfr := after_add hL hbs hbn hbM hmn (World.block_lt_of_cell? _ _ hxa) hb4 ht4; replace hL := hfr.1; replace hbM := hfr.2.1; replace hxa := hfr.2.2.1.trans hxa; replace hxb := hfr.2.2.2.trans hxb; replace hB := hB4; clear hfr hB4 ht4 hb4 hmn)
            | (go_at_call 20; (with_reducible refine (HVa.out _ _ ?_).mono ?_); (exact hL); rintro e w5 ⟨rfl, hb5⟩; replace hxa := pw_cell_below hb5 hxa; replace hxb := pw_cell_below hb5 hxb; replace hB := hB.below hb5; replace hL := below_then hL hL.size hb5))
        clear hza0 hza1 hwr hv1
        have hMe : tput ks M x.f0 (wrap64 (val M x.f0 + x.f1)) = M1 := by rw [hft.out, ← HX.out]
        rw [hMe, ← Hza.out] at hB
        clear hMe hxa hxb
        go_wp2_with (first
          | (go_at_call 21; refine (Value_ hB name (by unfold maxLen; omega)).mono ?_; rintro e w' ⟨rfl, rfl⟩)
          | (go_at_call 20; (with_reducible refine (HVa.out _ _ ?_).mono ?_); (exact hL); rintro e w6 ⟨rfl, hb6⟩; replace hB := hB.below hb6; replace hL := below_then hL hL.size hb6)
          | (go_at_call 22; refine (Size_ hB).mono ?_; rintro e w' ⟨rfl, rfl⟩)
          | (go_at_call 18; (with_reducible refine (HSa.out _ ?_).mono ?_); (exact hL); rintro e w7 ⟨rfl, hb7⟩; replace hB := hB.below hb7; replace hL := below_then hL hL.size hb7))
        refine (counter_any hB (by omega)).mono ?_
        rintro e w8 ⟨v8, rfl, hv8, hb8⟩
        obtain ⟨A8, c8, rfl, hl8, hr8⟩ := Kd.R_reads hv8
        clear hv8
        replace hB := hB.below hb8
        replace hL := below_then hL hL.size hb8
        go_wp2_with fail
        refine (HNa.out _ hL).mono ?_
        rintro e w9 ⟨v9, rfl, hv9, hb9⟩
        obtain ⟨A9, c9, rfl, hl9, hr9⟩ := Kd.R_reads hv9
        clear hv9
        replace hr8 := Kd.C_below hr8 hb9
        replace hB := hB.below hb9
        replace hL := below_then hL hL.size hb9
        have hMl : (M1.map fun p => p.1).length ≤ 8796093022207 := by
          have h1 := fold_length (l.take (i + 1))
          rw [HM1.out, List.length_take] at h1
          rw [List.length_map]
          omega
        go_wp2_with fail
        refine (Texts_same hr8 hl8 hr9 hl9 hMl (List.length_map _) (List.length_map _)).mono ?_
        rintro e w10 ⟨rfl, hb10⟩
        replace hB := hB.below hb10
        replace hL := below_then hL hL.size hb10
        clear hr8 hl8 hr9 hl9 hMl
        go_wp2_with fail
        go_roundw
        case rel => exact ⟨i + 1, some b, by omega, by go_num, hid ⟨by rw [HM1.out]; exact hB, hbM, hL⟩⟩
        case measure => simp [intOf]; omega
      · have hiL : i = l.length := by omega
        subst hiL
        have hB := HI.out.1
        have hL := HI.out.2.2
        rw [List.take_length] at hB
        have HVa := hid (fun W' (hb : Below w.heap.size w W') => Value_at (i := l.length) (Kd.C_below HR.out hb) hC.out (Nat.le_refl _) h80 name)
        rw [List.take_length] at HVa
        clear HI
        go_wp2_with (first
          | (go_at_call 21; refine (Value_ hB name (by unfold maxLen; omega)).mono ?_; rintro e w' ⟨rfl, rfl⟩)
          | (go_at_call 20; (with_reducible refine (HVa.out _ ?_).mono ?_); (exact hL); rintro e w6 ⟨rfl, hb6⟩; replace hL := below_then hL hL.size hb6)
          | (go_at_call 15; refine (awake _).mono ?_; rintro e w' ⟨rfl, hB⟩))
        go_ret
        exact ⟨rfl, hL.trans (hB.mono hL.size)⟩
end Go.Proofs.Ytnccofpkanhfhaa.Counter
