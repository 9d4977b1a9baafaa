/-
  concourselaw27.CounterOrder: the walk.
-/
import Derived.Test.YtnccofpkanhfhaaCounterAdds
set_option linter.unusedVariables false
set_option linter.unusedSimpArgs false
namespace Go.Proofs.Ytnccofpkanhfhaa.Counter
open Go.RowKit Go.Maps Go.WideMaps Go.Proofs.Ytnccofpkanhfhaa.Tab Go.Proofs.Ytnccofpkanhfhaa.R Go.Proofs.YtnccofpkanhfhaaW.PrintWords
/-- Two books that share nothing, one of which was told the first i rows, the other one the last i. -/
def Two (w0 w : World) (ba bb : Nat) (ma mb : Option Nat) (i : Nat) (M N : List (ByteArray × Int)) : Prop :=
  Book w ba 0 ma i M (size M) ∧ Book w bb 0 mb i N (size N) ∧ ba ≠ bb ∧ (∀ k, ma = some k → w0.heap.size ≤ k ∧ mb ≠ some k) ∧ (∀ k, mb = some k → w0.heap.size ≤ k) ∧ w0.heap.size ≤ ba ∧ w0.heap.size ≤ bb ∧ Below w0.heap.size w0 w
theorem Two.drew {w0 w : World} {ba bb : Nat} {ma mb : Option Nat} {i : Nat} {M N : List (ByteArray × Int)} (h : Two w0 w ba bb ma mb i M N) : Two w0 w.drew ba bb ma mb i M N := ⟨h.1.drew, h.2.1.drew, h.2.2.1, h.2.2.2.1, h.2.2.2.2.1, h.2.2.2.2.2.1, h.2.2.2.2.2.2.1, h.2.2.2.2.2.2.2.drew⟩
theorem Two.swap {w0 w : World} {ba bb : Nat} {ma mb : Option Nat} {i : Nat} {M N : List (ByteArray × Int)} (h : Two w0 w ba bb ma mb i M N) : Two w0 w bb ba mb ma i N M := by
  obtain ⟨h1, h2, h3, h4, h5, h6, h7, h8⟩ := h
  exact ⟨h2, h1, Ne.symm h3, fun k e => ⟨h5 k e, fun e' => (h4 k e').2 e⟩, fun k e => (h4 k e).1, h7, h6, h8⟩
/-- One of them is added to. -/
theorem Two.add {w0 w : World} {ba bb : Nat} {ma mb : Option Nat} {i : Nat} {M N : List (ByteArray × Int)} (h : Two w0 w ba bb ma mb i M N) (s : ByteArray) (hs : s.size ≤ 140737488351232) (x : Int) (h1 : size M ≤ 1152921504606846976) (hi : i < maxLen) (hr : Rising ks M) :
    Calls Try.prog 19 #[.pointer (some ⟨ba, 0, none⟩), .string s, .int .i64 x] w fun e w' => e = .returned (.int .i64 (wrap64 (val M s + x))) ∧
      ∃ b, Two w0 w' ba bb (some b) mb (i + 1) (tput ks M s (wrap64 (val M s + x))) N := by
  obtain ⟨g1, g2, g3, g4, g5, g6, g7, g8⟩ := h
  refine (Add g1 s hs x (size_nonneg M) h1 hi).mono fun e w' ⟨he, b, hb, hB, ht⟩ => ⟨he, b, ?_⟩
  have hbw : w0.heap.size ≤ b := by
    rcases hb with hb | ⟨_, hb⟩
    · exact (g4 b hb).1
    · have := g8.size; omega
  obtain ⟨o1, o2⟩ := g1.other g2 (fun e => absurd e.symm g3) (fun k e => (g4 k e).2) hb ht
  rw [← size_tput hr] at hB
  exact ⟨hB, ⟨o1.c0, o1.c1, o1.f0, o1.f1, o1.map.mono (by omega)⟩, g3, fun k e => by cases e; exact ⟨hbw, o2⟩, g5, g6, g7, g8.trans (ht.under g8.size g6 (fun k hk => by subst hk; exact hbw))⟩
set_option maxRecDepth 100000 in
set_option maxHeartbeats 2000000 in
theorem CounterOrder_walk (w : World) (A : Option Addr) (c : Nat) (l : List Row) (hr : Kd.C k28 w A l.length l) (hc : l.length ≤ c) (hq : ∀ x ∈ l, x.f0.size ≤ 140737488351232 ∧ (Lit.int .i64 x.f1).wf = true) (hlen : l.length * 24 ≤ 140737488351232) (name : ByteArray) (hs : name.size ≤ 140737488351232) :
    Calls Try.prog 4 #[.slice A l.length c, .string name] w fun e w' => e = .returned (.bool true) ∧ Below w.heap.size w w' := by
  obtain ⟨r, hm1, hm2⟩ := much_ok l (fun x hx => (hq x hx).1) (by omega)
  have hM := hid (concourselaw27_much.calls _ A c l r w hr hc hm1)
  have HR := hid hr
  have HQ := hid hq
  clear hq
  have HM2 := hid hm2
  clear hr hm1 hm2
  go_enter Try.func4, Try.ntmps4
  go_wp2_with fail
  refine hM.out.mono ?_
  rintro e w1 ⟨rfl, hb1⟩
  cases r with
  | true =>
    go_wp2_with (go_at_call 15; refine (awake _).mono ?_; rintro e w' ⟨rfl, hB⟩)
    go_ret
    exact ⟨rfl, hb1.trans (hB.mono hb1.size)⟩
  | false =>
    obtain ⟨h80, h10⟩ := HM2.out rfl
    clear HM2 hM
    have hC := hid hc
    clear hc
    go_wp2_with (go_at_call 16; refine (New _).mono ?_; rintro e w' ⟨rfl, rfl⟩)
    have h0 : Two w ((w1.alloc (.cells #[.map none, .int .i64 0] 42)).alloc (.cells #[.map none, .int .i64 0] 42)) w1.heap.size (w1.heap.size + 1) none none 0 [] [] := by
      have hsz : (w1.alloc (.cells #[.map none, .int .i64 0] 42)).heap.size = w1.heap.size + 1 := by simp
      have hb2 := made (w1.alloc (.cells #[.map none, .int .i64 0] 42)) 0
      rw [hsz] at hb2
      refine ⟨(made w1 0).below ((Below.refl _ _).alloc (Nat.le_refl _) _), hb2, by omega, (fun k e => by cases e), (fun k e => by cases e), hb1.size, by have := hb1.size; omega, (hb1.alloc hb1.size _).alloc (by have := hb1.size; omega) _⟩
    generalize w1.heap.size + 1 = bb at *
    generalize w1.heap.size = ba at *
    generalize (w1.alloc (.cells #[.map none, .int .i64 0] 42)).alloc (.cells #[.map none, .int .i64 0] 42) = W0 at *
    clear hb1 w1
    go_loopw [7] (fun v wr => ∃ (i : Nat) (ma mb : Option Nat), i ≤ l.length ∧ v = .int .i64 i ∧ Hid (Two w wr ba bb ma mb (2 * i) (fold (l.take i)) (fold (l.reverse.take i)))) (fun v _ => l.length - (intOf v).toNat)
    case atStart => exact ⟨0, none, none, Nat.zero_le _, rfl, hid h0⟩
    case round =>
      clear h0
      obtain ⟨i, ma, mb, hil, rfl, HI⟩ := hrel
      by_cases hlt : i < l.length
      · have hW := HI.out.2.2.2.2.2.2.2
        obtain ⟨ad, ead, hx0, hx1⟩ := at_T28 (Kd.C_below HR.out hW) (i : Int) (by omega) (by omega)
        have HX : Hid (rd_T28 l (i : Int) = l.getD i z) := hid (by rw [rd_eq, Int.toNat_natCast])
        have hxs := HQ.out _ (show rd_T28 l (i : Int) ∈ l by rw [rd_eq]; simp [List.getD_eq_getElem?_getD, List.getElem?_eq_getElem hlt])
        generalize rd_T28 l (i : Int) = x at *
        rw [Int.toNat_natCast] at hx0 hx1
        subst ead
        have hci : l.length ≤ c := hC.out
        have hi0 : (0 : Int) ≤ (i : Int) := by omega
        have hil' : (i : Int) < (l.length : Int) := by omega
        go_wp2_with fail
        refine wp_region_still_tail 11 (by kernel_rfl) (by kernel_rfl) ?_
        simp only [List.take_succ_cons, List.take_zero, List.drop_succ_cons, List.drop_zero]
        iterate 11 still_step
        refine wpStill_nil ?_
        change wpList _ _ _ _ _ wr.drew
        go_wp2_with fail
        have hzi : (l.take i).length ≤ 80 := by rw [List.length_take]; omega
        have hzr : (l.reverse.take i).length ≤ 80 := by rw [List.length_take, List.length_reverse]; omega
        have hsM : size (fold (l.take i)) ≤ 1152921504606846976 := by
          have h1 := size_le (l.take i); have h2 := len_take l i
          omega
        have hsN : size (fold (l.reverse.take i)) ≤ 1152921504606846976 := by
          have h1 := size_le (l.reverse.take i); have h2 := len_take l.reverse i
          have h3 : len l.reverse = len l := by unfold len; rw [List.map_reverse, List.sum_reverse]
          omega
        refine (Two.add HI.out.drew x.f0 hxs.1 x.f1 hsM (by unfold maxLen; omega) (fold_rising _)).mono ?_
        rintro e w2 ⟨rfl, b, h2⟩
        have hft : fold (l.take (i + 1)) = tput ks (fold (l.take i)) x.f0 (wrap64 (val (fold (l.take i)) x.f0 + x.f1)) := by rw [fold_take l i hlt, ← HX.out]
        rw [← hft] at h2
        have hW2 := h2.2.2.2.2.2.2.2
        clear hx0 hx1 hsM hft HX hxs
        have ha0 : (0 : Int) ≤ (l.length : Int) - 1 - (i : Int) := by omega
        have ha1 : (l.length : Int) - 1 - (i : Int) < (l.length : Int) := by omega
        obtain ⟨ad', ead', hy0, hy1⟩ := at_T28 (Kd.C_below HR.out hW2) ((l.length : Int) - 1 - (i : Int)) ha0 ha1
        obtain rfl : ad = ad' := by injection ead'
        have hj : ((l.length : Int) - 1 - (i : Int)).toNat = l.length - 1 - i := by omega
        have hrl : i < l.reverse.length := by rw [List.length_reverse]; exact hlt
        have HY : Hid (rd_T28 l ((l.length : Int) - 1 - (i : Int)) = l.reverse.getD i z) := hid (by
          rw [rd_eq, hj]
          simp only [List.getD_eq_getElem?_getD]
          rw [List.getElem?_reverse hlt])
        have hys := HQ.out _ (show rd_T28 l ((l.length : Int) - 1 - (i : Int)) ∈ l by rw [rd_eq, hj]; simp [List.getD_eq_getElem?_getD, List.getElem?_eq_getElem (show l.length - 1 - i < l.length by omega)])
        generalize rd_T28 l ((l.length : Int) - 1 - (i : Int)) = y at *
        rw [hj] at hy0 hy1
        clear hj
        have hd1 : (i : Int) ≤ (l.length : Int) - 1 := by omega
        have hw1 : IntKind.i64.wrap ((l.length : Int) - 1) = (l.length : Int) - 1 := IntWalk.i64_in _ (by omega)
        have hw2 : IntKind.i64.wrap ((l.length : Int) - 1 - (i : Int)) = (l.length : Int) - 1 - (i : Int) := IntWalk.i64_in _ (by omega)
        go_wp2_with fail
        refine wp_region_still_tail 19 (by kernel_rfl) (by kernel_rfl) ?_
        simp only [List.take_succ_cons, List.take_zero, List.drop_succ_cons, List.drop_zero]
        iterate 19 still_step
        refine wpStill_nil ?_
        change wpList _ _ _ _ _ w2.drew
        clear hw1 hw2
        go_wp2_with fail
        refine (Two.add h2.swap.drew y.f0 hys.1 y.f1 hsN (by unfold maxLen; omega) (fold_rising _)).mono ?_
        rintro e w3 ⟨rfl, b', h3⟩
        have hft : fold (l.reverse.take (i + 1)) = tput ks (fold (l.reverse.take i)) y.f0 (wrap64 (val (fold (l.reverse.take i)) y.f0 + y.f1)) := by rw [fold_take l.reverse i hrl, ← HY.out]
        rw [← hft] at h3
        clear hy0 hy1 hsN hft HY hys HI
        go_wp2_with fail
        go_roundw
        case rel => exact ⟨i + 1, some b, some b', by omega, by go_num, hid h3.swap⟩
        case measure => simp [intOf]; omega
      · have hiL : i = l.length := by omega
        subst hiL
        have h2 := HI.out
        rw [List.take_length, show l.reverse.take l.length = l.reverse by rw [← List.length_reverse, List.take_length]] at h2
        have hk : (fold l.reverse).map (fun p => p.1) = (fold l).map (fun p => p.1) := keys_perm (List.reverse_perm l)
        have hv := val_perm (List.reverse_perm l) name
        have hz := size_perm (List.reverse_perm l)
        have hB := h2.1
        have hB2 := h2.2.1
        have hL := h2.2.2.2.2.2.2.2
        have hMl : ((fold l).map fun p => p.1).length ≤ 8796093022207 := by
          have h1 := fold_length l
          rw [List.length_map]
          omega
        have HK := hid hk
        rw [hz] at hB2
        clear HI h2 hk hz
        go_wp2_with fail
        refine (Value_ hB name (by unfold maxLen; omega)).mono ?_
        rintro e w3 ⟨rfl, rfl⟩
        go_wp2_with fail
        refine (Value_ hB2 name (by unfold maxLen; omega)).mono ?_
        rintro e w3 ⟨rfl, rfl⟩
        rw [hv]
        clear hv
        go_wp2_with fail
        refine (Size_ hB).mono ?_
        rintro e w3 ⟨rfl, rfl⟩
        go_wp2_with fail
        refine (Size_ hB2).mono ?_
        rintro e w3 ⟨rfl, rfl⟩
        go_wp2_with fail
        refine (counter_any hB (by omega)).mono ?_
        rintro e w8 ⟨v8, rfl, hv8, hb8⟩
        obtain ⟨A8, c8, rfl, hl8, hr8⟩ := Kd.R_reads hv8
        clear hv8
        replace hB2 := hB2.below hb8
        replace hL := below_then hL hL.size hb8
        go_wp2_with fail
        refine (counter_any hB2 (by omega)).mono ?_
        rintro e w9 ⟨v9, rfl, hv9, hb9⟩
        rw [HK.out] at hv9
        obtain ⟨A9, c9, rfl, hl9, hr9⟩ := Kd.R_reads hv9
        clear hv9
        replace hr8 := Kd.C_below hr8 hb9
        replace hL := below_then hL hL.size hb9
        clear hB hB2
        go_wp2_with fail
        refine (Texts_same hr8 hl8 hr9 hl9 hMl (List.length_map _) (List.length_map _)).mono ?_
        rintro e w10 ⟨rfl, hb10⟩
        replace hL := below_then hL hL.size hb10
        clear hr8 hl8 hr9 hl9 hMl
        go_wp2_with (go_at_call 15; refine (awake _).mono ?_; rintro e w' ⟨rfl, hB⟩)
        go_ret
        exact ⟨rfl, hL.trans (hB.mono hL.size)⟩
end Go.Proofs.Ytnccofpkanhfhaa.Counter
