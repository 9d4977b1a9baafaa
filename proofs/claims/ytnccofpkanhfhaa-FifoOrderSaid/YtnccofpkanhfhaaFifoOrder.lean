/-
  concourselaw28.FifoOrder: the walk.
-/
import Derived.Test.YtnccofpkanhfhaaFifoSt
import Derived.WalkArith
import Derived.Outline
set_option linter.unusedVariables false
set_option linter.unusedSimpArgs false
namespace Go.Proofs.Ytnccofpkanhfhaa.Fifo
open Go.RowKit Go.Maps Go.WideMaps Go.Proofs.Ytnccofpkanhfhaa.Tab Go.Proofs.Ytnccofpkanhfhaa.Pure Go.Proofs.YtnccofpkanhfhaaW.PrintWords
abbrev BB : Nat := 140737488351232
theorem empty_of {w wr : World} {bs n : Nat} {mb : Option Nat} {M : Tabl} (h : Sg BB w wr bs mb n M) (he : ∀ u, at_ M u = []) : M = [] := by
  apply List.eq_nil_iff_forall_not_mem.2
  intro p hp
  have := (keys_at h p.1).1 (List.mem_map.2 ⟨p, hp, rfl⟩)
  exact this (he _)
/-- How many wait in the second queue behind i rounds. -/
def cb (i : Nat) : Nat := i - i / 2
set_option maxRecDepth 100000 in
set_option maxHeartbeats 4000000 in
theorem FifoOrder_walk (w : World) (a : ByteArray) (ha : a.size ≤ 140737488351232) (b : ByteArray) (hb : b.size ≤ 140737488351232) (A : Option Addr) (c : Nat) (l : List ByteArray) (hr : Kd.C Kd.string w A l.length l) (hc : l.length ≤ c) (hq : ∀ x ∈ l, x.size ≤ 140737488351232) (hlen : l.length * 16 ≤ 140737488351232) :
    Calls Try.prog 10 #[.string a, .string b, .slice A l.length c] w fun e w' => e = .returned (.bool true) ∧ Below w.heap.size w w' := by
  have HR := hid hr
  have HC := hid hc
  have HQ := hid hq
  clear hr hc hq
  by_cases hab : a = b
  · subst hab
    go_enter Try.func10, Try.ntmps10
    go_wp2_with (go_at_call 40; refine (awake _).mono ?_; rintro e w' ⟨rfl, hB⟩)
    all_goals go_ret
    all_goals exact ⟨rfl, hB⟩
  have hab2 : (a.toList == b.toList) = false := by rw [beq_eq_false_iff_ne]; exact fun e => hab (toList_inj.1 e)
  by_cases hbig : (200 : Int) < (l.length : Int)
  · go_enter Try.func10, Try.ntmps10
    go_wp2_with (go_at_call 40; refine (awake _).mono ?_; rintro e w' ⟨rfl, hB⟩)
    go_ret
    exact ⟨rfl, hB⟩
  have h200 : l.length ≤ 200 := by omega
  have S0 := hid (Sg.made BB w w (Below.refl _ _))
  go_enter Try.func10, Try.ntmps10
  go_wp2_with fail
  generalize hbs : w.heap.size = bs at S0 ⊢
  generalize w.alloc (.cells #[.map none, .int .i64 0] 79) = W0 at *
  have T0 : Sg BB w W0 bs none (2 * 0) [] := by have := S0.out; exact this
  clear hbs S0
  have hcb : ∀ i, cb i ≤ i := fun i => by unfold cb; omega
  go_loopw [8] (fun v0 wr => ∃ (i : Nat) (mb : Option Nat) (M : Tabl), i ≤ l.length ∧ v0 = .int .i64 i ∧ Hid (Sg BB w wr bs mb (2 * i) M ∧ at_ M a = l.take i ∧ (at_ M b).length = cb i ∧ ∀ u, u ≠ a → u ≠ b → at_ M u = [])) (fun v0 _ => l.length - (intOf v0).toNat)
  case atStart => exact ⟨0, none, [], Nat.zero_le _, rfl, hid ⟨T0, rfl, rfl, fun u _ _ => rfl⟩⟩
  case round =>
    clear T0
    obtain ⟨i, mb, M, hil, rfl, HI⟩ := hrel
    by_cases hlt : i < l.length
    · have hCC := Kd.C_below HR.out HI.out.1.below
      obtain ⟨ad, ead, hx0⟩ := Kd.at_string hCC (i : Int) (by omega) (by omega)
      subst ead
      have hxs := HQ.out _ (show rdOf ByteArray.empty l (i : Int) ∈ l by unfold rdOf; simp [List.getD_eq_getElem?_getD, List.getElem?_eq_getElem hlt])
      have hys := HQ.out _ (show rdOf ByteArray.empty l ((l.length : Int) - 1 - (i : Int)) ∈ l by unfold rdOf; rw [show ((l.length : Int) - 1 - (i : Int)).toNat = l.length - 1 - i by omega]; simp [List.getD_eq_getElem?_getD, List.getElem?_eq_getElem (show l.length - 1 - i < l.length by omega)])
      have HX : Hid (rdOf ByteArray.empty l (i : Int) = l[i]) := hid (by unfold rdOf; simp [List.getD_eq_getElem?_getD, List.getElem?_eq_getElem hlt])
      generalize rdOf ByteArray.empty l (i : Int) = x at *
      rw [Int.toNat_natCast] at hx0
      have hi0 : (0 : Int) ≤ (i : Int) := by omega
      have hic : (i : Int) < (l.length : Int) := by omega
      have hw1 : IntKind.i64.wrap ((l.length : Int) - 1) = (l.length : Int) - 1 := IntWalk.i64_in _ (by omega)
      have hw2 : IntKind.i64.wrap ((l.length : Int) - 1 - (i : Int)) = (l.length : Int) - 1 - (i : Int) := IntWalk.i64_in _ (by omega)
      have hd1 : (i : Int) ≤ (l.length : Int) - 1 := by omega
      have ha0 : (0 : Int) ≤ (l.length : Int) - 1 - (i : Int) := by omega
      have ha1 : (l.length : Int) - 1 - (i : Int) < (l.length : Int) := by omega
      clear hCC
      go_wp2_with fail
      refine (HI.out.1.push (by omega) (Nat.le_refl _) ha hxs).mono ?_
      rintro e w1 ⟨rfl, b1, M1, S1, h1, _, ht1, _⟩
      obtain ⟨ad', ead', hy0⟩ := Kd.at_string (Kd.C_below HR.out S1.below) ((l.length : Int) - 1 - (i : Int)) (by omega) (by omega)
      obtain rfl : ad = ad' := by injection ead'
      generalize rdOf ByteArray.empty l ((l.length : Int) - 1 - (i : Int)) = y at *
      rw [show ((l.length : Int) - 1 - (i : Int)).toNat = l.length - 1 - i by omega] at hy0
      go_wp2_with fail
      refine (S1.push (by omega) (Nat.le_refl _) hb hys).mono ?_
      rintro e w2 ⟨rfl, b2, M2, S2, h2, _, ht2, _⟩
      have hA2 : at_ M2 a = l.take (i + 1) := by
        rw [h2, if_neg hab, h1, if_pos rfl, HI.out.2.1, HX.out, List.take_succ_eq_append_getElem hlt]
      have hB1 : at_ M2 b = at_ M b ++ [y] := by
        rw [h2, if_pos rfl, h1, if_neg (fun e => hab e.symm)]
      have hO2 : ∀ u, u ≠ a → u ≠ b → at_ M2 u = [] := fun u hua hub => by rw [h2, if_neg hub, h1, if_neg hua]; exact HI.out.2.2.2 u hua hub
      have hL2 : (at_ M2 b).length = cb i + 1 := by rw [hB1, List.length_append, HI.out.2.2.1]; rfl
      have HX2 := hid (And.intro hA2 (And.intro hL2 hO2))
      clear hA2 hB1 hO2 hL2 h1 h2 ht1 ht2 hw1 hw2 hy0 hx0
      have HS1 := hid S1
      clear S1 HX hxs hys
      by_cases hm : i % 2 = 1
      · have hm1 : (i : Int) % 2 = 1 := by omega
        obtain ⟨t, ts, hts⟩ : ∃ t ts, at_ M2 b = t :: ts := by
          cases e : at_ M2 b with
          | nil => have := HX2.out.2.1; rw [e] at this; simp at this
          | cons t ts => exact ⟨t, ts, rfl⟩
        go_wp2_with fail
        refine (S2.pop_some (by omega) (Nat.le_refl _) hts).mono ?_
        rintro e w3 ⟨rfl, M3, S3, h3, _⟩
        have hl3 : ts.length = cb (i + 1) := by
          have h1 := HX2.out.2.1
          rw [hts, List.length_cons] at h1
          unfold cb at h1 ⊢
          omega
        have HX3 : Hid (at_ M3 a = l.take (i + 1) ∧ (at_ M3 b).length = cb (i + 1) ∧ ∀ u, u ≠ a → u ≠ b → at_ M3 u = []) :=
          hid ⟨by rw [h3, if_neg hab]; exact HX2.out.1, by rw [h3, if_pos rfl]; exact hl3, fun u hua hub => by rw [h3, if_neg hub]; exact HX2.out.2.2 u hua hub⟩
        clear h3 hl3 hts
        go_wp2_with fail
        go_roundw
        case rel => exact ⟨i + 1, some b2, M3, by omega, by go_num, hid ⟨S3.mono (by omega), HX3.out⟩⟩
        case measure => simp [intOf]; omega
      · have hm1 : (i : Int) % 2 = 0 := by omega
        have hl3 : cb i + 1 = cb (i + 1) := by unfold cb; omega
        go_wp2_with fail
        go_roundw
        case rel => exact ⟨i + 1, some b2, M2, by omega, by go_num, hid ⟨S2.mono (by omega), HX2.out.1, by rw [HX2.out.2.1, hl3], HX2.out.2.2⟩⟩
        case measure => simp [intOf]; omega
    · have hiL : i = l.length := by omega
      subst hiL
      have h0 := HI.out
      rw [List.take_length] at h0
      clear HI
      have T1 := hid h0
      clear h0
      go_wp2_with fail
      go_loopw [9] (fun v0 wr => ∃ (i : Nat) (mb : Option Nat) (M : Tabl), i ≤ l.length ∧ v0 = .int .i64 i ∧ Hid (Sg BB w wr bs mb (2 * l.length) M ∧ at_ M a = l.drop i ∧ (at_ M b).length = cb l.length - i ∧ ∀ u, u ≠ a → u ≠ b → at_ M u = [])) (fun v0 _ => l.length - (intOf v0).toNat)
      case atStart => exact ⟨0, mb, M, Nat.zero_le _, rfl, hid ⟨T1.out.1, by rw [List.drop_zero]; exact T1.out.2.1, T1.out.2.2⟩⟩
      case round =>
        clear T1
        obtain ⟨i, mb, M, hil, rfl, HI⟩ := hrel
        by_cases hlt : i < l.length
        · obtain ⟨ad, ead, hx0⟩ := Kd.at_string (Kd.C_below HR.out HI.out.1.below) (i : Int) (by omega) (by omega)
          subst ead
          have HX : Hid (rdOf ByteArray.empty l (i : Int) = l[i]) := hid (by unfold rdOf; simp [List.getD_eq_getElem?_getD, List.getElem?_eq_getElem hlt])
          have hda : at_ M a = l[i] :: l.drop (i + 1) := by rw [HI.out.2.1, List.drop_eq_getElem_cons hlt]
          have hi0 : (0 : Int) ≤ (i : Int) := by omega
          have hic : (i : Int) < (l.length : Int) := by omega
          clear hx0
          go_wp2_with fail
          refine (HI.out.1.pop_some (by omega) (Nat.le_refl _) hda).mono ?_
          rintro e w1 ⟨rfl, M1, S1, h1, _⟩
          obtain ⟨ad', ead', hx0⟩ := Kd.at_string (Kd.C_below HR.out S1.below) (i : Int) (by omega) (by omega)
          obtain rfl : ad = ad' := by injection ead'
          rw [HX.out, Int.toNat_natCast] at hx0
          have hA1 : at_ M1 a = l.drop (i + 1) := by rw [h1, if_pos rfl]
          have hO1 : ∀ u, u ≠ a → u ≠ b → at_ M1 u = [] := fun u hua hub => by rw [h1, if_neg hua]; exact HI.out.2.2.2 u hua hub
          have hB1 : (at_ M1 b).length = cb l.length - i := by rw [h1, if_neg (fun e => hab e.symm)]; exact HI.out.2.2.1
          have HX2 := hid (And.intro hA1 (And.intro hB1 hO1))
          clear h1 hA1 hB1 hO1 HX hda
          go_wp2_with fail
          cases hts : at_ M1 b with
          | nil =>
            refine (S1.pop_none hb hts).mono ?_
            rintro e w' ⟨rfl, rfl⟩
            have hl0 := HX2.out.2.1
            rw [hts] at hl0
            have hz := hid (show 0 = cb l.length - (i + 1) by simp at hl0; omega)
            clear hl0
            go_wp2_with fail
            go_roundw
            case rel => exact ⟨i + 1, mb, M1, by omega, by go_num, hid ⟨S1, HX2.out.1, by rw [hts]; exact hz.out, HX2.out.2.2⟩⟩
            case measure => simp [intOf]; omega
          | cons t ts =>
            refine (S1.pop_some (by omega) (Nat.le_refl _) hts).mono ?_
            rintro e w2 ⟨rfl, M2, S2, h2, _⟩
            have hl0 := HX2.out.2.1
            rw [hts, List.length_cons] at hl0
            have HX3 : Hid (at_ M2 a = l.drop (i + 1) ∧ (at_ M2 b).length = cb l.length - (i + 1) ∧ ∀ u, u ≠ a → u ≠ b → at_ M2 u = []) :=
              hid ⟨by rw [h2, if_neg hab]; exact HX2.out.1, by rw [h2, if_pos rfl]; omega, fun u hua hub => by rw [h2, if_neg hub]; exact HX2.out.2.2 u hua hub⟩
            clear h2 hl0 hts
            go_wp2_with fail
            go_roundw
            case rel => exact ⟨i + 1, mb, M2, by omega, by go_num, hid ⟨S2, HX3.out⟩⟩
            case measure => simp [intOf]; omega
        · have hiL : i = l.length := by omega
          subst hiL
          have hA : at_ M a = [] := by rw [HI.out.2.1, List.drop_length]
          have hB : at_ M b = [] := List.eq_nil_of_length_eq_zero (by rw [HI.out.2.2.1]; have := hcb l.length; omega)
          have hM : M = [] := empty_of HI.out.1 (fun u => by
            by_cases e1 : u = a
            · rw [e1]; exact hA
            · by_cases e2 : u = b
              · rw [e2]; exact hB
              · exact HI.out.2.2.2 u e1 e2)
          subst hM
          have hS := HI.out.1
          clear HI hB
          go_wp2_with fail
          refine (hS.pop_none ha hA).mono ?_
          rintro e w' ⟨rfl, rfl⟩
          go_wp2_with fail
          refine hS.size_.mono ?_
          rintro e w' ⟨rfl, rfl⟩
          have hz : tot [] + nm [] = 0 := rfl
          rw [hz]
          go_wp2_with fail
          refine (hS.names (by omega)).mono ?_
          rintro e w2 ⟨A2, c2, rfl, hl2, hr2, hb2⟩
          have hL := hS.move hb2
          clear hr2 hl2
          go_wp2_with (go_at_call 40; refine (awake _).mono ?_; rintro e w' ⟨rfl, hB⟩)
          go_ret
          exact ⟨rfl, hL.below.trans (hB.mono hL.below.size)⟩
end Go.Proofs.Ytnccofpkanhfhaa.Fifo
