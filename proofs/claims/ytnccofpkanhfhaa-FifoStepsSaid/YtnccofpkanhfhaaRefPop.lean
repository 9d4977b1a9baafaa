/-
  concourseref28.Pop, by its contract: the rows without the first one of a name, and it.
-/
import Derived.Test.YtnccofpkanhfhaaRh
import Derived.Test.YtnccofpkanhfhaaPure
import Derived.Deep.RegionHeld3
import Derived.Outline
set_option linter.unusedVariables false
set_option linter.unusedSimpArgs false
namespace Go.Proofs.Ytnccofpkanhfhaa.RefPop
open Go.RowKit Go.Proofs.Ytnccofpkanhfhaa.Tab Go.Proofs.Ytnccofpkanhfhaa.Pure Go.Proofs.Ytnccofpkanhfhaa.R Go.Proofs.YtnccofpkanhfhaaW.PrintWords Go.Proofs.YtnccofpkanhfhaaW.PrintLast Go.Proofs.YtnccofpkanhfhaaW.PrintMore
abbrev Row := S71
abbrev z := z71
theorem rd_eq (l : List Row) (i : Int) : rd_T71 l i = l.getD i.toNat z := rfl
theorem getD_at (l : List Row) {i : Nat} (h : i < l.length) : l.getD i z = l[i] := by simp [List.getD_eq_getElem?_getD, List.getElem?_eq_getElem h]
theorem cell_keep {w w' : World} (a : Addr) {v : Value} (h : w'.heap[a.block]? = w.heap[a.block]?) (hc : w.cell? a = some v) : w'.cell? a = some v := (World.cell?_of_block h).trans hc
set_option maxRecDepth 100000 in
set_option maxHeartbeats 4000000 in
theorem miss (w : World) (A : Option Addr) (c : Nat) (l : List Row) (s : ByteArray) (hr : Kd.C k71 w A l.length l) (hc : l.length ≤ c) (hl : l.length ≤ 1000000) (hno : ∀ i (h : i < l.length), l[i].f0 ≠ s) :
    Calls Try.prog 46 #[.slice A l.length c, .string s] w fun e w' => e = .returned (.tuple #[.slice A l.length c, .string ⟨#[]⟩, .bool false]) ∧ Below w.heap.size w w' := by
  have HR := hid hr
  have HN := hid hno
  clear hr hno
  go_enter Try.func46, Try.ntmps46
  go_wp2_with fail
  go_loopw [7] (fun v0 wr => ∃ (i : Nat), i ≤ l.length ∧ v0 = .int .i64 i ∧ wr = w) (fun v0 _ => l.length - (intOf v0).toNat)
  case atStart => exact ⟨0, Nat.zero_le _, rfl, rfl⟩
  case round =>
    obtain ⟨i, hil, rfl, rfl⟩ := hrel
    by_cases hlt : i < l.length
    · obtain ⟨ad, ead, hx0, hx1⟩ := at_T71 HR.out (i : Int) (by omega) (by omega)
      rw [rd_eq, Int.toNat_natCast, getD_at l hlt] at hx0 hx1
      subst ead
      have hne : (l[i].f0.toList == s.toList) = false := by rw [beq_eq_false_iff_ne]; exact fun e => HN.out i hlt (toList_inj.1 e)
      have hi0 : (0 : Int) ≤ (i : Int) := by omega
      have hic : (i : Int) < (l.length : Int) := by omega
      go_wp2_with fail
      go_roundw
      case rel => exact ⟨i + 1, by omega, by go_num, trivial⟩
      case measure => simp [intOf]; omega
    · have hiL : i = l.length := by omega
      subst hiL
      go_wp2_with fail
      go_ret3
      exact ⟨rfl, Below.refl _ _⟩
set_option maxRecDepth 100000 in
set_option maxHeartbeats 4000000 in
theorem hit (w : World) (A : Option Addr) (c : Nat) (l : List Row) (s : ByteArray) (hr : Kd.C k71 w A l.length l) (hc : l.length ≤ c) (hl : l.length ≤ 1000000) (j : Nat) (hj : j < l.length) (hjs : l[j].f0 = s) (hno : ∀ i (h : i < l.length), i < j → l[i].f0 ≠ s) :
    Calls Try.prog 46 #[.slice A l.length c, .string s] w fun e w' => ∃ v', e = .returned (.tuple #[v', .string l[j].f1, .bool true]) ∧ Kd.R k71 71 w' w.heap.size (fun _ => True) v' (l.take j ++ l.drop (j + 1)) ∧ Below w.heap.size w w' := by
  have HR := hid hr
  have HN := hid hno
  have HC := hid hc
  clear hr hno hc
  go_enter Try.func46, Try.ntmps46
  go_wp2_with fail
  go_loopw [7] (fun v0 wr => ∃ (i : Nat), i ≤ j ∧ v0 = .int .i64 i ∧ wr = w) (fun v0 _ => l.length - (intOf v0).toNat)
  case atStart => exact ⟨0, Nat.zero_le _, rfl, rfl⟩
  case round =>
    obtain ⟨i, hil, rfl, rfl⟩ := hrel
    have hlt : i < l.length := by omega
    obtain ⟨ad, ead, hx0, hx1⟩ := at_T71 HR.out (i : Int) (by omega) (by omega)
    rw [rd_eq, Int.toNat_natCast, getD_at l hlt] at hx0 hx1
    subst ead
    have hi0 : (0 : Int) ≤ (i : Int) := by omega
    have hic : (i : Int) < (l.length : Int) := by omega
    by_cases hij : i < j
    · have hne : (l[i].f0.toList == s.toList) = false := by rw [beq_eq_false_iff_ne]; exact fun e => HN.out i hlt hij (toList_inj.1 e)
      go_wp2_with fail
      go_roundw
      case rel => exact ⟨i + 1, by omega, by go_num, trivial⟩
      case measure => simp [intOf]; omega
    · obtain rfl : i = j := by omega
      have hne : (l[i].f0.toList == s.toList) = true := by rw [beq_iff_eq, hjs]
      go_wp2_with fail
      obtain ⟨i0, hi0', _, hsz, _⟩ := info_parts info71
      have hw1 : IntKind.i64.wrap ((i : Int) + 1) = (i : Int) + 1 := IntWalk.i64_in _ (by omega)
      have hcut1 := cut_to (P := Try.prog) 69 71 .i64 Try.underlying69 hi0' (some ad) l.length c (i : Int) hi0 (by omega) HC.out
      have hcut2 := cut_from (P := Try.prog) 69 71 .i64 Try.underlying69 hi0' 2 hsz (some ad) l.length c ((i : Int) + 1) (by omega) (by omega)
      rw [Int.toNat_natCast] at hcut1
      rw [show ((i : Int) + 1).toNat = i + 1 by omega] at hcut2
      obtain ⟨A2, hA2⟩ : ∃ A1, (if c = i + 1 then (some ad) else ((some ad) : Option Addr).map (·.add ((i + 1) * 2))) = A1 := ⟨_, rfl⟩
      rw [hA2] at hcut2
      have hx1' : wr.cell? ⟨(ad.add (i * 2)).block, (ad.add (i * 2)).off + 1, none⟩ = some (.string l[i].f1) := hx1
      have HX0 := hid hx0
      clear hx0 hx1
      have hadl : (ad.add (i * 2)).block < wr.heap.size := World.block_lt_of_cell? wr ⟨(ad.add (i * 2)).block, (ad.add (i * 2)).off + 1, none⟩ hx1'
      have hR0 : Kd.R k71 71 (wr.alloc (.cells #[] 71)).drew wr.heap.size (fun _ => True) (.slice (some ⟨wr.heap.size, 0, none⟩) 0 0) ([] : List Row) :=
        ⟨fun _ _ => trivial, [], World.ownsRow_lit wr #[] 0 (Nat.le_refl _) (by unfold maxLen; omega) rfl, Reps.none _ _⟩
      have hB0 : Below wr.heap.size wr (wr.alloc (.cells #[] 71)).drew := ((Below.refl _ _).alloc (Nat.le_refl _) _).drew
      have hC1 : Kd.C k71 wr (some ad) i (l.take i) := by
        have h1 := Kd.C_take (m := i) HR.out (by omega)
        rw [List.length_take, Nat.min_eq_left (by omega)] at h1
        exact h1
      have hC2 : Kd.C k71 wr A2 (l.length - (i + 1)) (l.drop (i + 1)) := by
        have h1 := Kd.C_drop (m := i + 1) (c := c) HR.out (by omega) HC.out
        rw [List.length_drop] at h1
        rw [← hA2]
        exact h1
      have HR0 := hid hR0
      have HB0 := hid hB0
      have HC1 := hid hC1
      have HC2 := hid hC2
      have HXX := hid hx1'
      clear hR0 hB0 hC1 hC2
      go_region_held3 (fun w' => w'.cell? ⟨(ad.add (i * 2)).block, (ad.add (i * 2)).off + 1, none⟩ = some (.string l[i].f1)) (first | exact hx1' | go_keep)
        (first
          | (refine Kd.R_append_rows_step k71 (w0 := wr) wr.heap.size (by rfl) (.tmp 21) (.tmp 24) 69 71 (.agg #[(.string ⟨#[]⟩), (.string ⟨#[]⟩)]) 32 rfl Try.underlying69 info71 rfl (by decide) (by omega) (.slice (some ⟨wr.heap.size, 0, none⟩) 0 0) [] (l.take i) (some ad) i c (fun _ => True) (fun _ => False) rfl rfl HR0.out (Kd.C_below HC1.out HB0.out) (fun _ _ h => h) (fun _ h => h.elim) (fun _ _ => trivial) HB0.out HB0.out.size (by simp; omega) ?_; intro v1 w2 ho1 hb1 hg1 hat1; have hx2 := cell_keep ⟨(ad.add (i * 2)).block, (ad.add (i * 2)).off + 1, none⟩ (hb1.block _ hadl) HXX.out; have HO1 := hid ho1; have HB1 := hid hb1; clear ho1 hb1 hg1 hat1)
          | (refine Kd.R_append_rows_step k71 (w0 := wr) wr.heap.size (by rfl) (.tmp 25) (.tmp 29) 69 71 (.agg #[(.string ⟨#[]⟩), (.string ⟨#[]⟩)]) 32 rfl Try.underlying69 info71 rfl (by decide) (by omega) v1 (l.take i) (l.drop (i + 1)) A2 (l.length - (i + 1)) (c - (i + 1)) (fun _ => True) (fun _ => False) rfl rfl HO1.out (Kd.C_below HC2.out HB1.out) (fun _ _ h => h) (fun _ h => h.elim) (fun _ _ => trivial) HB1.out HB1.out.size (by rw [List.length_take]; omega) ?_; intro v2 w3 ho2 hb2 hg2 hat2; have hx3 := cell_keep ⟨(ad.add (i * 2)).block, (ad.add (i * 2)).off + 1, none⟩ (hb2.block _ hadl) HXX.out; have HO2 := hid ho2; have HB2 := hid hb2; clear ho2 hb2 hg2 hat2))
      go_wp2_with fail
      go_ret3
      exact ⟨v2, rfl, HO2.out, HB2.out⟩
end Go.Proofs.Ytnccofpkanhfhaa.RefPop
