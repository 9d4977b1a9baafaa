/-
  varint.Put, by its contract: seven bits a byte.
-/
import Derived.Test.YtdnhmlpjohojdaaRh
import Derived.Test.YtdnhmlpjohojdaaTab
import Derived.WalkMore
import Derived.OwnWalk
import Derived.Maps.RangeWalk
import Derived.WalkSpells
import Derived.WalkArith
import Derived.Outline
set_option linter.unusedVariables false
set_option linter.unusedSimpArgs false
namespace Go.Proofs.Ytdnhmlpjohojdaa.Adm
open Go.RowKit Go.Proofs.Ytdnhmlpjohojdaa.Tab Go.Proofs.Ytdnhmlpjohojdaa.R Go.Proofs.YtdnhmlpjohojdaaW.PrintWords
theorem infoB : (Try.prog.info? 5).map (fun i => (i.zero, i.size, i.bytes)) = some (some (.int .u8 0), 1, 1) := by kernel_rfl
/-- A number's bytes. -/
def vl (m : Nat) : List Int := if h : m < 128 then [(m : Int)] else ((m % 128 + 128 : Nat) : Int) :: vl (m / 128)
termination_by m
decreasing_by omega
theorem vl_small {m : Nat} (h : m < 128) : vl m = [(m : Int)] := by rw [vl, dif_pos h]
theorem vl_big {m : Nat} (h : ¬ m < 128) : vl m = ((m % 128 + 128 : Nat) : Int) :: vl (m / 128) := by rw [vl, dif_neg h]
theorem vl_len (k : Nat) : ∀ m : Nat, m < 128 ^ (k + 1) → (vl m).length ≤ k + 1 := by
  induction k with
  | zero => intro m h; rw [vl_small (by simpa using h)]; simp
  | succ k ih =>
    intro m h
    by_cases hm : m < 128
    · rw [vl_small hm]; simp
    · rw [vl_big hm]
      have := ih (m / 128) (Nat.div_lt_of_lt_mul (by rw [Nat.pow_succ] at h; omega))
      simp only [List.length_cons]
      omega
theorem vl_len10 {m : Nat} (h : m < 18446744073709551616) : (vl m).length ≤ 10 := by
  have e : (128 : Nat) ^ 10 = 1180591620717411303424 := by decide
  exact vl_len 9 m (by show m < 128 ^ 10; omega)
theorem or_all : ∀ x : Fin 256, bits BinOp.or IntKind.u8 ((x.1 : Nat) : Int) 128 = ((x.1 % 128 + 128 : Nat) : Int) := by decide +kernel
theorem or_128 (m : Nat) : bits BinOp.or IntKind.u8 ((m : Int) % 256) 128 = ((m % 128 + 128 : Nat) : Int) := by
  have h := or_all ⟨m % 256, by omega⟩
  simp only at h
  rw [show ((m % 256 : Nat) : Int) = (m : Int) % 256 by omega] at h
  rw [h]
  omega
set_option maxRecDepth 100000 in
set_option maxHeartbeats 2000000 in
theorem Put_ (w : World) (n : Nat) (hn : n < 18446744073709551616) :
    Calls Try.prog 26 #[.int .u64 n] w fun e w' => e = .returned (.string (strOfNums (vl n))) ∧ Below w.heap.size w w' := by
  go_enter Try.func26, Try.ntmps26
  go_wp2
  go_step3
  go_wp2
  go_step3
  go_wp2
  have hS : Kd.R (Kd.int .u8) 5 w w.heap.size (fun _ => True) (.slice none 0 0) ([] : List Int) := Kd.R_nil _ _ _ _ _
  go_loopw [0, 3] (fun v0 v3 wr => ∃ (m : Nat) (acc : List Int), v0 = .int .u64 m ∧ Hid (m < 18446744073709551616 ∧ acc ++ vl m = vl n ∧ Kd.R (Kd.int .u8) 5 wr w.heap.size (fun _ => True) v3 acc ∧ Below w.heap.size w wr)) (fun v0 _ _ => (intOf v0).toNat)
  case atStart => exact ⟨n, [], rfl, hid ⟨hn, rfl, hS, Below.refl _ _⟩⟩
  case round =>
    clear hS
    obtain ⟨m, acc, rfl, HI⟩ := hrel
    have hlen : acc.length ≤ 10 := by
      have h1 := congrArg List.length HI.out.2.1
      have h2 := vl_len10 hn
      rw [List.length_append] at h1
      omega
    have hs1 : 0 < (Kd.int .u8).sz := Nat.zero_lt_one
    have hb1' : 0 < 1 := Nat.zero_lt_one
    have hroom : (acc.length + 1) * 1 ≤ 140737488355328 := by omega
    by_cases hm : m < 128
    · have hm1 : ((m : Int) < 128) := by omega
      have hw1 : IntKind.u8.wrap (m : Int) = (m : Int) := by simp [IntKind.wrap, IntKind.signed, IntKind.bits]; omega
      go_wp2_with (first
        | (at_builtin; refine Kd.R_append (Kd.int .u8) (w0 := w) w.heap.size ?a1 (.tmp 6) (.tmp 9) 88 5 (.int .u8 0) 1 ?a2 ?a3 ?a4 ?a5 ?a6 ?a7 u3 acc (m : Int) [.int .u8 m] (fun _ => True) (fun _ => False) ?a8 ?a9 ?aP ?aK ?aF ?aO ?aB ?aS ?aL ?_; (case a1 => rfl); (case a2 => rfl); (case a3 => exact Try.underlying88); (case a4 => exact infoB); (case a5 => rfl); (case a6 => exact hs1); (case a7 => exact hb1'); (case a8 => rfl); (case a9 => rfl); (case aP => rfl); (case aK => exact fun _ hk => hk.elim); (case aF => exact fun _ _ => trivial); (case aO => exact HI.out.2.2.1); (case aB => exact HI.out.2.2.2); (case aS => exact HI.out.2.2.2.size); (case aL => exact hroom); intro v1 w2 ho1 hb1 hg1 hat1; obtain ⟨A1, c1, rfl, hl1, hr1⟩ := Kd.R_reads ho1; have hcs := Kd.C_string (P := Try.prog) (c := c1) Try.underlying88 Try.underlying5 Try.underlying9 hr1; simp only [List.length_append, List.length_cons, List.length_nil, Nat.zero_add] at hcs; have HB1 := hid hb1; clear ho1 hb1 hg1 hat1 hl1 hr1; go_frame))
      rw [Exit.noGoto_ret]
      go_ret
      have hv : acc ++ [(m : Int)] = vl n := by rw [← HI.out.2.1, vl_small hm]
      rw [hv]
      exact ⟨rfl, HB1.out⟩
    · have hm1 : ¬ ((m : Int) < 128) := by omega
      go_wp2_with (first
        | (at_builtin; refine Kd.R_append (Kd.int .u8) (w0 := w) w.heap.size ?a1 (.tmp 11) (.tmp 15) 88 5 (.int .u8 0) 1 ?a2 ?a3 ?a4 ?a5 ?a6 ?a7 u3 acc (bits BinOp.or IntKind.u8 ((m : Int) % 256) 128) [.int .u8 (bits BinOp.or IntKind.u8 ((m : Int) % 256) 128)] (fun _ => True) (fun _ => False) ?a8 ?a9 ?aP ?aK ?aF ?aO ?aB ?aS ?aL ?_; (case a1 => rfl); (case a2 => rfl); (case a3 => exact Try.underlying88); (case a4 => exact infoB); (case a5 => rfl); (case a6 => exact hs1); (case a7 => exact hb1'); (case a8 => rfl); (case a9 => rfl); (case aP => rfl); (case aK => exact fun _ hk => hk.elim); (case aF => exact fun _ _ => trivial); (case aO => exact HI.out.2.2.1); (case aB => exact HI.out.2.2.2); (case aS => exact HI.out.2.2.2.size); (case aL => exact hroom); intro v1 w2 ho1 hb1 hg1 hat1; have HO1 := hid ho1; have HB1 := hid hb1; clear ho1 hb1 hg1 hat1; go_frame))
      refine ⟨⟨m / 128, acc ++ [bits BinOp.or IntKind.u8 ((m : Int) % 256) 128], congrArg (Value.int .u64) (by omega), hid ⟨by have := HI.out.1; omega, ?_, HO1.out, HB1.out⟩⟩, by simp only [intOf]; omega⟩
      rw [← HI.out.2.1, vl_big hm, or_128, List.append_assoc]
      rfl
end Go.Proofs.Ytdnhmlpjohojdaa.Adm
