/-
  The example of chapter 41 (awake), and what a book that is not there does: AdminNone, walked.
-/
import Derived.Test.YtdnhmlpjohojdaaBookDone
import Derived.Test.YtdnhmlpjohojdaaAdmPut
import Derived.Test.YtdnhmlpjohojdaaR9
set_option linter.unusedVariables false
set_option linter.unusedSimpArgs false
namespace Go.Proofs.Ytdnhmlpjohojdaa.Adm.Bk
open Go.RowKit Go.Maps Go.WideMaps Go.Proofs.Ytdnhmlpjohojdaa.Tab Go.Proofs.Ytdnhmlpjohojdaa.Adm Go.Proofs.Ytdnhmlpjohojdaa.R Go.Proofs.YtdnhmlpjohojdaaW.PrintWords
def exV : Fin 9 → Int := fun x => if x.1 = 0 then 1040 else 0
theorem ex_ok : why [] ⟨0, 1, 3, exV⟩ = 0 := by decide
theorem ex_lives : lives (doM [] ⟨0, 1, 3, exV⟩) 3 = true := by decide
theorem numS_small {x : Int} (h0 : 0 ≤ x) (h : x < 128) : numS x = strOfNums [x] := by
  unfold numS
  rw [vl_small (by omega), Int.toNat_of_nonneg h0]
theorem ex_put : numS 1 ++ numS 4 ++ numS 3 = ⟨#[1, 4, 3]⟩ := by
  rw [numS_small (by decide) (by decide), numS_small (by decide) (by decide), numS_small (by decide) (by decide)]
  decide +kernel
theorem PutEx (w : World) : Calls Try.prog 8 #[ordV ⟨1, 4, 3, zeroC⟩] w fun e w' => e = .returned (.tuple #[.string ⟨#[1, 4, 3]⟩, .int .i64 0]) ∧ Below w.heap.size w w' := by
  have := Put_no ⟨1, 4, 3, zeroC⟩ ⟨by decide, by decide⟩ (by decide) (by decide) w
  rw [ex_put] at this
  exact this
theorem below_turn {B : Nat} {w w1 w2 : World} {bs : Nat} {S : Nat → Prop} (hb : Below B w w1) (ht : Turn w1 w2 bs 0 S) (hbs : B ≤ bs) (hS : ∀ k, S k → B ≤ k) (hB : B ≤ w.heap.size) : Below B w w2 := hb.trans (ht.under (Nat.le_trans hB hb.size) hbs hS)
set_option maxRecDepth 100000 in
set_option maxHeartbeats 1000000 in
theorem awake_ (w : World) : Calls Try.prog 13 #[] w fun e w' => e = .returned (.bool true) ∧ Below w.heap.size w w' := by
  have HP := Lib.hid PutEx
  simp only [ordV, cells12, zeroC] at HP
  have HN := Lib.hid New_
  go_enter Try.func13, Try.ntmps13
  go_wp2_with fail
  refine (HP.out _).mono ?_
  rintro e w1 ⟨rfl, hb⟩
  have HB := Lib.hid hb
  clear hb
  go_wp2_with fail
  refine (HN.out _).mono ?_
  rintro e w2 ⟨rfl, rfl⟩
  have hD := Do_ok (new_at w1 0) ⟨0, 1, 3, exV⟩ (by decide) ex_ok (by unfold maxLen; omega)
  simp only [ordV, cells12, exV] at hD
  have HD := Lib.hid hD
  clear hD
  go_wp2_with fail
  refine HD.out.mono ?_
  rintro e w3 ⟨rfl, b, hb, h3, ht⟩
  have hB3 : Below w.heap.size w w3 := below_turn (HB.out.alloc HB.out.size (.cells #[.map none] 54)) ht HB.out.size (fun k hk => by rcases hb with hb | hb; exact absurd hb (by simp); have := hb.2; have := HB.out.size; simp at *; omega) (Nat.le_refl _)
  have HB3 := Lib.hid hB3
  have HL := Lib.hid (Lives_ h3 3 (by decide))
  rw [show lives (doM [] ⟨0, 1, 3, exV⟩) 3 = true from ex_lives] at HL
  clear hb h3 ht hB3 HD HP HN
  go_wp2_with (first
    | (go_at_call 21; refine HL.out.mono ?_; rintro e w4 ⟨rfl, hb4⟩; have HB4 := Lib.hid (HB3.out.trans (hb4.mono HB3.out.size)); clear hb4))
  go_ret
  exact ⟨rfl, HB4.out⟩
end Go.Proofs.Ytdnhmlpjohojdaa.Adm.Bk
