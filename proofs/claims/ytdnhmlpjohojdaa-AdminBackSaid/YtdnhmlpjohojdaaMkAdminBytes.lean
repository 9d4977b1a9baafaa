/-
  AdminBytes, walked.
-/
import Derived.Test.YtdnhmlpjohojdaaMad
set_option linter.unusedVariables false
set_option linter.unusedSimpArgs false
namespace Go.Proofs.Ytdnhmlpjohojdaa.Rf
open Go.RowKit Go.Proofs.Ytdnhmlpjohojdaa.Tab Go.Proofs.Ytdnhmlpjohojdaa.Adm Go.Proofs.Ytdnhmlpjohojdaa.R Go.Proofs.Ytdnhmlpjohojdaa.Tk Go.Proofs.Ytdnhmlpjohojdaa.Span Go.Proofs.YtdnhmlpjohojdaaW.PrintWords Go.Proofs.YtdnhmlpjohojdaaW.PrintLast Go.Proofs.YtdnhmlpjohojdaaW.PrintMore
theorem ours_ (o : Order) (w : World) : Calls Try.prog 9 #[ordV o] w fun e w' => e = .returned (ordV o) ∧ Below w.heap.size w w' :=
  concourselaw41_ours.calls _ _ _ _ _ _ _ _ _ _ _ _ _ _ _ _ _ _ _ _ _ _ _ _ w rfl
theorem RTake_ (b : ByteArray) (hm : b.size ≤ 9223372036854775807) (w : World) : Calls Try.prog 12 #[.string b] w fun e w' => e = .returned (.tuple #[ordV (takeO b).1, .int .i64 (takeO b).2]) ∧ Below w.heap.size w w' := by
  by_cases h1 : (s1 b).2.2 = 0
  · by_cases h2 : (s2 b).2.2 = 0
    · by_cases h3 : (s3 b).2.2 = 0
      · exact Take_ok b hm h1 h2 h3 w
      · exact Take_e3 b hm h1 h2 h3 w
    · exact Take_e2 b hm h1 h2 w
  · exact Take_e1 b hm h1 w
theorem u64_wf {x : Int} (h : (Lit.int .u64 x).wf = true) : U64 x := by
  simp [Lit.wf, IntKind.min, IntKind.max, IntKind.signed, IntKind.bits] at h
  exact ⟨by omega, by omega⟩
set_option maxRecDepth 100000 in
set_option maxHeartbeats 4000000 in
theorem AdminBytes_walk (w : World) (o : Order) (ho : Open.WfO o) (b : ByteArray) (hb : b.size ≤ 9223372036854775807) : Calls Try.prog 3 #[ordV o, .string b] w fun e w' => e = .returned (.bool true) ∧ Below w.heap.size w w' := by
  have hid := u64_wf ho.1
  have HO := Lib.hid (ours_ o)
  have HP := Lib.hid (Put_all o hid)
  have HQ := Lib.hid (R10_ o hid)
  have HT := Lib.hid (Take_ b hb)
  have HR := Lib.hid (RTake_ b hb)
  clear hid ho hb
  generalize putS o = s at *
  generalize errB (formB o) = e1 at *
  generalize takeO b = r at *
  obtain ⟨y, g⟩ := r
  obtain ⟨id, op, owner, v⟩ := o
  simp only [ordV, cells12] at HO HP HQ HT HR ⊢
  have HY := Lib.hid (ours_ y)
  obtain ⟨yid, yop, yow, yv⟩ := y
  simp only [ordV, cells12] at HT HR HY
  go_enter Try.func3, Try.ntmps3
  go_wp2_with fail
  have hO : Ow w (w.alloc (.cells #[.int .u64 id, .int .i64 op, .int .i64 owner, .int .i64 (v 0), .int .i64 (v 1), .int .i64 (v 2), .int .i64 (v 3), .int .i64 (v 4), .int .i64 (v 5), .int .i64 (v 6), .int .i64 (v 7), .int .i64 (v 8)] 26)) [(w.heap.size, #[.int .u64 id, .int .i64 op, .int .i64 owner, .int .i64 (v 0), .int .i64 (v 1), .int .i64 (v 2), .int .i64 (v 3), .int .i64 (v 4), .int .i64 (v 5), .int .i64 (v 6), .int .i64 (v 7), .int .i64 (v 8)], 26)] := Ow.push (bl := []) ⟨Below.refl _ _, fun x hx => by cases hx⟩ _ 26
  generalize w.alloc (.cells #[.int .u64 id, .int .i64 op, .int .i64 owner, .int .i64 (v 0), .int .i64 (v 1), .int .i64 (v 2), .int .i64 (v 3), .int .i64 (v 4), .int .i64 (v 5), .int .i64 (v 6), .int .i64 (v 7), .int .i64 (v 8)] 26) = W0 at *
  obtain ⟨g0, hge⟩ : ∃ g0, g0 = w.heap.size := ⟨_, rfl⟩
  rw [← hge] at hO ⊢
  have HA : Hid (Ow w W0 [(g0, #[.int .u64 id, .int .i64 op, .int .i64 owner, .int .i64 (v 0), .int .i64 (v 1), .int .i64 (v 2), .int .i64 (v 3), .int .i64 (v 4), .int .i64 (v 5), .int .i64 (v 6), .int .i64 (v 7), .int .i64 (v 8)], 26)]) := Lib.hid hO
  have HGE := Lib.hid hge
  clear hge hO
  refine (HO.out _).mono ?_
  rintro e w1 ⟨rfl, hb⟩
  replace HA := Lib.hid (HA.out.move hb)
  clear hb
  go_wp2_with fail
  refine (HP.out _).mono ?_
  rintro e w2 ⟨rfl, hb⟩
  replace HA := Lib.hid (HA.out.move hb)
  clear hb
  have cw2 : ∀ k, w2.cell? ⟨g0, k, none⟩ = #[.int .u64 id, .int .i64 op, .int .i64 owner, .int .i64 (v 0), .int .i64 (v 1), .int .i64 (v 2), .int .i64 (v 3), .int .i64 (v 4), .int .i64 (v 5), .int .i64 (v 6), .int .i64 (v 7), .int .i64 (v 8)][k]? := fun k => blk_cell (HA.out.keep _ (.head _)).1 k
  go_wp2_with fail
  refine (HQ.out _).mono ?_
  rintro e w3 ⟨rfl, hb⟩
  replace HA := Lib.hid (HA.out.move hb)
  clear hb
  clear cw2
  go_wp2_with fail
  refine (HT.out _).mono ?_
  rintro e w4 ⟨rfl, hb⟩
  replace HA := Lib.hid (HA.out.move hb)
  clear hb
  go_wp2_with (first
    | (refine Line.Stop.at none (.store 30 (.tmp 9) (.tmp 27)) ?_))
  constructor
  have hA := HA.out.push zs12 30
  have hlt0 := blk_lt (HA.out.keep _ (.head _)).1
  refine Line.put_own rfl rfl 30 (.tmp 9) (.tmp 27) rfl w4.heap.size 0 rfl (.agg #[.int .u64 yid, .int .i64 yop, .int .i64 yow, .int .i64 (yv 0), .int .i64 (yv 1), .int .i64 (yv 2), .int .i64 (yv 3), .int .i64 (yv 4), .int .i64 (yv 5), .int .i64 (yv 6), .int .i64 (yv 7), .int .i64 (yv 8)]) rfl zs12 #[.int .u64 yid, .int .i64 yop, .int .i64 yow, .int .i64 (yv 0), .int .i64 (yv 1), .int .i64 (yv 2), .int .i64 (yv 3), .int .i64 (yv 4), .int .i64 (yv 5), .int .i64 (yv 6), .int .i64 (yv 7), .int .i64 (yv 8)] 30 (heap_alloc_last _ _) (by simp [zs12, Value.cells]) inf30' (by simp [Value.cells, Value.oneCell']) (by simp [Value.cells, zs12]) ?_
  intro w5 h5 g5
  have hA5 := hA.put (bl' := [(g0, #[.int .u64 id, .int .i64 op, .int .i64 owner, .int .i64 (v 0), .int .i64 (v 1), .int .i64 (v 2), .int .i64 (v 3), .int .i64 (v 4), .int .i64 (v 5), .int .i64 (v 6), .int .i64 (v 7), .int .i64 (v 8)], 26)]) (.head _) h5 g5 (fun x hx => by
    rcases List.mem_cons.1 hx with rfl | hx
    · exact ⟨.tail _ (.head _), by show g0 ≠ w4.heap.size; simp only at hlt0; omega⟩
    · cases hx)
  have hn0 : g0 ≠ w4.heap.size := by simp only at hlt0; omega
  generalize w4.heap.size = k9 at *
  replace HA := Lib.hid hA5
  clear h5 g5 hA hA5 hlt0 hn0
  go_wp2_with fail
  refine (HR.out _).mono ?_
  rintro e w6 ⟨rfl, hb⟩
  replace HA := Lib.hid (HA.out.move hb)
  clear hb
  go_wp2_with (first
    | (refine Line.Stop.at none (.store 26 (.tmp 11) (.tmp 32)) ?_))
  constructor
  have hA := HA.out.push zs12 26
  have hlt0 := blk_lt (HA.out.keep _ (.head _)).1
  refine Line.put_own rfl rfl 26 (.tmp 11) (.tmp 32) rfl w6.heap.size 0 rfl (.agg #[.int .u64 yid, .int .i64 yop, .int .i64 yow, .int .i64 (yv 0), .int .i64 (yv 1), .int .i64 (yv 2), .int .i64 (yv 3), .int .i64 (yv 4), .int .i64 (yv 5), .int .i64 (yv 6), .int .i64 (yv 7), .int .i64 (yv 8)]) rfl zs12 #[.int .u64 yid, .int .i64 yop, .int .i64 yow, .int .i64 (yv 0), .int .i64 (yv 1), .int .i64 (yv 2), .int .i64 (yv 3), .int .i64 (yv 4), .int .i64 (yv 5), .int .i64 (yv 6), .int .i64 (yv 7), .int .i64 (yv 8)] 26 (heap_alloc_last _ _) (by simp [zs12, Value.cells]) inf26' (by simp [Value.cells, Value.oneCell']) (by simp [Value.cells, zs12]) ?_
  intro w7 h5 g5
  have hA5 := hA.put (bl' := [(k9, #[.int .u64 yid, .int .i64 yop, .int .i64 yow, .int .i64 (yv 0), .int .i64 (yv 1), .int .i64 (yv 2), .int .i64 (yv 3), .int .i64 (yv 4), .int .i64 (yv 5), .int .i64 (yv 6), .int .i64 (yv 7), .int .i64 (yv 8)], 30)]) (.head _) h5 g5 (fun x hx => by
    rcases List.mem_cons.1 hx with rfl | hx
    · exact ⟨.tail _ (.head _), by show k9 ≠ w6.heap.size; simp only at hlt0; omega⟩
    · cases hx)
  have hn0 : k9 ≠ w6.heap.size := by simp only at hlt0; omega
  have hne : k9 ≠ w6.heap.size := hn0
  generalize w6.heap.size = k11 at *
  replace HA := Lib.hid hA5
  clear h5 g5 hA hA5 hlt0 hn0 hne HO HP HQ HT HR
  obtain ⟨F, hFe⟩ : ∃ F : World → Prop, F = fun W => Ow w W [(k11, #[.int .u64 yid, .int .i64 yop, .int .i64 yow, .int .i64 (yv 0), .int .i64 (yv 1), .int .i64 (yv 2), .int .i64 (yv 3), .int .i64 (yv 4), .int .i64 (yv 5), .int .i64 (yv 6), .int .i64 (yv 7), .int .i64 (yv 8)], 26), (k9, #[.int .u64 yid, .int .i64 yop, .int .i64 yow, .int .i64 (yv 0), .int .i64 (yv 1), .int .i64 (yv 2), .int .i64 (yv 3), .int .i64 (yv 4), .int .i64 (yv 5), .int .i64 (yv 6), .int .i64 (yv 7), .int .i64 (yv 8)], 30)] := ⟨_, rfl⟩
  have hF : F w7.drew := by rw [hFe]; exact HA.out.move (Below.refl _ _).drew
  have q9 : ∀ (d : Line.Cls F) (k : Nat), d.W.cell? ⟨k9, k, none⟩ = #[.int .u64 yid, .int .i64 yop, .int .i64 yow, .int .i64 (yv 0), .int .i64 (yv 1), .int .i64 (yv 2), .int .i64 (yv 3), .int .i64 (yv 4), .int .i64 (yv 5), .int .i64 (yv 6), .int .i64 (yv 7), .int .i64 (yv 8)][k]? := fun d k => blk_cell ((hFe ▸ d.h : Ow w d.W [(k11, #[.int .u64 yid, .int .i64 yop, .int .i64 yow, .int .i64 (yv 0), .int .i64 (yv 1), .int .i64 (yv 2), .int .i64 (yv 3), .int .i64 (yv 4), .int .i64 (yv 5), .int .i64 (yv 6), .int .i64 (yv 7), .int .i64 (yv 8)], 26), (k9, #[.int .u64 yid, .int .i64 yop, .int .i64 yow, .int .i64 (yv 0), .int .i64 (yv 1), .int .i64 (yv 2), .int .i64 (yv 3), .int .i64 (yv 4), .int .i64 (yv 5), .int .i64 (yv 6), .int .i64 (yv 7), .int .i64 (yv 8)], 30)]).keep _ (.tail _ (.head _))).1 k
  have q11 : ∀ (d : Line.Cls F) (k : Nat), d.W.cell? ⟨k11, k, none⟩ = #[.int .u64 yid, .int .i64 yop, .int .i64 yow, .int .i64 (yv 0), .int .i64 (yv 1), .int .i64 (yv 2), .int .i64 (yv 3), .int .i64 (yv 4), .int .i64 (yv 5), .int .i64 (yv 6), .int .i64 (yv 7), .int .i64 (yv 8)][k]? := fun d k => blk_cell ((hFe ▸ d.h : Ow w d.W [(k11, #[.int .u64 yid, .int .i64 yop, .int .i64 yow, .int .i64 (yv 0), .int .i64 (yv 1), .int .i64 (yv 2), .int .i64 (yv 3), .int .i64 (yv 4), .int .i64 (yv 5), .int .i64 (yv 6), .int .i64 (yv 7), .int .i64 (yv 8)], 26), (k9, #[.int .u64 yid, .int .i64 yop, .int .i64 yow, .int .i64 (yv 0), .int .i64 (yv 1), .int .i64 (yv 2), .int .i64 (yv 3), .int .i64 (yv 4), .int .i64 (yv 5), .int .i64 (yv 6), .int .i64 (yv 7), .int .i64 (yv 8)], 30)]).keep _ (.head _)).1 k
  have mv : ∀ W W', F W → Below W.heap.size W W' → F W' := fun W W' h hb => by rw [hFe] at h ⊢; exact Ow.move h hb
  have QY := Lib.hid (Line.cls_call mv (fun W _ => HY.out W))
  have QA := Lib.hid (Line.cls_call mv (fun W _ => Bk.awake_ W))
  have HFE := Lib.hid hFe
  clear mv hFe HY
  have nonempty_cls : Nonempty (Line.Cls F) := ⟨⟨_, hF⟩⟩
  go_wp2_with fail
  refine Line.wp_region_cls (F := F) (by kernel_rfl) (by kernel_rfl) hF ?_
  repeat (go_big_quiet_step (first | exact QY.out _ | exact QA.out _))
  refine wpQuiet_nil ?_
  intro W17 h17
  rw [HFE.out] at h17
  have HB := Lib.hid h17.below
  clear h17 HFE q9 q11 QY QA nonempty_cls hF
  clear F
  go_wp2_with fail
  go_ret
  exact ⟨rfl, HB.out⟩
theorem AdminBytes_walk' (w : World) (o : Order) (ho : Open.WfO o) (b : ByteArray) (hb : b.size ≤ 140737488351232) : Calls Try.prog 3 #[ordV o, .string b] w fun e w' => e = .returned (.bool true) ∧ Below w.heap.size w w' := AdminBytes_walk w o ho b (by omega)
end Go.Proofs.Ytdnhmlpjohojdaa.Rf
