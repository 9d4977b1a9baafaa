/-
  AdminBack, walked.
-/
import Derived.Test.YtdnhmlpjohojdaaMkAdminBytes
set_option linter.unusedVariables false
set_option linter.unusedSimpArgs false
namespace Go.Proofs.Ytdnhmlpjohojdaa.Rf
open Go.RowKit Go.Proofs.Ytdnhmlpjohojdaa.Tab Go.Proofs.Ytdnhmlpjohojdaa.Adm Go.Proofs.Ytdnhmlpjohojdaa.R Go.Proofs.Ytdnhmlpjohojdaa.Tk Go.Proofs.Ytdnhmlpjohojdaa.Span Go.Proofs.YtdnhmlpjohojdaaW.PrintWords Go.Proofs.YtdnhmlpjohojdaaW.PrintLast Go.Proofs.YtdnhmlpjohojdaaW.PrintMore
theorem back_true {o : Order} (hid : U64 o.id) (h : formB o = true) : takeO (putS o) = (norm o, 0) := takeO_put o hid h
theorem back_false {o : Order} (h : formB o = false) : putS o = ⟨#[]⟩ := by
  unfold putS
  rw [h]
  rfl
theorem norm_yes {o : Order} (h : o.op = 1 ∨ o.op = 6) : norm o = o := if_pos h
theorem norm_no {o : Order} (h : ¬ (o.op = 1 ∨ o.op = 6)) : norm o = ⟨o.id, o.op, o.owner, nine0⟩ := if_neg h
theorem putS_size (o : Order) (hid : U64 o.id) : (putS o).size ≤ 9223372036854775807 := by
  unfold putS
  cases h : formB o
  · rw [if_neg (by decide)]
    simp [ByteArray.size]
  · obtain ⟨⟨h1, h2, h3, h4⟩, h5⟩ := of_decide_eq_true h
    have z0 := numS_size o.id hid
    have z1 := numS_size o.op (U64_small (by omega) (by omega))
    have z2 := numS_size o.owner (U64_small (by omega) (by omega))
    rw [if_pos rfl]
    simp only [ByteArray.size_append]
    by_cases c : o.op = 1 ∨ o.op = 6
    · have z3 := confS_size o.v (h5 c)
      rw [if_pos c]
      omega
    · rw [if_neg c]
      have : (⟨#[]⟩ : ByteArray).size = 0 := rfl
      omega
set_option maxRecDepth 100000 in
set_option maxHeartbeats 4000000 in
theorem Back_1_t (w : World) (id owner : Int) (v : Fin 9 → Int) (hid : U64 id) (hf : formB ⟨id, 1, owner, v⟩ = true) (b : ByteArray) (hb : b.size ≤ 9223372036854775807) : Calls Try.prog 4 #[.agg #[.int .u64 id, .int .i64 1, .int .i64 owner, .int .i64 (v 0), .int .i64 (v 1), .int .i64 (v 2), .int .i64 (v 3), .int .i64 (v 4), .int .i64 (v 5), .int .i64 (v 6), .int .i64 (v 7), .int .i64 (v 8)], .string b] w fun e w' => e = .returned (.bool true) ∧ Below w.heap.size w w' := by
  have HO := Lib.hid (ours_ ⟨id, 1, owner, v⟩)
  have HP := Lib.hid (Put_all ⟨id, 1, owner, v⟩ hid)
  have hsz := putS_size ⟨id, 1, owner, v⟩ hid
  have HX := Lib.hid (Take_ (putS ⟨id, 1, owner, v⟩) hsz)
  have e1 := back_true hid hf
  rw [show norm ⟨id, 1, owner, v⟩ = ⟨id, 1, owner, v⟩ from norm_yes (.inl rfl)] at e1
  rw [e1] at HX
  rw [hf] at HP
  clear e1
  have HT := Lib.hid (Take_ b hb)
  have HY := Lib.hid (fun h : (takeO b).2 = 0 => (takeO_ok h))
  have HPY := Lib.hid (fun (h : (takeO b).2 = 0) => Put_all (takeO b).1 (takeO_ok h).2.1)
  clear hsz hid hf hb
  generalize putS ⟨id, 1, owner, v⟩ = s at *
  generalize takeO b = r at *
  obtain ⟨y, gg⟩ := r
  simp only [ordV, cells12, zeroO, nine0] at HO HP HX HT HY HPY
  unfold errB at HP
  go_enter Try.func4, Try.ntmps4
  go_wp2_with fail
  have hO : Ow w (w.alloc (.cells #[.int .u64 id, .int .i64 1, .int .i64 owner, .int .i64 (v 0), .int .i64 (v 1), .int .i64 (v 2), .int .i64 (v 3), .int .i64 (v 4), .int .i64 (v 5), .int .i64 (v 6), .int .i64 (v 7), .int .i64 (v 8)] 26)) [(w.heap.size, #[.int .u64 id, .int .i64 1, .int .i64 owner, .int .i64 (v 0), .int .i64 (v 1), .int .i64 (v 2), .int .i64 (v 3), .int .i64 (v 4), .int .i64 (v 5), .int .i64 (v 6), .int .i64 (v 7), .int .i64 (v 8)], 26)] := Ow.push (bl := []) ⟨Below.refl _ _, fun x hx => by cases hx⟩ _ 26
  generalize w.alloc (.cells #[.int .u64 id, .int .i64 1, .int .i64 owner, .int .i64 (v 0), .int .i64 (v 1), .int .i64 (v 2), .int .i64 (v 3), .int .i64 (v 4), .int .i64 (v 5), .int .i64 (v 6), .int .i64 (v 7), .int .i64 (v 8)] 26) = W0 at *
  obtain ⟨g0, hge⟩ : ∃ g0, g0 = w.heap.size := ⟨_, rfl⟩
  rw [← hge] at hO ⊢
  have HA : Hid (Ow w W0 [(g0, #[.int .u64 id, .int .i64 1, .int .i64 owner, .int .i64 (v 0), .int .i64 (v 1), .int .i64 (v 2), .int .i64 (v 3), .int .i64 (v 4), .int .i64 (v 5), .int .i64 (v 6), .int .i64 (v 7), .int .i64 (v 8)], 26)]) := Lib.hid hO
  have HGE := Lib.hid hge
  clear hge hO
  refine (HO.out _).mono ?_
  rintro e w1 ⟨rfl, hb⟩
  replace HA := Lib.hid (HA.out.move hb)
  clear hb
  go_wp2_with fail
  refine (HP.out _).mono ?_
  rintro e w2 ⟨rfl, hb⟩
  replace HA := Lib.hid (HA.out.move hb)
  clear hb
  clear HP
  go_wp2_with fail
  refine (HX.out _).mono ?_
  rintro e w3 ⟨rfl, hb⟩
  replace HA := Lib.hid (HA.out.move hb)
  clear hb
  clear HX
  go_wp2_with (first
    | (refine Line.Stop.at none (.store 30 (.tmp 7) (.tmp 23)) ?_))
  constructor
  have hA := HA.out.push zs12 30
  have hlt0 := blk_lt (HA.out.keep _ (.head _)).1
  refine Line.put_own rfl rfl 30 (.tmp 7) (.tmp 23) rfl w3.heap.size 0 rfl (.agg #[.int .u64 id, .int .i64 1, .int .i64 owner, .int .i64 (v 0), .int .i64 (v 1), .int .i64 (v 2), .int .i64 (v 3), .int .i64 (v 4), .int .i64 (v 5), .int .i64 (v 6), .int .i64 (v 7), .int .i64 (v 8)]) rfl zs12 #[.int .u64 id, .int .i64 1, .int .i64 owner, .int .i64 (v 0), .int .i64 (v 1), .int .i64 (v 2), .int .i64 (v 3), .int .i64 (v 4), .int .i64 (v 5), .int .i64 (v 6), .int .i64 (v 7), .int .i64 (v 8)] 30 (heap_alloc_last _ _) (by simp [zs12, Value.cells]) inf30' (by simp [Value.cells, Value.oneCell']) (by simp [Value.cells, zs12]) ?_
  intro w4 h5 g5
  have hA5 := hA.put (bl' := [(g0, #[.int .u64 id, .int .i64 1, .int .i64 owner, .int .i64 (v 0), .int .i64 (v 1), .int .i64 (v 2), .int .i64 (v 3), .int .i64 (v 4), .int .i64 (v 5), .int .i64 (v 6), .int .i64 (v 7), .int .i64 (v 8)], 26)]) (.head _) h5 g5 (fun x hx => by
    rcases List.mem_cons.1 hx with rfl | hx
    · exact ⟨.tail _ (.head _), by show g0 ≠ w3.heap.size; simp only at hlt0; omega⟩
    · cases hx)
  have hn0 : g0 ≠ w3.heap.size := by simp only at hlt0; omega
  generalize w3.heap.size = k7 at *
  have Hk7g0 := Lib.hid hn0
  replace HA := Lib.hid hA5
  clear h5 g5 hA hA5 hlt0 hn0
  have c4 : ∀ k, w4.cell? ⟨g0, k, none⟩ = #[.int .u64 id, .int .i64 1, .int .i64 owner, .int .i64 (v 0), .int .i64 (v 1), .int .i64 (v 2), .int .i64 (v 3), .int .i64 (v 4), .int .i64 (v 5), .int .i64 (v 6), .int .i64 (v 7), .int .i64 (v 8)][k]? := fun k => blk_cell (HA.out.keep _ (.tail _ (.head _))).1 k
  go_wp2_with fail
  refine (HO.out _).mono ?_
  rintro e w5 ⟨rfl, hb⟩
  replace HA := Lib.hid (HA.out.move hb)
  clear hb
  clear c4 HO
  go_wp2_with (first
    | (refine Line.Stop.at none (.store 30 (.tmp 9) (.tmp 26)) ?_))
  constructor
  have hA := HA.out.push zs12 30
  have hlt0 := blk_lt (HA.out.keep _ (.head _)).1
  refine Line.put_own rfl rfl 30 (.tmp 9) (.tmp 26) rfl w5.heap.size 0 rfl (.agg #[.int .u64 id, .int .i64 1, .int .i64 owner, .int .i64 (v 0), .int .i64 (v 1), .int .i64 (v 2), .int .i64 (v 3), .int .i64 (v 4), .int .i64 (v 5), .int .i64 (v 6), .int .i64 (v 7), .int .i64 (v 8)]) rfl zs12 #[.int .u64 id, .int .i64 1, .int .i64 owner, .int .i64 (v 0), .int .i64 (v 1), .int .i64 (v 2), .int .i64 (v 3), .int .i64 (v 4), .int .i64 (v 5), .int .i64 (v 6), .int .i64 (v 7), .int .i64 (v 8)] 30 (heap_alloc_last _ _) (by simp [zs12, Value.cells]) inf30' (by simp [Value.cells, Value.oneCell']) (by simp [Value.cells, zs12]) ?_
  intro w6 h5 g5
  have hA5 := hA.put (bl' := [(k7, #[.int .u64 id, .int .i64 1, .int .i64 owner, .int .i64 (v 0), .int .i64 (v 1), .int .i64 (v 2), .int .i64 (v 3), .int .i64 (v 4), .int .i64 (v 5), .int .i64 (v 6), .int .i64 (v 7), .int .i64 (v 8)], 30)]) (.head _) h5 g5 (fun x hx => by
    rcases List.mem_cons.1 hx with rfl | hx
    · exact ⟨.tail _ (.head _), by show k7 ≠ w5.heap.size; simp only at hlt0; omega⟩
    · cases hx)
  have hn0 : k7 ≠ w5.heap.size := by simp only at hlt0; omega
  generalize w5.heap.size = k9 at *
  have Hk9k7 := Lib.hid hn0
  replace HA := Lib.hid hA5
  clear h5 g5 hA hA5 hlt0 hn0
  have c9 : ∀ k, w6.cell? ⟨k9, k, none⟩ = #[.int .u64 id, .int .i64 1, .int .i64 owner, .int .i64 (v 0), .int .i64 (v 1), .int .i64 (v 2), .int .i64 (v 3), .int .i64 (v 4), .int .i64 (v 5), .int .i64 (v 6), .int .i64 (v 7), .int .i64 (v 8)][k]? := fun k => blk_cell (HA.out.keep _ (.head _)).1 k
  have c7 : ∀ k, w6.cell? ⟨k7, k, none⟩ = #[.int .u64 id, .int .i64 1, .int .i64 owner, .int .i64 (v 0), .int .i64 (v 1), .int .i64 (v 2), .int .i64 (v 3), .int .i64 (v 4), .int .i64 (v 5), .int .i64 (v 6), .int .i64 (v 7), .int .i64 (v 8)][k]? := fun k => blk_cell (HA.out.keep _ (.tail _ (.head _))).1 k
  go_wp2_with fail
  refine (HT.out _).mono ?_
  rintro e w8 ⟨rfl, hb⟩
  replace HA := Lib.hid (HA.out.move hb)
  clear hb
  clear c7 c9 HT
  obtain ⟨yid, yop, yow, yv⟩ := y
  simp only at HY HPY
  go_wp2_with (first
    | (refine Line.Stop.at none (.store 30 (.tmp 10) (.tmp 63)) ?_))
  constructor
  have hA := HA.out.push zs12 30
  refine Line.put_own rfl rfl 30 (.tmp 10) (.tmp 63) rfl w8.heap.size 0 rfl (.agg #[.int .u64 yid, .int .i64 yop, .int .i64 yow, .int .i64 (yv 0), .int .i64 (yv 1), .int .i64 (yv 2), .int .i64 (yv 3), .int .i64 (yv 4), .int .i64 (yv 5), .int .i64 (yv 6), .int .i64 (yv 7), .int .i64 (yv 8)]) rfl zs12 #[.int .u64 yid, .int .i64 yop, .int .i64 yow, .int .i64 (yv 0), .int .i64 (yv 1), .int .i64 (yv 2), .int .i64 (yv 3), .int .i64 (yv 4), .int .i64 (yv 5), .int .i64 (yv 6), .int .i64 (yv 7), .int .i64 (yv 8)] 30 (heap_alloc_last _ _) (by simp [zs12, Value.cells]) inf30' (by simp [Value.cells, Value.oneCell']) (by simp [Value.cells, zs12]) ?_
  intro w9 h5 g5
  have hA5 := hA.put (bl' := []) (.head _) h5 g5 (fun x hx => by
    · cases hx)
  generalize w8.heap.size = k10 at *
  replace HA := Lib.hid hA5
  clear h5 g5 hA hA5 
  by_cases hg : gg = 0
  · subst hg
    have c10 : ∀ k, w9.cell? ⟨k10, k, none⟩ = #[.int .u64 yid, .int .i64 yop, .int .i64 yow, .int .i64 (yv 0), .int .i64 (yv 1), .int .i64 (yv 2), .int .i64 (yv 3), .int .i64 (yv 4), .int .i64 (yv 5), .int .i64 (yv 6), .int .i64 (yv 7), .int .i64 (yv 8)][k]? := fun k => blk_cell (HA.out.keep _ (.head _)).1 k
    have HPB := Lib.hid (HPY.out rfl)
    rw [(HY.out rfl).1, (HY.out rfl).2.2] at HPB
    unfold errB at HPB
    clear HY HPY
    have k5 : (b.toList == b.toList) = true := beq_self_eq_true _
    go_wp2_with fail
    refine (HPB.out _).mono ?_
    rintro e w11 ⟨rfl, hb⟩
    replace HA := Lib.hid (HA.out.move hb)
    clear hb
    clear c10 HPB
    go_wp2_with fail
    refine (Bk.awake_ _).mono ?_
    rintro e w12 ⟨rfl, hb⟩
    replace HA := Lib.hid (HA.out.move hb)
    clear hb
    go_wp2_with fail
    go_ret
    exact ⟨rfl, HA.out.below⟩
  · have k5 : (gg == 0) = false := beq_eq_false_iff_ne.2 hg
    have k6 : decide (gg = 0) = false := decide_eq_false hg
    clear HY HPY hg
    go_wp2_with fail
    refine (Bk.awake_ _).mono ?_
    rintro e w12 ⟨rfl, hb⟩
    replace HA := Lib.hid (HA.out.move hb)
    clear hb
    go_wp2_with fail
    go_ret
    exact ⟨rfl, HA.out.below⟩
set_option maxRecDepth 100000 in
set_option maxHeartbeats 4000000 in
theorem Back_1_f (w : World) (id owner : Int) (v : Fin 9 → Int) (hid : U64 id) (hf : formB ⟨id, 1, owner, v⟩ = false) (b : ByteArray) (hb : b.size ≤ 9223372036854775807) : Calls Try.prog 4 #[.agg #[.int .u64 id, .int .i64 1, .int .i64 owner, .int .i64 (v 0), .int .i64 (v 1), .int .i64 (v 2), .int .i64 (v 3), .int .i64 (v 4), .int .i64 (v 5), .int .i64 (v 6), .int .i64 (v 7), .int .i64 (v 8)], .string b] w fun e w' => e = .returned (.bool true) ∧ Below w.heap.size w w' := by
  have HO := Lib.hid (ours_ ⟨id, 1, owner, v⟩)
  have HP := Lib.hid (Put_all ⟨id, 1, owner, v⟩ hid)
  have hsz := putS_size ⟨id, 1, owner, v⟩ hid
  have HX := Lib.hid (Take_ (putS ⟨id, 1, owner, v⟩) hsz)
  have e1 := back_false hf
  rw [e1, takeO_empty] at HX
  rw [e1, hf] at HP
  clear e1
  have HT := Lib.hid (Take_ b hb)
  have HY := Lib.hid (fun h : (takeO b).2 = 0 => (takeO_ok h))
  have HPY := Lib.hid (fun (h : (takeO b).2 = 0) => Put_all (takeO b).1 (takeO_ok h).2.1)
  clear hsz hid hf hb
  generalize takeO b = r at *
  obtain ⟨y, gg⟩ := r
  simp only [ordV, cells12, zeroO, nine0] at HO HP HX HT HY HPY
  unfold errB at HP
  go_enter Try.func4, Try.ntmps4
  go_wp2_with fail
  have hO : Ow w (w.alloc (.cells #[.int .u64 id, .int .i64 1, .int .i64 owner, .int .i64 (v 0), .int .i64 (v 1), .int .i64 (v 2), .int .i64 (v 3), .int .i64 (v 4), .int .i64 (v 5), .int .i64 (v 6), .int .i64 (v 7), .int .i64 (v 8)] 26)) [(w.heap.size, #[.int .u64 id, .int .i64 1, .int .i64 owner, .int .i64 (v 0), .int .i64 (v 1), .int .i64 (v 2), .int .i64 (v 3), .int .i64 (v 4), .int .i64 (v 5), .int .i64 (v 6), .int .i64 (v 7), .int .i64 (v 8)], 26)] := Ow.push (bl := []) ⟨Below.refl _ _, fun x hx => by cases hx⟩ _ 26
  generalize w.alloc (.cells #[.int .u64 id, .int .i64 1, .int .i64 owner, .int .i64 (v 0), .int .i64 (v 1), .int .i64 (v 2), .int .i64 (v 3), .int .i64 (v 4), .int .i64 (v 5), .int .i64 (v 6), .int .i64 (v 7), .int .i64 (v 8)] 26) = W0 at *
  obtain ⟨g0, hge⟩ : ∃ g0, g0 = w.heap.size := ⟨_, rfl⟩
  rw [← hge] at hO ⊢
  have HA : Hid (Ow w W0 [(g0, #[.int .u64 id, .int .i64 1, .int .i64 owner, .int .i64 (v 0), .int .i64 (v 1), .int .i64 (v 2), .int .i64 (v 3), .int .i64 (v 4), .int .i64 (v 5), .int .i64 (v 6), .int .i64 (v 7), .int .i64 (v 8)], 26)]) := Lib.hid hO
  have HGE := Lib.hid hge
  clear hge hO
  refine (HO.out _).mono ?_
  rintro e w1 ⟨rfl, hb⟩
  replace HA := Lib.hid (HA.out.move hb)
  clear hb
  go_wp2_with fail
  refine (HP.out _).mono ?_
  rintro e w2 ⟨rfl, hb⟩
  replace HA := Lib.hid (HA.out.move hb)
  clear hb
  clear HP
  go_wp2_with fail
  refine (HX.out _).mono ?_
  rintro e w3 ⟨rfl, hb⟩
  replace HA := Lib.hid (HA.out.move hb)
  clear hb
  clear HX
  go_wp2_with (first
    | (refine Line.Stop.at none (.store 30 (.tmp 7) (.tmp 23)) ?_))
  constructor
  have hA := HA.out.push zs12 30
  have hlt0 := blk_lt (HA.out.keep _ (.head _)).1
  refine Line.put_own rfl rfl 30 (.tmp 7) (.tmp 23) rfl w3.heap.size 0 rfl (.agg #[.int .u64 0, .int .i64 0, .int .i64 0, .int .i64 0, .int .i64 0, .int .i64 0, .int .i64 0, .int .i64 0, .int .i64 0, .int .i64 0, .int .i64 0, .int .i64 0]) rfl zs12 #[.int .u64 0, .int .i64 0, .int .i64 0, .int .i64 0, .int .i64 0, .int .i64 0, .int .i64 0, .int .i64 0, .int .i64 0, .int .i64 0, .int .i64 0, .int .i64 0] 30 (heap_alloc_last _ _) (by simp [zs12, Value.cells]) inf30' (by simp [Value.cells, Value.oneCell']) (by simp [Value.cells, zs12]) ?_
  intro w4 h5 g5
  have hA5 := hA.put (bl' := [(g0, #[.int .u64 id, .int .i64 1, .int .i64 owner, .int .i64 (v 0), .int .i64 (v 1), .int .i64 (v 2), .int .i64 (v 3), .int .i64 (v 4), .int .i64 (v 5), .int .i64 (v 6), .int .i64 (v 7), .int .i64 (v 8)], 26)]) (.head _) h5 g5 (fun x hx => by
    rcases List.mem_cons.1 hx with rfl | hx
    · exact ⟨.tail _ (.head _), by show g0 ≠ w3.heap.size; simp only at hlt0; omega⟩
    · cases hx)
  have hn0 : g0 ≠ w3.heap.size := by simp only at hlt0; omega
  generalize w3.heap.size = k7 at *
  have Hk7g0 := Lib.hid hn0
  replace HA := Lib.hid hA5
  clear h5 g5 hA hA5 hlt0 hn0
  have c4 : ∀ k, w4.cell? ⟨g0, k, none⟩ = #[.int .u64 id, .int .i64 1, .int .i64 owner, .int .i64 (v 0), .int .i64 (v 1), .int .i64 (v 2), .int .i64 (v 3), .int .i64 (v 4), .int .i64 (v 5), .int .i64 (v 6), .int .i64 (v 7), .int .i64 (v 8)][k]? := fun k => blk_cell (HA.out.keep _ (.tail _ (.head _))).1 k
  go_wp2_with fail
  refine (HO.out _).mono ?_
  rintro e w5 ⟨rfl, hb⟩
  replace HA := Lib.hid (HA.out.move hb)
  clear hb
  clear c4 HO
  go_wp2_with (first
    | (refine Line.Stop.at none (.store 30 (.tmp 9) (.tmp 26)) ?_))
  constructor
  have hA := HA.out.push zs12 30
  have hlt0 := blk_lt (HA.out.keep _ (.head _)).1
  refine Line.put_own rfl rfl 30 (.tmp 9) (.tmp 26) rfl w5.heap.size 0 rfl (.agg #[.int .u64 id, .int .i64 1, .int .i64 owner, .int .i64 (v 0), .int .i64 (v 1), .int .i64 (v 2), .int .i64 (v 3), .int .i64 (v 4), .int .i64 (v 5), .int .i64 (v 6), .int .i64 (v 7), .int .i64 (v 8)]) rfl zs12 #[.int .u64 id, .int .i64 1, .int .i64 owner, .int .i64 (v 0), .int .i64 (v 1), .int .i64 (v 2), .int .i64 (v 3), .int .i64 (v 4), .int .i64 (v 5), .int .i64 (v 6), .int .i64 (v 7), .int .i64 (v 8)] 30 (heap_alloc_last _ _) (by simp [zs12, Value.cells]) inf30' (by simp [Value.cells, Value.oneCell']) (by simp [Value.cells, zs12]) ?_
  intro w6 h5 g5
  have hA5 := hA.put (bl' := [(k7, #[.int .u64 0, .int .i64 0, .int .i64 0, .int .i64 0, .int .i64 0, .int .i64 0, .int .i64 0, .int .i64 0, .int .i64 0, .int .i64 0, .int .i64 0, .int .i64 0], 30)]) (.head _) h5 g5 (fun x hx => by
    rcases List.mem_cons.1 hx with rfl | hx
    · exact ⟨.tail _ (.head _), by show k7 ≠ w5.heap.size; simp only at hlt0; omega⟩
    · cases hx)
  have hn0 : k7 ≠ w5.heap.size := by simp only at hlt0; omega
  generalize w5.heap.size = k9 at *
  have Hk9k7 := Lib.hid hn0
  replace HA := Lib.hid hA5
  clear h5 g5 hA hA5 hlt0 hn0
  have c9 : ∀ k, w6.cell? ⟨k9, k, none⟩ = #[.int .u64 id, .int .i64 1, .int .i64 owner, .int .i64 (v 0), .int .i64 (v 1), .int .i64 (v 2), .int .i64 (v 3), .int .i64 (v 4), .int .i64 (v 5), .int .i64 (v 6), .int .i64 (v 7), .int .i64 (v 8)][k]? := fun k => blk_cell (HA.out.keep _ (.head _)).1 k
  have c7 : ∀ k, w6.cell? ⟨k7, k, none⟩ = #[.int .u64 0, .int .i64 0, .int .i64 0, .int .i64 0, .int .i64 0, .int .i64 0, .int .i64 0, .int .i64 0, .int .i64 0, .int .i64 0, .int .i64 0, .int .i64 0][k]? := fun k => blk_cell (HA.out.keep _ (.tail _ (.head _))).1 k
  go_wp2_with fail
  refine (HT.out _).mono ?_
  rintro e w8 ⟨rfl, hb⟩
  replace HA := Lib.hid (HA.out.move hb)
  clear hb
  clear c7 c9 HT
  obtain ⟨yid, yop, yow, yv⟩ := y
  simp only at HY HPY
  go_wp2_with (first
    | (refine Line.Stop.at none (.store 30 (.tmp 10) (.tmp 63)) ?_))
  constructor
  have hA := HA.out.push zs12 30
  refine Line.put_own rfl rfl 30 (.tmp 10) (.tmp 63) rfl w8.heap.size 0 rfl (.agg #[.int .u64 yid, .int .i64 yop, .int .i64 yow, .int .i64 (yv 0), .int .i64 (yv 1), .int .i64 (yv 2), .int .i64 (yv 3), .int .i64 (yv 4), .int .i64 (yv 5), .int .i64 (yv 6), .int .i64 (yv 7), .int .i64 (yv 8)]) rfl zs12 #[.int .u64 yid, .int .i64 yop, .int .i64 yow, .int .i64 (yv 0), .int .i64 (yv 1), .int .i64 (yv 2), .int .i64 (yv 3), .int .i64 (yv 4), .int .i64 (yv 5), .int .i64 (yv 6), .int .i64 (yv 7), .int .i64 (yv 8)] 30 (heap_alloc_last _ _) (by simp [zs12, Value.cells]) inf30' (by simp [Value.cells, Value.oneCell']) (by simp [Value.cells, zs12]) ?_
  intro w9 h5 g5
  have hA5 := hA.put (bl' := []) (.head _) h5 g5 (fun x hx => by
    · cases hx)
  generalize w8.heap.size = k10 at *
  replace HA := Lib.hid hA5
  clear h5 g5 hA hA5 
  by_cases hg : gg = 0
  · subst hg
    have c10 : ∀ k, w9.cell? ⟨k10, k, none⟩ = #[.int .u64 yid, .int .i64 yop, .int .i64 yow, .int .i64 (yv 0), .int .i64 (yv 1), .int .i64 (yv 2), .int .i64 (yv 3), .int .i64 (yv 4), .int .i64 (yv 5), .int .i64 (yv 6), .int .i64 (yv 7), .int .i64 (yv 8)][k]? := fun k => blk_cell (HA.out.keep _ (.head _)).1 k
    have HPB := Lib.hid (HPY.out rfl)
    rw [(HY.out rfl).1, (HY.out rfl).2.2] at HPB
    unfold errB at HPB
    clear HY HPY
    have k5 : (b.toList == b.toList) = true := beq_self_eq_true _
    go_wp2_with fail
    refine (HPB.out _).mono ?_
    rintro e w11 ⟨rfl, hb⟩
    replace HA := Lib.hid (HA.out.move hb)
    clear hb
    clear c10 HPB
    go_wp2_with fail
    refine (Bk.awake_ _).mono ?_
    rintro e w12 ⟨rfl, hb⟩
    replace HA := Lib.hid (HA.out.move hb)
    clear hb
    go_wp2_with fail
    go_ret
    exact ⟨rfl, HA.out.below⟩
  · have k5 : (gg == 0) = false := beq_eq_false_iff_ne.2 hg
    have k6 : decide (gg = 0) = false := decide_eq_false hg
    clear HY HPY hg
    go_wp2_with fail
    refine (Bk.awake_ _).mono ?_
    rintro e w12 ⟨rfl, hb⟩
    replace HA := Lib.hid (HA.out.move hb)
    clear hb
    go_wp2_with fail
    go_ret
    exact ⟨rfl, HA.out.below⟩
set_option maxRecDepth 100000 in
set_option maxHeartbeats 4000000 in
theorem Back_6_t (w : World) (id owner : Int) (v : Fin 9 → Int) (hid : U64 id) (hf : formB ⟨id, 6, owner, v⟩ = true) (b : ByteArray) (hb : b.size ≤ 9223372036854775807) : Calls Try.prog 4 #[.agg #[.int .u64 id, .int .i64 6, .int .i64 owner, .int .i64 (v 0), .int .i64 (v 1), .int .i64 (v 2), .int .i64 (v 3), .int .i64 (v 4), .int .i64 (v 5), .int .i64 (v 6), .int .i64 (v 7), .int .i64 (v 8)], .string b] w fun e w' => e = .returned (.bool true) ∧ Below w.heap.size w w' := by
  have HO := Lib.hid (ours_ ⟨id, 6, owner, v⟩)
  have HP := Lib.hid (Put_all ⟨id, 6, owner, v⟩ hid)
  have hsz := putS_size ⟨id, 6, owner, v⟩ hid
  have HX := Lib.hid (Take_ (putS ⟨id, 6, owner, v⟩) hsz)
  have e1 := back_true hid hf
  rw [show norm ⟨id, 6, owner, v⟩ = ⟨id, 6, owner, v⟩ from norm_yes (.inr rfl)] at e1
  rw [e1] at HX
  rw [hf] at HP
  clear e1
  have HT := Lib.hid (Take_ b hb)
  have HY := Lib.hid (fun h : (takeO b).2 = 0 => (takeO_ok h))
  have HPY := Lib.hid (fun (h : (takeO b).2 = 0) => Put_all (takeO b).1 (takeO_ok h).2.1)
  clear hsz hid hf hb
  generalize putS ⟨id, 6, owner, v⟩ = s at *
  generalize takeO b = r at *
  obtain ⟨y, gg⟩ := r
  simp only [ordV, cells12, zeroO, nine0] at HO HP HX HT HY HPY
  unfold errB at HP
  go_enter Try.func4, Try.ntmps4
  go_wp2_with fail
  have hO : Ow w (w.alloc (.cells #[.int .u64 id, .int .i64 6, .int .i64 owner, .int .i64 (v 0), .int .i64 (v 1), .int .i64 (v 2), .int .i64 (v 3), .int .i64 (v 4), .int .i64 (v 5), .int .i64 (v 6), .int .i64 (v 7), .int .i64 (v 8)] 26)) [(w.heap.size, #[.int .u64 id, .int .i64 6, .int .i64 owner, .int .i64 (v 0), .int .i64 (v 1), .int .i64 (v 2), .int .i64 (v 3), .int .i64 (v 4), .int .i64 (v 5), .int .i64 (v 6), .int .i64 (v 7), .int .i64 (v 8)], 26)] := Ow.push (bl := []) ⟨Below.refl _ _, fun x hx => by cases hx⟩ _ 26
  generalize w.alloc (.cells #[.int .u64 id, .int .i64 6, .int .i64 owner, .int .i64 (v 0), .int .i64 (v 1), .int .i64 (v 2), .int .i64 (v 3), .int .i64 (v 4), .int .i64 (v 5), .int .i64 (v 6), .int .i64 (v 7), .int .i64 (v 8)] 26) = W0 at *
  obtain ⟨g0, hge⟩ : ∃ g0, g0 = w.heap.size := ⟨_, rfl⟩
  rw [← hge] at hO ⊢
  have HA : Hid (Ow w W0 [(g0, #[.int .u64 id, .int .i64 6, .int .i64 owner, .int .i64 (v 0), .int .i64 (v 1), .int .i64 (v 2), .int .i64 (v 3), .int .i64 (v 4), .int .i64 (v 5), .int .i64 (v 6), .int .i64 (v 7), .int .i64 (v 8)], 26)]) := Lib.hid hO
  have HGE := Lib.hid hge
  clear hge hO
  refine (HO.out _).mono ?_
  rintro e w1 ⟨rfl, hb⟩
  replace HA := Lib.hid (HA.out.move hb)
  clear hb
  go_wp2_with fail
  refine (HP.out _).mono ?_
  rintro e w2 ⟨rfl, hb⟩
  replace HA := Lib.hid (HA.out.move hb)
  clear hb
  clear HP
  go_wp2_with fail
  refine (HX.out _).mono ?_
  rintro e w3 ⟨rfl, hb⟩
  replace HA := Lib.hid (HA.out.move hb)
  clear hb
  clear HX
  go_wp2_with (first
    | (refine Line.Stop.at none (.store 30 (.tmp 7) (.tmp 23)) ?_))
  constructor
  have hA := HA.out.push zs12 30
  have hlt0 := blk_lt (HA.out.keep _ (.head _)).1
  refine Line.put_own rfl rfl 30 (.tmp 7) (.tmp 23) rfl w3.heap.size 0 rfl (.agg #[.int .u64 id, .int .i64 6, .int .i64 owner, .int .i64 (v 0), .int .i64 (v 1), .int .i64 (v 2), .int .i64 (v 3), .int .i64 (v 4), .int .i64 (v 5), .int .i64 (v 6), .int .i64 (v 7), .int .i64 (v 8)]) rfl zs12 #[.int .u64 id, .int .i64 6, .int .i64 owner, .int .i64 (v 0), .int .i64 (v 1), .int .i64 (v 2), .int .i64 (v 3), .int .i64 (v 4), .int .i64 (v 5), .int .i64 (v 6), .int .i64 (v 7), .int .i64 (v 8)] 30 (heap_alloc_last _ _) (by simp [zs12, Value.cells]) inf30' (by simp [Value.cells, Value.oneCell']) (by simp [Value.cells, zs12]) ?_
  intro w4 h5 g5
  have hA5 := hA.put (bl' := [(g0, #[.int .u64 id, .int .i64 6, .int .i64 owner, .int .i64 (v 0), .int .i64 (v 1), .int .i64 (v 2), .int .i64 (v 3), .int .i64 (v 4), .int .i64 (v 5), .int .i64 (v 6), .int .i64 (v 7), .int .i64 (v 8)], 26)]) (.head _) h5 g5 (fun x hx => by
    rcases List.mem_cons.1 hx with rfl | hx
    · exact ⟨.tail _ (.head _), by show g0 ≠ w3.heap.size; simp only at hlt0; omega⟩
    · cases hx)
  have hn0 : g0 ≠ w3.heap.size := by simp only at hlt0; omega
  generalize w3.heap.size = k7 at *
  have Hk7g0 := Lib.hid hn0
  replace HA := Lib.hid hA5
  clear h5 g5 hA hA5 hlt0 hn0
  have c4 : ∀ k, w4.cell? ⟨g0, k, none⟩ = #[.int .u64 id, .int .i64 6, .int .i64 owner, .int .i64 (v 0), .int .i64 (v 1), .int .i64 (v 2), .int .i64 (v 3), .int .i64 (v 4), .int .i64 (v 5), .int .i64 (v 6), .int .i64 (v 7), .int .i64 (v 8)][k]? := fun k => blk_cell (HA.out.keep _ (.tail _ (.head _))).1 k
  go_wp2_with fail
  refine (HO.out _).mono ?_
  rintro e w5 ⟨rfl, hb⟩
  replace HA := Lib.hid (HA.out.move hb)
  clear hb
  clear c4 HO
  go_wp2_with (first
    | (refine Line.Stop.at none (.store 30 (.tmp 9) (.tmp 26)) ?_))
  constructor
  have hA := HA.out.push zs12 30
  have hlt0 := blk_lt (HA.out.keep _ (.head _)).1
  refine Line.put_own rfl rfl 30 (.tmp 9) (.tmp 26) rfl w5.heap.size 0 rfl (.agg #[.int .u64 id, .int .i64 6, .int .i64 owner, .int .i64 (v 0), .int .i64 (v 1), .int .i64 (v 2), .int .i64 (v 3), .int .i64 (v 4), .int .i64 (v 5), .int .i64 (v 6), .int .i64 (v 7), .int .i64 (v 8)]) rfl zs12 #[.int .u64 id, .int .i64 6, .int .i64 owner, .int .i64 (v 0), .int .i64 (v 1), .int .i64 (v 2), .int .i64 (v 3), .int .i64 (v 4), .int .i64 (v 5), .int .i64 (v 6), .int .i64 (v 7), .int .i64 (v 8)] 30 (heap_alloc_last _ _) (by simp [zs12, Value.cells]) inf30' (by simp [Value.cells, Value.oneCell']) (by simp [Value.cells, zs12]) ?_
  intro w6 h5 g5
  have hA5 := hA.put (bl' := [(k7, #[.int .u64 id, .int .i64 6, .int .i64 owner, .int .i64 (v 0), .int .i64 (v 1), .int .i64 (v 2), .int .i64 (v 3), .int .i64 (v 4), .int .i64 (v 5), .int .i64 (v 6), .int .i64 (v 7), .int .i64 (v 8)], 30)]) (.head _) h5 g5 (fun x hx => by
    rcases List.mem_cons.1 hx with rfl | hx
    · exact ⟨.tail _ (.head _), by show k7 ≠ w5.heap.size; simp only at hlt0; omega⟩
    · cases hx)
  have hn0 : k7 ≠ w5.heap.size := by simp only at hlt0; omega
  generalize w5.heap.size = k9 at *
  have Hk9k7 := Lib.hid hn0
  replace HA := Lib.hid hA5
  clear h5 g5 hA hA5 hlt0 hn0
  have c9 : ∀ k, w6.cell? ⟨k9, k, none⟩ = #[.int .u64 id, .int .i64 6, .int .i64 owner, .int .i64 (v 0), .int .i64 (v 1), .int .i64 (v 2), .int .i64 (v 3), .int .i64 (v 4), .int .i64 (v 5), .int .i64 (v 6), .int .i64 (v 7), .int .i64 (v 8)][k]? := fun k => blk_cell (HA.out.keep _ (.head _)).1 k
  have c7 : ∀ k, w6.cell? ⟨k7, k, none⟩ = #[.int .u64 id, .int .i64 6, .int .i64 owner, .int .i64 (v 0), .int .i64 (v 1), .int .i64 (v 2), .int .i64 (v 3), .int .i64 (v 4), .int .i64 (v 5), .int .i64 (v 6), .int .i64 (v 7), .int .i64 (v 8)][k]? := fun k => blk_cell (HA.out.keep _ (.tail _ (.head _))).1 k
  go_wp2_with fail
  refine (HT.out _).mono ?_
  rintro e w8 ⟨rfl, hb⟩
  replace HA := Lib.hid (HA.out.move hb)
  clear hb
  clear c7 c9 HT
  obtain ⟨yid, yop, yow, yv⟩ := y
  simp only at HY HPY
  go_wp2_with (first
    | (refine Line.Stop.at none (.store 30 (.tmp 10) (.tmp 63)) ?_))
  constructor
  have hA := HA.out.push zs12 30
  refine Line.put_own rfl rfl 30 (.tmp 10) (.tmp 63) rfl w8.heap.size 0 rfl (.agg #[.int .u64 yid, .int .i64 yop, .int .i64 yow, .int .i64 (yv 0), .int .i64 (yv 1), .int .i64 (yv 2), .int .i64 (yv 3), .int .i64 (yv 4), .int .i64 (yv 5), .int .i64 (yv 6), .int .i64 (yv 7), .int .i64 (yv 8)]) rfl zs12 #[.int .u64 yid, .int .i64 yop, .int .i64 yow, .int .i64 (yv 0), .int .i64 (yv 1), .int .i64 (yv 2), .int .i64 (yv 3), .int .i64 (yv 4), .int .i64 (yv 5), .int .i64 (yv 6), .int .i64 (yv 7), .int .i64 (yv 8)] 30 (heap_alloc_last _ _) (by simp [zs12, Value.cells]) inf30' (by simp [Value.cells, Value.oneCell']) (by simp [Value.cells, zs12]) ?_
  intro w9 h5 g5
  have hA5 := hA.put (bl' := []) (.head _) h5 g5 (fun x hx => by
    · cases hx)
  generalize w8.heap.size = k10 at *
  replace HA := Lib.hid hA5
  clear h5 g5 hA hA5 
  by_cases hg : gg = 0
  · subst hg
    have c10 : ∀ k, w9.cell? ⟨k10, k, none⟩ = #[.int .u64 yid, .int .i64 yop, .int .i64 yow, .int .i64 (yv 0), .int .i64 (yv 1), .int .i64 (yv 2), .int .i64 (yv 3), .int .i64 (yv 4), .int .i64 (yv 5), .int .i64 (yv 6), .int .i64 (yv 7), .int .i64 (yv 8)][k]? := fun k => blk_cell (HA.out.keep _ (.head _)).1 k
    have HPB := Lib.hid (HPY.out rfl)
    rw [(HY.out rfl).1, (HY.out rfl).2.2] at HPB
    unfold errB at HPB
    clear HY HPY
    have k5 : (b.toList == b.toList) = true := beq_self_eq_true _
    go_wp2_with fail
    refine (HPB.out _).mono ?_
    rintro e w11 ⟨rfl, hb⟩
    replace HA := Lib.hid (HA.out.move hb)
    clear hb
    clear c10 HPB
    go_wp2_with fail
    refine (Bk.awake_ _).mono ?_
    rintro e w12 ⟨rfl, hb⟩
    replace HA := Lib.hid (HA.out.move hb)
    clear hb
    go_wp2_with fail
    go_ret
    exact ⟨rfl, HA.out.below⟩
  · have k5 : (gg == 0) = false := beq_eq_false_iff_ne.2 hg
    have k6 : decide (gg = 0) = false := decide_eq_false hg
    clear HY HPY hg
    go_wp2_with fail
    refine (Bk.awake_ _).mono ?_
    rintro e w12 ⟨rfl, hb⟩
    replace HA := Lib.hid (HA.out.move hb)
    clear hb
    go_wp2_with fail
    go_ret
    exact ⟨rfl, HA.out.below⟩
set_option maxRecDepth 100000 in
set_option maxHeartbeats 4000000 in
theorem Back_6_f (w : World) (id owner : Int) (v : Fin 9 → Int) (hid : U64 id) (hf : formB ⟨id, 6, owner, v⟩ = false) (b : ByteArray) (hb : b.size ≤ 9223372036854775807) : Calls Try.prog 4 #[.agg #[.int .u64 id, .int .i64 6, .int .i64 owner, .int .i64 (v 0), .int .i64 (v 1), .int .i64 (v 2), .int .i64 (v 3), .int .i64 (v 4), .int .i64 (v 5), .int .i64 (v 6), .int .i64 (v 7), .int .i64 (v 8)], .string b] w fun e w' => e = .returned (.bool true) ∧ Below w.heap.size w w' := by
  have HO := Lib.hid (ours_ ⟨id, 6, owner, v⟩)
  have HP := Lib.hid (Put_all ⟨id, 6, owner, v⟩ hid)
  have hsz := putS_size ⟨id, 6, owner, v⟩ hid
  have HX := Lib.hid (Take_ (putS ⟨id, 6, owner, v⟩) hsz)
  have e1 := back_false hf
  rw [e1, takeO_empty] at HX
  rw [e1, hf] at HP
  clear e1
  have HT := Lib.hid (Take_ b hb)
  have HY := Lib.hid (fun h : (takeO b).2 = 0 => (takeO_ok h))
  have HPY := Lib.hid (fun (h : (takeO b).2 = 0) => Put_all (takeO b).1 (takeO_ok h).2.1)
  clear hsz hid hf hb
  generalize takeO b = r at *
  obtain ⟨y, gg⟩ := r
  simp only [ordV, cells12, zeroO, nine0] at HO HP HX HT HY HPY
  unfold errB at HP
  go_enter Try.func4, Try.ntmps4
  go_wp2_with fail
  have hO : Ow w (w.alloc (.cells #[.int .u64 id, .int .i64 6, .int .i64 owner, .int .i64 (v 0), .int .i64 (v 1), .int .i64 (v 2), .int .i64 (v 3), .int .i64 (v 4), .int .i64 (v 5), .int .i64 (v 6), .int .i64 (v 7), .int .i64 (v 8)] 26)) [(w.heap.size, #[.int .u64 id, .int .i64 6, .int .i64 owner, .int .i64 (v 0), .int .i64 (v 1), .int .i64 (v 2), .int .i64 (v 3), .int .i64 (v 4), .int .i64 (v 5), .int .i64 (v 6), .int .i64 (v 7), .int .i64 (v 8)], 26)] := Ow.push (bl := []) ⟨Below.refl _ _, fun x hx => by cases hx⟩ _ 26
  generalize w.alloc (.cells #[.int .u64 id, .int .i64 6, .int .i64 owner, .int .i64 (v 0), .int .i64 (v 1), .int .i64 (v 2), .int .i64 (v 3), .int .i64 (v 4), .int .i64 (v 5), .int .i64 (v 6), .int .i64 (v 7), .int .i64 (v 8)] 26) = W0 at *
  obtain ⟨g0, hge⟩ : ∃ g0, g0 = w.heap.size := ⟨_, rfl⟩
  rw [← hge] at hO ⊢
  have HA : Hid (Ow w W0 [(g0, #[.int .u64 id, .int .i64 6, .int .i64 owner, .int .i64 (v 0), .int .i64 (v 1), .int .i64 (v 2), .int .i64 (v 3), .int .i64 (v 4), .int .i64 (v 5), .int .i64 (v 6), .int .i64 (v 7), .int .i64 (v 8)], 26)]) := Lib.hid hO
  have HGE := Lib.hid hge
  clear hge hO
  refine (HO.out _).mono ?_
  rintro e w1 ⟨rfl, hb⟩
  replace HA := Lib.hid (HA.out.move hb)
  clear hb
  go_wp2_with fail
  refine (HP.out _).mono ?_
  rintro e w2 ⟨rfl, hb⟩
  replace HA := Lib.hid (HA.out.move hb)
  clear hb
  clear HP
  go_wp2_with fail
  refine (HX.out _).mono ?_
  rintro e w3 ⟨rfl, hb⟩
  replace HA := Lib.hid (HA.out.move hb)
  clear hb
  clear HX
  go_wp2_with (first
    | (refine Line.Stop.at none (.store 30 (.tmp 7) (.tmp 23)) ?_))
  constructor
  have hA := HA.out.push zs12 30
  have hlt0 := blk_lt (HA.out.keep _ (.head _)).1
  refine Line.put_own rfl rfl 30 (.tmp 7) (.tmp 23) rfl w3.heap.size 0 rfl (.agg #[.int .u64 0, .int .i64 0, .int .i64 0, .int .i64 0, .int .i64 0, .int .i64 0, .int .i64 0, .int .i64 0, .int .i64 0, .int .i64 0, .int .i64 0, .int .i64 0]) rfl zs12 #[.int .u64 0, .int .i64 0, .int .i64 0, .int .i64 0, .int .i64 0, .int .i64 0, .int .i64 0, .int .i64 0, .int .i64 0, .int .i64 0, .int .i64 0, .int .i64 0] 30 (heap_alloc_last _ _) (by simp [zs12, Value.cells]) inf30' (by simp [Value.cells, Value.oneCell']) (by simp [Value.cells, zs12]) ?_
  intro w4 h5 g5
  have hA5 := hA.put (bl' := [(g0, #[.int .u64 id, .int .i64 6, .int .i64 owner, .int .i64 (v 0), .int .i64 (v 1), .int .i64 (v 2), .int .i64 (v 3), .int .i64 (v 4), .int .i64 (v 5), .int .i64 (v 6), .int .i64 (v 7), .int .i64 (v 8)], 26)]) (.head _) h5 g5 (fun x hx => by
    rcases List.mem_cons.1 hx with rfl | hx
    · exact ⟨.tail _ (.head _), by show g0 ≠ w3.heap.size; simp only at hlt0; omega⟩
    · cases hx)
  have hn0 : g0 ≠ w3.heap.size := by simp only at hlt0; omega
  generalize w3.heap.size = k7 at *
  have Hk7g0 := Lib.hid hn0
  replace HA := Lib.hid hA5
  clear h5 g5 hA hA5 hlt0 hn0
  have c4 : ∀ k, w4.cell? ⟨g0, k, none⟩ = #[.int .u64 id, .int .i64 6, .int .i64 owner, .int .i64 (v 0), .int .i64 (v 1), .int .i64 (v 2), .int .i64 (v 3), .int .i64 (v 4), .int .i64 (v 5), .int .i64 (v 6), .int .i64 (v 7), .int .i64 (v 8)][k]? := fun k => blk_cell (HA.out.keep _ (.tail _ (.head _))).1 k
  go_wp2_with fail
  refine (HO.out _).mono ?_
  rintro e w5 ⟨rfl, hb⟩
  replace HA := Lib.hid (HA.out.move hb)
  clear hb
  clear c4 HO
  go_wp2_with (first
    | (refine Line.Stop.at none (.store 30 (.tmp 9) (.tmp 26)) ?_))
  constructor
  have hA := HA.out.push zs12 30
  have hlt0 := blk_lt (HA.out.keep _ (.head _)).1
  refine Line.put_own rfl rfl 30 (.tmp 9) (.tmp 26) rfl w5.heap.size 0 rfl (.agg #[.int .u64 id, .int .i64 6, .int .i64 owner, .int .i64 (v 0), .int .i64 (v 1), .int .i64 (v 2), .int .i64 (v 3), .int .i64 (v 4), .int .i64 (v 5), .int .i64 (v 6), .int .i64 (v 7), .int .i64 (v 8)]) rfl zs12 #[.int .u64 id, .int .i64 6, .int .i64 owner, .int .i64 (v 0), .int .i64 (v 1), .int .i64 (v 2), .int .i64 (v 3), .int .i64 (v 4), .int .i64 (v 5), .int .i64 (v 6), .int .i64 (v 7), .int .i64 (v 8)] 30 (heap_alloc_last _ _) (by simp [zs12, Value.cells]) inf30' (by simp [Value.cells, Value.oneCell']) (by simp [Value.cells, zs12]) ?_
  intro w6 h5 g5
  have hA5 := hA.put (bl' := [(k7, #[.int .u64 0, .int .i64 0, .int .i64 0, .int .i64 0, .int .i64 0, .int .i64 0, .int .i64 0, .int .i64 0, .int .i64 0, .int .i64 0, .int .i64 0, .int .i64 0], 30)]) (.head _) h5 g5 (fun x hx => by
    rcases List.mem_cons.1 hx with rfl | hx
    · exact ⟨.tail _ (.head _), by show k7 ≠ w5.heap.size; simp only at hlt0; omega⟩
    · cases hx)
  have hn0 : k7 ≠ w5.heap.size := by simp only at hlt0; omega
  generalize w5.heap.size = k9 at *
  have Hk9k7 := Lib.hid hn0
  replace HA := Lib.hid hA5
  clear h5 g5 hA hA5 hlt0 hn0
  have c9 : ∀ k, w6.cell? ⟨k9, k, none⟩ = #[.int .u64 id, .int .i64 6, .int .i64 owner, .int .i64 (v 0), .int .i64 (v 1), .int .i64 (v 2), .int .i64 (v 3), .int .i64 (v 4), .int .i64 (v 5), .int .i64 (v 6), .int .i64 (v 7), .int .i64 (v 8)][k]? := fun k => blk_cell (HA.out.keep _ (.head _)).1 k
  have c7 : ∀ k, w6.cell? ⟨k7, k, none⟩ = #[.int .u64 0, .int .i64 0, .int .i64 0, .int .i64 0, .int .i64 0, .int .i64 0, .int .i64 0, .int .i64 0, .int .i64 0, .int .i64 0, .int .i64 0, .int .i64 0][k]? := fun k => blk_cell (HA.out.keep _ (.tail _ (.head _))).1 k
  go_wp2_with fail
  refine (HT.out _).mono ?_
  rintro e w8 ⟨rfl, hb⟩
  replace HA := Lib.hid (HA.out.move hb)
  clear hb
  clear c7 c9 HT
  obtain ⟨yid, yop, yow, yv⟩ := y
  simp only at HY HPY
  go_wp2_with (first
    | (refine Line.Stop.at none (.store 30 (.tmp 10) (.tmp 63)) ?_))
  constructor
  have hA := HA.out.push zs12 30
  refine Line.put_own rfl rfl 30 (.tmp 10) (.tmp 63) rfl w8.heap.size 0 rfl (.agg #[.int .u64 yid, .int .i64 yop, .int .i64 yow, .int .i64 (yv 0), .int .i64 (yv 1), .int .i64 (yv 2), .int .i64 (yv 3), .int .i64 (yv 4), .int .i64 (yv 5), .int .i64 (yv 6), .int .i64 (yv 7), .int .i64 (yv 8)]) rfl zs12 #[.int .u64 yid, .int .i64 yop, .int .i64 yow, .int .i64 (yv 0), .int .i64 (yv 1), .int .i64 (yv 2), .int .i64 (yv 3), .int .i64 (yv 4), .int .i64 (yv 5), .int .i64 (yv 6), .int .i64 (yv 7), .int .i64 (yv 8)] 30 (heap_alloc_last _ _) (by simp [zs12, Value.cells]) inf30' (by simp [Value.cells, Value.oneCell']) (by simp [Value.cells, zs12]) ?_
  intro w9 h5 g5
  have hA5 := hA.put (bl' := []) (.head _) h5 g5 (fun x hx => by
    · cases hx)
  generalize w8.heap.size = k10 at *
  replace HA := Lib.hid hA5
  clear h5 g5 hA hA5 
  by_cases hg : gg = 0
  · subst hg
    have c10 : ∀ k, w9.cell? ⟨k10, k, none⟩ = #[.int .u64 yid, .int .i64 yop, .int .i64 yow, .int .i64 (yv 0), .int .i64 (yv 1), .int .i64 (yv 2), .int .i64 (yv 3), .int .i64 (yv 4), .int .i64 (yv 5), .int .i64 (yv 6), .int .i64 (yv 7), .int .i64 (yv 8)][k]? := fun k => blk_cell (HA.out.keep _ (.head _)).1 k
    have HPB := Lib.hid (HPY.out rfl)
    rw [(HY.out rfl).1, (HY.out rfl).2.2] at HPB
    unfold errB at HPB
    clear HY HPY
    have k5 : (b.toList == b.toList) = true := beq_self_eq_true _
    go_wp2_with fail
    refine (HPB.out _).mono ?_
    rintro e w11 ⟨rfl, hb⟩
    replace HA := Lib.hid (HA.out.move hb)
    clear hb
    clear c10 HPB
    go_wp2_with fail
    refine (Bk.awake_ _).mono ?_
    rintro e w12 ⟨rfl, hb⟩
    replace HA := Lib.hid (HA.out.move hb)
    clear hb
    go_wp2_with fail
    go_ret
    exact ⟨rfl, HA.out.below⟩
  · have k5 : (gg == 0) = false := beq_eq_false_iff_ne.2 hg
    have k6 : decide (gg = 0) = false := decide_eq_false hg
    clear HY HPY hg
    go_wp2_with fail
    refine (Bk.awake_ _).mono ?_
    rintro e w12 ⟨rfl, hb⟩
    replace HA := Lib.hid (HA.out.move hb)
    clear hb
    go_wp2_with fail
    go_ret
    exact ⟨rfl, HA.out.below⟩
set_option maxRecDepth 100000 in
set_option maxHeartbeats 4000000 in
theorem Back_op_t (w : World) (id op owner : Int) (v : Fin 9 → Int) (hid : U64 id) (hf : formB ⟨id, op, owner, v⟩ = true) (hop : ¬ (op = 1 ∨ op = 6)) (b : ByteArray) (hb : b.size ≤ 9223372036854775807) : Calls Try.prog 4 #[.agg #[.int .u64 id, .int .i64 op, .int .i64 owner, .int .i64 (v 0), .int .i64 (v 1), .int .i64 (v 2), .int .i64 (v 3), .int .i64 (v 4), .int .i64 (v 5), .int .i64 (v 6), .int .i64 (v 7), .int .i64 (v 8)], .string b] w fun e w' => e = .returned (.bool true) ∧ Below w.heap.size w w' := by
  have HO := Lib.hid (ours_ ⟨id, op, owner, v⟩)
  have HP := Lib.hid (Put_all ⟨id, op, owner, v⟩ hid)
  have hsz := putS_size ⟨id, op, owner, v⟩ hid
  have HX := Lib.hid (Take_ (putS ⟨id, op, owner, v⟩) hsz)
  have e1 := back_true hid hf
  rw [show norm ⟨id, op, owner, v⟩ = ⟨id, op, owner, nine0⟩ from norm_no hop] at e1
  rw [e1] at HX
  rw [hf] at HP
  clear e1
  have HT := Lib.hid (Take_ b hb)
  have HY := Lib.hid (fun h : (takeO b).2 = 0 => (takeO_ok h))
  have HPY := Lib.hid (fun (h : (takeO b).2 = 0) => Put_all (takeO b).1 (takeO_ok h).2.1)
  clear hsz hid hf hb
  generalize putS ⟨id, op, owner, v⟩ = s at *
  generalize takeO b = r at *
  obtain ⟨y, gg⟩ := r
  simp only [ordV, cells12, zeroO, nine0] at HO HP HX HT HY HPY
  unfold errB at HP
  have k1 : (op != 1) = true := bne_iff_ne.2 (fun h => hop (.inl h))
  have k2 : (op != 6) = true := bne_iff_ne.2 (fun h => hop (.inr h))
  have k3 : (op == 1) = false := beq_eq_false_iff_ne.2 (fun h => hop (.inl h))
  have k4 : (op == 6) = false := beq_eq_false_iff_ne.2 (fun h => hop (.inr h))
  clear hop
  go_enter Try.func4, Try.ntmps4
  go_wp2_with fail
  have hO : Ow w (w.alloc (.cells #[.int .u64 id, .int .i64 op, .int .i64 owner, .int .i64 (v 0), .int .i64 (v 1), .int .i64 (v 2), .int .i64 (v 3), .int .i64 (v 4), .int .i64 (v 5), .int .i64 (v 6), .int .i64 (v 7), .int .i64 (v 8)] 26)) [(w.heap.size, #[.int .u64 id, .int .i64 op, .int .i64 owner, .int .i64 (v 0), .int .i64 (v 1), .int .i64 (v 2), .int .i64 (v 3), .int .i64 (v 4), .int .i64 (v 5), .int .i64 (v 6), .int .i64 (v 7), .int .i64 (v 8)], 26)] := Ow.push (bl := []) ⟨Below.refl _ _, fun x hx => by cases hx⟩ _ 26
  generalize w.alloc (.cells #[.int .u64 id, .int .i64 op, .int .i64 owner, .int .i64 (v 0), .int .i64 (v 1), .int .i64 (v 2), .int .i64 (v 3), .int .i64 (v 4), .int .i64 (v 5), .int .i64 (v 6), .int .i64 (v 7), .int .i64 (v 8)] 26) = W0 at *
  obtain ⟨g0, hge⟩ : ∃ g0, g0 = w.heap.size := ⟨_, rfl⟩
  rw [← hge] at hO ⊢
  have HA : Hid (Ow w W0 [(g0, #[.int .u64 id, .int .i64 op, .int .i64 owner, .int .i64 (v 0), .int .i64 (v 1), .int .i64 (v 2), .int .i64 (v 3), .int .i64 (v 4), .int .i64 (v 5), .int .i64 (v 6), .int .i64 (v 7), .int .i64 (v 8)], 26)]) := Lib.hid hO
  have HGE := Lib.hid hge
  clear hge hO
  refine (HO.out _).mono ?_
  rintro e w1 ⟨rfl, hb⟩
  replace HA := Lib.hid (HA.out.move hb)
  clear hb
  go_wp2_with fail
  refine (HP.out _).mono ?_
  rintro e w2 ⟨rfl, hb⟩
  replace HA := Lib.hid (HA.out.move hb)
  clear hb
  clear HP
  go_wp2_with fail
  refine (HX.out _).mono ?_
  rintro e w3 ⟨rfl, hb⟩
  replace HA := Lib.hid (HA.out.move hb)
  clear hb
  clear HX
  go_wp2_with (first
    | (refine Line.Stop.at none (.store 30 (.tmp 7) (.tmp 23)) ?_))
  constructor
  have hA := HA.out.push zs12 30
  have hlt0 := blk_lt (HA.out.keep _ (.head _)).1
  refine Line.put_own rfl rfl 30 (.tmp 7) (.tmp 23) rfl w3.heap.size 0 rfl (.agg #[.int .u64 id, .int .i64 op, .int .i64 owner, .int .i64 0, .int .i64 0, .int .i64 0, .int .i64 0, .int .i64 0, .int .i64 0, .int .i64 0, .int .i64 0, .int .i64 0]) rfl zs12 #[.int .u64 id, .int .i64 op, .int .i64 owner, .int .i64 0, .int .i64 0, .int .i64 0, .int .i64 0, .int .i64 0, .int .i64 0, .int .i64 0, .int .i64 0, .int .i64 0] 30 (heap_alloc_last _ _) (by simp [zs12, Value.cells]) inf30' (by simp [Value.cells, Value.oneCell']) (by simp [Value.cells, zs12]) ?_
  intro w4 h5 g5
  have hA5 := hA.put (bl' := [(g0, #[.int .u64 id, .int .i64 op, .int .i64 owner, .int .i64 (v 0), .int .i64 (v 1), .int .i64 (v 2), .int .i64 (v 3), .int .i64 (v 4), .int .i64 (v 5), .int .i64 (v 6), .int .i64 (v 7), .int .i64 (v 8)], 26)]) (.head _) h5 g5 (fun x hx => by
    rcases List.mem_cons.1 hx with rfl | hx
    · exact ⟨.tail _ (.head _), by show g0 ≠ w3.heap.size; simp only at hlt0; omega⟩
    · cases hx)
  have hn0 : g0 ≠ w3.heap.size := by simp only at hlt0; omega
  generalize w3.heap.size = k7 at *
  have Hk7g0 := Lib.hid hn0
  replace HA := Lib.hid hA5
  clear h5 g5 hA hA5 hlt0 hn0
  have c4 : ∀ k, w4.cell? ⟨g0, k, none⟩ = #[.int .u64 id, .int .i64 op, .int .i64 owner, .int .i64 (v 0), .int .i64 (v 1), .int .i64 (v 2), .int .i64 (v 3), .int .i64 (v 4), .int .i64 (v 5), .int .i64 (v 6), .int .i64 (v 7), .int .i64 (v 8)][k]? := fun k => blk_cell (HA.out.keep _ (.tail _ (.head _))).1 k
  go_wp2_with fail
  refine (HO.out _).mono ?_
  rintro e w5 ⟨rfl, hb⟩
  replace HA := Lib.hid (HA.out.move hb)
  clear hb
  clear c4 HO
  go_wp2_with (first
    | (refine Line.Stop.at none (.store 30 (.tmp 9) (.tmp 26)) ?_))
  constructor
  have hA := HA.out.push zs12 30
  have hlt0 := blk_lt (HA.out.keep _ (.head _)).1
  refine Line.put_own rfl rfl 30 (.tmp 9) (.tmp 26) rfl w5.heap.size 0 rfl (.agg #[.int .u64 id, .int .i64 op, .int .i64 owner, .int .i64 (v 0), .int .i64 (v 1), .int .i64 (v 2), .int .i64 (v 3), .int .i64 (v 4), .int .i64 (v 5), .int .i64 (v 6), .int .i64 (v 7), .int .i64 (v 8)]) rfl zs12 #[.int .u64 id, .int .i64 op, .int .i64 owner, .int .i64 (v 0), .int .i64 (v 1), .int .i64 (v 2), .int .i64 (v 3), .int .i64 (v 4), .int .i64 (v 5), .int .i64 (v 6), .int .i64 (v 7), .int .i64 (v 8)] 30 (heap_alloc_last _ _) (by simp [zs12, Value.cells]) inf30' (by simp [Value.cells, Value.oneCell']) (by simp [Value.cells, zs12]) ?_
  intro w6 h5 g5
  have hA5 := hA.put (bl' := [(k7, #[.int .u64 id, .int .i64 op, .int .i64 owner, .int .i64 0, .int .i64 0, .int .i64 0, .int .i64 0, .int .i64 0, .int .i64 0, .int .i64 0, .int .i64 0, .int .i64 0], 30)]) (.head _) h5 g5 (fun x hx => by
    rcases List.mem_cons.1 hx with rfl | hx
    · exact ⟨.tail _ (.head _), by show k7 ≠ w5.heap.size; simp only at hlt0; omega⟩
    · cases hx)
  have hn0 : k7 ≠ w5.heap.size := by simp only at hlt0; omega
  generalize w5.heap.size = k9 at *
  have Hk9k7 := Lib.hid hn0
  replace HA := Lib.hid hA5
  clear h5 g5 hA hA5 hlt0 hn0
  have c9 : ∀ k, w6.cell? ⟨k9, k, none⟩ = #[.int .u64 id, .int .i64 op, .int .i64 owner, .int .i64 (v 0), .int .i64 (v 1), .int .i64 (v 2), .int .i64 (v 3), .int .i64 (v 4), .int .i64 (v 5), .int .i64 (v 6), .int .i64 (v 7), .int .i64 (v 8)][k]? := fun k => blk_cell (HA.out.keep _ (.head _)).1 k
  go_wp2_with (first
    | (refine Line.Stop.at none (.store 24 (.tmp 36) (.tmp 35)) ?_))
  constructor
  refine Line.put_own rfl rfl 24 (.tmp 36) (.tmp 35) rfl k9 3 rfl (.agg #[.int .i64 0, .int .i64 0, .int .i64 0, .int .i64 0, .int .i64 0, .int .i64 0, .int .i64 0, .int .i64 0, .int .i64 0]) rfl #[.int .u64 id, .int .i64 op, .int .i64 owner, .int .i64 (v 0), .int .i64 (v 1), .int .i64 (v 2), .int .i64 (v 3), .int .i64 (v 4), .int .i64 (v 5), .int .i64 (v 6), .int .i64 (v 7), .int .i64 (v 8)] #[.int .u64 id, .int .i64 op, .int .i64 owner, .int .i64 0, .int .i64 0, .int .i64 0, .int .i64 0, .int .i64 0, .int .i64 0, .int .i64 0, .int .i64 0, .int .i64 0] 30 (HA.out.keep _ (.head _)).1 (by simp [Value.cells]) inf24' (by simp [Value.cells, Value.oneCell']) (by simp [Value.cells]) ?_
  intro w7 h7 g7
  have hA7 := HA.out.put (bl' := [(k7, #[.int .u64 id, .int .i64 op, .int .i64 owner, .int .i64 0, .int .i64 0, .int .i64 0, .int .i64 0, .int .i64 0, .int .i64 0, .int .i64 0, .int .i64 0, .int .i64 0], 30)]) (.head _) h7 g7 (fun x hx => by
    rcases List.mem_cons.1 hx with rfl | hx
    · exact ⟨.tail _ (.head _), by show k7 ≠ k9; exact Hk9k7.out⟩
    · cases hx)
  replace HA := Lib.hid hA7
  clear h7 g7 hA7 c9
  have c9 : ∀ k, w7.cell? ⟨k9, k, none⟩ = #[.int .u64 id, .int .i64 op, .int .i64 owner, .int .i64 0, .int .i64 0, .int .i64 0, .int .i64 0, .int .i64 0, .int .i64 0, .int .i64 0, .int .i64 0, .int .i64 0][k]? := fun k => blk_cell (HA.out.keep _ (.head _)).1 k
  have c7 : ∀ k, w7.cell? ⟨k7, k, none⟩ = #[.int .u64 id, .int .i64 op, .int .i64 owner, .int .i64 0, .int .i64 0, .int .i64 0, .int .i64 0, .int .i64 0, .int .i64 0, .int .i64 0, .int .i64 0, .int .i64 0][k]? := fun k => blk_cell (HA.out.keep _ (.tail _ (.head _))).1 k
  go_wp2_with fail
  refine (HT.out _).mono ?_
  rintro e w8 ⟨rfl, hb⟩
  replace HA := Lib.hid (HA.out.move hb)
  clear hb
  clear c7 c9 HT
  obtain ⟨yid, yop, yow, yv⟩ := y
  simp only at HY HPY
  go_wp2_with (first
    | (refine Line.Stop.at none (.store 30 (.tmp 10) (.tmp 63)) ?_))
  constructor
  have hA := HA.out.push zs12 30
  refine Line.put_own rfl rfl 30 (.tmp 10) (.tmp 63) rfl w8.heap.size 0 rfl (.agg #[.int .u64 yid, .int .i64 yop, .int .i64 yow, .int .i64 (yv 0), .int .i64 (yv 1), .int .i64 (yv 2), .int .i64 (yv 3), .int .i64 (yv 4), .int .i64 (yv 5), .int .i64 (yv 6), .int .i64 (yv 7), .int .i64 (yv 8)]) rfl zs12 #[.int .u64 yid, .int .i64 yop, .int .i64 yow, .int .i64 (yv 0), .int .i64 (yv 1), .int .i64 (yv 2), .int .i64 (yv 3), .int .i64 (yv 4), .int .i64 (yv 5), .int .i64 (yv 6), .int .i64 (yv 7), .int .i64 (yv 8)] 30 (heap_alloc_last _ _) (by simp [zs12, Value.cells]) inf30' (by simp [Value.cells, Value.oneCell']) (by simp [Value.cells, zs12]) ?_
  intro w9 h5 g5
  have hA5 := hA.put (bl' := []) (.head _) h5 g5 (fun x hx => by
    · cases hx)
  generalize w8.heap.size = k10 at *
  replace HA := Lib.hid hA5
  clear h5 g5 hA hA5 
  by_cases hg : gg = 0
  · subst hg
    have c10 : ∀ k, w9.cell? ⟨k10, k, none⟩ = #[.int .u64 yid, .int .i64 yop, .int .i64 yow, .int .i64 (yv 0), .int .i64 (yv 1), .int .i64 (yv 2), .int .i64 (yv 3), .int .i64 (yv 4), .int .i64 (yv 5), .int .i64 (yv 6), .int .i64 (yv 7), .int .i64 (yv 8)][k]? := fun k => blk_cell (HA.out.keep _ (.head _)).1 k
    have HPB := Lib.hid (HPY.out rfl)
    rw [(HY.out rfl).1, (HY.out rfl).2.2] at HPB
    unfold errB at HPB
    clear HY HPY
    have k5 : (b.toList == b.toList) = true := beq_self_eq_true _
    go_wp2_with fail
    refine (HPB.out _).mono ?_
    rintro e w11 ⟨rfl, hb⟩
    replace HA := Lib.hid (HA.out.move hb)
    clear hb
    clear c10 HPB
    go_wp2_with fail
    refine (Bk.awake_ _).mono ?_
    rintro e w12 ⟨rfl, hb⟩
    replace HA := Lib.hid (HA.out.move hb)
    clear hb
    go_wp2_with fail
    go_ret
    exact ⟨rfl, HA.out.below⟩
  · have k5 : (gg == 0) = false := beq_eq_false_iff_ne.2 hg
    have k6 : decide (gg = 0) = false := decide_eq_false hg
    clear HY HPY hg
    go_wp2_with fail
    refine (Bk.awake_ _).mono ?_
    rintro e w12 ⟨rfl, hb⟩
    replace HA := Lib.hid (HA.out.move hb)
    clear hb
    go_wp2_with fail
    go_ret
    exact ⟨rfl, HA.out.below⟩
set_option maxRecDepth 100000 in
set_option maxHeartbeats 4000000 in
theorem Back_op_f (w : World) (id op owner : Int) (v : Fin 9 → Int) (hid : U64 id) (hf : formB ⟨id, op, owner, v⟩ = false) (hop : ¬ (op = 1 ∨ op = 6)) (b : ByteArray) (hb : b.size ≤ 9223372036854775807) : Calls Try.prog 4 #[.agg #[.int .u64 id, .int .i64 op, .int .i64 owner, .int .i64 (v 0), .int .i64 (v 1), .int .i64 (v 2), .int .i64 (v 3), .int .i64 (v 4), .int .i64 (v 5), .int .i64 (v 6), .int .i64 (v 7), .int .i64 (v 8)], .string b] w fun e w' => e = .returned (.bool true) ∧ Below w.heap.size w w' := by
  have HO := Lib.hid (ours_ ⟨id, op, owner, v⟩)
  have HP := Lib.hid (Put_all ⟨id, op, owner, v⟩ hid)
  have hsz := putS_size ⟨id, op, owner, v⟩ hid
  have HX := Lib.hid (Take_ (putS ⟨id, op, owner, v⟩) hsz)
  have e1 := back_false hf
  rw [e1, takeO_empty] at HX
  rw [e1, hf] at HP
  clear e1
  have HT := Lib.hid (Take_ b hb)
  have HY := Lib.hid (fun h : (takeO b).2 = 0 => (takeO_ok h))
  have HPY := Lib.hid (fun (h : (takeO b).2 = 0) => Put_all (takeO b).1 (takeO_ok h).2.1)
  clear hsz hid hf hb
  generalize takeO b = r at *
  obtain ⟨y, gg⟩ := r
  simp only [ordV, cells12, zeroO, nine0] at HO HP HX HT HY HPY
  unfold errB at HP
  have k1 : (op != 1) = true := bne_iff_ne.2 (fun h => hop (.inl h))
  have k2 : (op != 6) = true := bne_iff_ne.2 (fun h => hop (.inr h))
  have k3 : (op == 1) = false := beq_eq_false_iff_ne.2 (fun h => hop (.inl h))
  have k4 : (op == 6) = false := beq_eq_false_iff_ne.2 (fun h => hop (.inr h))
  clear hop
  go_enter Try.func4, Try.ntmps4
  go_wp2_with fail
  have hO : Ow w (w.alloc (.cells #[.int .u64 id, .int .i64 op, .int .i64 owner, .int .i64 (v 0), .int .i64 (v 1), .int .i64 (v 2), .int .i64 (v 3), .int .i64 (v 4), .int .i64 (v 5), .int .i64 (v 6), .int .i64 (v 7), .int .i64 (v 8)] 26)) [(w.heap.size, #[.int .u64 id, .int .i64 op, .int .i64 owner, .int .i64 (v 0), .int .i64 (v 1), .int .i64 (v 2), .int .i64 (v 3), .int .i64 (v 4), .int .i64 (v 5), .int .i64 (v 6), .int .i64 (v 7), .int .i64 (v 8)], 26)] := Ow.push (bl := []) ⟨Below.refl _ _, fun x hx => by cases hx⟩ _ 26
  generalize w.alloc (.cells #[.int .u64 id, .int .i64 op, .int .i64 owner, .int .i64 (v 0), .int .i64 (v 1), .int .i64 (v 2), .int .i64 (v 3), .int .i64 (v 4), .int .i64 (v 5), .int .i64 (v 6), .int .i64 (v 7), .int .i64 (v 8)] 26) = W0 at *
  obtain ⟨g0, hge⟩ : ∃ g0, g0 = w.heap.size := ⟨_, rfl⟩
  rw [← hge] at hO ⊢
  have HA : Hid (Ow w W0 [(g0, #[.int .u64 id, .int .i64 op, .int .i64 owner, .int .i64 (v 0), .int .i64 (v 1), .int .i64 (v 2), .int .i64 (v 3), .int .i64 (v 4), .int .i64 (v 5), .int .i64 (v 6), .int .i64 (v 7), .int .i64 (v 8)], 26)]) := Lib.hid hO
  have HGE := Lib.hid hge
  clear hge hO
  refine (HO.out _).mono ?_
  rintro e w1 ⟨rfl, hb⟩
  replace HA := Lib.hid (HA.out.move hb)
  clear hb
  go_wp2_with fail
  refine (HP.out _).mono ?_
  rintro e w2 ⟨rfl, hb⟩
  replace HA := Lib.hid (HA.out.move hb)
  clear hb
  clear HP
  go_wp2_with fail
  refine (HX.out _).mono ?_
  rintro e w3 ⟨rfl, hb⟩
  replace HA := Lib.hid (HA.out.move hb)
  clear hb
  clear HX
  go_wp2_with (first
    | (refine Line.Stop.at none (.store 30 (.tmp 7) (.tmp 23)) ?_))
  constructor
  have hA := HA.out.push zs12 30
  have hlt0 := blk_lt (HA.out.keep _ (.head _)).1
  refine Line.put_own rfl rfl 30 (.tmp 7) (.tmp 23) rfl w3.heap.size 0 rfl (.agg #[.int .u64 0, .int .i64 0, .int .i64 0, .int .i64 0, .int .i64 0, .int .i64 0, .int .i64 0, .int .i64 0, .int .i64 0, .int .i64 0, .int .i64 0, .int .i64 0]) rfl zs12 #[.int .u64 0, .int .i64 0, .int .i64 0, .int .i64 0, .int .i64 0, .int .i64 0, .int .i64 0, .int .i64 0, .int .i64 0, .int .i64 0, .int .i64 0, .int .i64 0] 30 (heap_alloc_last _ _) (by simp [zs12, Value.cells]) inf30' (by simp [Value.cells, Value.oneCell']) (by simp [Value.cells, zs12]) ?_
  intro w4 h5 g5
  have hA5 := hA.put (bl' := [(g0, #[.int .u64 id, .int .i64 op, .int .i64 owner, .int .i64 (v 0), .int .i64 (v 1), .int .i64 (v 2), .int .i64 (v 3), .int .i64 (v 4), .int .i64 (v 5), .int .i64 (v 6), .int .i64 (v 7), .int .i64 (v 8)], 26)]) (.head _) h5 g5 (fun x hx => by
    rcases List.mem_cons.1 hx with rfl | hx
    · exact ⟨.tail _ (.head _), by show g0 ≠ w3.heap.size; simp only at hlt0; omega⟩
    · cases hx)
  have hn0 : g0 ≠ w3.heap.size := by simp only at hlt0; omega
  generalize w3.heap.size = k7 at *
  have Hk7g0 := Lib.hid hn0
  replace HA := Lib.hid hA5
  clear h5 g5 hA hA5 hlt0 hn0
  have c4 : ∀ k, w4.cell? ⟨g0, k, none⟩ = #[.int .u64 id, .int .i64 op, .int .i64 owner, .int .i64 (v 0), .int .i64 (v 1), .int .i64 (v 2), .int .i64 (v 3), .int .i64 (v 4), .int .i64 (v 5), .int .i64 (v 6), .int .i64 (v 7), .int .i64 (v 8)][k]? := fun k => blk_cell (HA.out.keep _ (.tail _ (.head _))).1 k
  go_wp2_with fail
  refine (HO.out _).mono ?_
  rintro e w5 ⟨rfl, hb⟩
  replace HA := Lib.hid (HA.out.move hb)
  clear hb
  clear c4 HO
  go_wp2_with (first
    | (refine Line.Stop.at none (.store 30 (.tmp 9) (.tmp 26)) ?_))
  constructor
  have hA := HA.out.push zs12 30
  have hlt0 := blk_lt (HA.out.keep _ (.head _)).1
  refine Line.put_own rfl rfl 30 (.tmp 9) (.tmp 26) rfl w5.heap.size 0 rfl (.agg #[.int .u64 id, .int .i64 op, .int .i64 owner, .int .i64 (v 0), .int .i64 (v 1), .int .i64 (v 2), .int .i64 (v 3), .int .i64 (v 4), .int .i64 (v 5), .int .i64 (v 6), .int .i64 (v 7), .int .i64 (v 8)]) rfl zs12 #[.int .u64 id, .int .i64 op, .int .i64 owner, .int .i64 (v 0), .int .i64 (v 1), .int .i64 (v 2), .int .i64 (v 3), .int .i64 (v 4), .int .i64 (v 5), .int .i64 (v 6), .int .i64 (v 7), .int .i64 (v 8)] 30 (heap_alloc_last _ _) (by simp [zs12, Value.cells]) inf30' (by simp [Value.cells, Value.oneCell']) (by simp [Value.cells, zs12]) ?_
  intro w6 h5 g5
  have hA5 := hA.put (bl' := [(k7, #[.int .u64 0, .int .i64 0, .int .i64 0, .int .i64 0, .int .i64 0, .int .i64 0, .int .i64 0, .int .i64 0, .int .i64 0, .int .i64 0, .int .i64 0, .int .i64 0], 30)]) (.head _) h5 g5 (fun x hx => by
    rcases List.mem_cons.1 hx with rfl | hx
    · exact ⟨.tail _ (.head _), by show k7 ≠ w5.heap.size; simp only at hlt0; omega⟩
    · cases hx)
  have hn0 : k7 ≠ w5.heap.size := by simp only at hlt0; omega
  generalize w5.heap.size = k9 at *
  have Hk9k7 := Lib.hid hn0
  replace HA := Lib.hid hA5
  clear h5 g5 hA hA5 hlt0 hn0
  have c9 : ∀ k, w6.cell? ⟨k9, k, none⟩ = #[.int .u64 id, .int .i64 op, .int .i64 owner, .int .i64 (v 0), .int .i64 (v 1), .int .i64 (v 2), .int .i64 (v 3), .int .i64 (v 4), .int .i64 (v 5), .int .i64 (v 6), .int .i64 (v 7), .int .i64 (v 8)][k]? := fun k => blk_cell (HA.out.keep _ (.head _)).1 k
  go_wp2_with (first
    | (refine Line.Stop.at none (.store 24 (.tmp 36) (.tmp 35)) ?_))
  constructor
  refine Line.put_own rfl rfl 24 (.tmp 36) (.tmp 35) rfl k9 3 rfl (.agg #[.int .i64 0, .int .i64 0, .int .i64 0, .int .i64 0, .int .i64 0, .int .i64 0, .int .i64 0, .int .i64 0, .int .i64 0]) rfl #[.int .u64 id, .int .i64 op, .int .i64 owner, .int .i64 (v 0), .int .i64 (v 1), .int .i64 (v 2), .int .i64 (v 3), .int .i64 (v 4), .int .i64 (v 5), .int .i64 (v 6), .int .i64 (v 7), .int .i64 (v 8)] #[.int .u64 id, .int .i64 op, .int .i64 owner, .int .i64 0, .int .i64 0, .int .i64 0, .int .i64 0, .int .i64 0, .int .i64 0, .int .i64 0, .int .i64 0, .int .i64 0] 30 (HA.out.keep _ (.head _)).1 (by simp [Value.cells]) inf24' (by simp [Value.cells, Value.oneCell']) (by simp [Value.cells]) ?_
  intro w7 h7 g7
  have hA7 := HA.out.put (bl' := [(k7, #[.int .u64 0, .int .i64 0, .int .i64 0, .int .i64 0, .int .i64 0, .int .i64 0, .int .i64 0, .int .i64 0, .int .i64 0, .int .i64 0, .int .i64 0, .int .i64 0], 30)]) (.head _) h7 g7 (fun x hx => by
    rcases List.mem_cons.1 hx with rfl | hx
    · exact ⟨.tail _ (.head _), by show k7 ≠ k9; exact Hk9k7.out⟩
    · cases hx)
  replace HA := Lib.hid hA7
  clear h7 g7 hA7 c9
  have c9 : ∀ k, w7.cell? ⟨k9, k, none⟩ = #[.int .u64 id, .int .i64 op, .int .i64 owner, .int .i64 0, .int .i64 0, .int .i64 0, .int .i64 0, .int .i64 0, .int .i64 0, .int .i64 0, .int .i64 0, .int .i64 0][k]? := fun k => blk_cell (HA.out.keep _ (.head _)).1 k
  have c7 : ∀ k, w7.cell? ⟨k7, k, none⟩ = #[.int .u64 0, .int .i64 0, .int .i64 0, .int .i64 0, .int .i64 0, .int .i64 0, .int .i64 0, .int .i64 0, .int .i64 0, .int .i64 0, .int .i64 0, .int .i64 0][k]? := fun k => blk_cell (HA.out.keep _ (.tail _ (.head _))).1 k
  go_wp2_with fail
  refine (HT.out _).mono ?_
  rintro e w8 ⟨rfl, hb⟩
  replace HA := Lib.hid (HA.out.move hb)
  clear hb
  clear c7 c9 HT
  obtain ⟨yid, yop, yow, yv⟩ := y
  simp only at HY HPY
  go_wp2_with (first
    | (refine Line.Stop.at none (.store 30 (.tmp 10) (.tmp 63)) ?_))
  constructor
  have hA := HA.out.push zs12 30
  refine Line.put_own rfl rfl 30 (.tmp 10) (.tmp 63) rfl w8.heap.size 0 rfl (.agg #[.int .u64 yid, .int .i64 yop, .int .i64 yow, .int .i64 (yv 0), .int .i64 (yv 1), .int .i64 (yv 2), .int .i64 (yv 3), .int .i64 (yv 4), .int .i64 (yv 5), .int .i64 (yv 6), .int .i64 (yv 7), .int .i64 (yv 8)]) rfl zs12 #[.int .u64 yid, .int .i64 yop, .int .i64 yow, .int .i64 (yv 0), .int .i64 (yv 1), .int .i64 (yv 2), .int .i64 (yv 3), .int .i64 (yv 4), .int .i64 (yv 5), .int .i64 (yv 6), .int .i64 (yv 7), .int .i64 (yv 8)] 30 (heap_alloc_last _ _) (by simp [zs12, Value.cells]) inf30' (by simp [Value.cells, Value.oneCell']) (by simp [Value.cells, zs12]) ?_
  intro w9 h5 g5
  have hA5 := hA.put (bl' := []) (.head _) h5 g5 (fun x hx => by
    · cases hx)
  generalize w8.heap.size = k10 at *
  replace HA := Lib.hid hA5
  clear h5 g5 hA hA5 
  by_cases hg : gg = 0
  · subst hg
    have c10 : ∀ k, w9.cell? ⟨k10, k, none⟩ = #[.int .u64 yid, .int .i64 yop, .int .i64 yow, .int .i64 (yv 0), .int .i64 (yv 1), .int .i64 (yv 2), .int .i64 (yv 3), .int .i64 (yv 4), .int .i64 (yv 5), .int .i64 (yv 6), .int .i64 (yv 7), .int .i64 (yv 8)][k]? := fun k => blk_cell (HA.out.keep _ (.head _)).1 k
    have HPB := Lib.hid (HPY.out rfl)
    rw [(HY.out rfl).1, (HY.out rfl).2.2] at HPB
    unfold errB at HPB
    clear HY HPY
    have k5 : (b.toList == b.toList) = true := beq_self_eq_true _
    go_wp2_with fail
    refine (HPB.out _).mono ?_
    rintro e w11 ⟨rfl, hb⟩
    replace HA := Lib.hid (HA.out.move hb)
    clear hb
    clear c10 HPB
    go_wp2_with fail
    refine (Bk.awake_ _).mono ?_
    rintro e w12 ⟨rfl, hb⟩
    replace HA := Lib.hid (HA.out.move hb)
    clear hb
    go_wp2_with fail
    go_ret
    exact ⟨rfl, HA.out.below⟩
  · have k5 : (gg == 0) = false := beq_eq_false_iff_ne.2 hg
    have k6 : decide (gg = 0) = false := decide_eq_false hg
    clear HY HPY hg
    go_wp2_with fail
    refine (Bk.awake_ _).mono ?_
    rintro e w12 ⟨rfl, hb⟩
    replace HA := Lib.hid (HA.out.move hb)
    clear hb
    go_wp2_with fail
    go_ret
    exact ⟨rfl, HA.out.below⟩
theorem AdminBack_walk' (w : World) (o : Order) (ho : Open.WfO o) (b : ByteArray) (hb : b.size ≤ 140737488351232) : Calls Try.prog 4 #[ordV o, .string b] w fun e w' => e = .returned (.bool true) ∧ Below w.heap.size w w' := by
  have hid := u64_wf ho.1
  have hb' : b.size ≤ 9223372036854775807 := by omega
  obtain ⟨id, op, owner, v⟩ := o
  by_cases h1 : op = 1
  · subst h1
    cases hf : formB ⟨id, 1, owner, v⟩
    · exact Back_1_f w id owner v hid hf b hb'
    · exact Back_1_t w id owner v hid hf b hb'
  · by_cases h6 : op = 6
    · subst h6
      cases hf : formB ⟨id, 6, owner, v⟩
      · exact Back_6_f w id owner v hid hf b hb'
      · exact Back_6_t w id owner v hid hf b hb'
    · have hop : ¬ (op = 1 ∨ op = 6) := fun h => h.elim h1 h6
      cases hf : formB ⟨id, op, owner, v⟩
      · exact Back_op_f w id op owner v hid hf hop b hb'
      · exact Back_op_t w id op owner v hid hf hop b hb'

end Go.Proofs.Ytdnhmlpjohojdaa.Rf
