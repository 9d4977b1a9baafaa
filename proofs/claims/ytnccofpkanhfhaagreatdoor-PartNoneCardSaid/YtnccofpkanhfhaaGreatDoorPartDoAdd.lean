/-
  part.Part.Do at the operation Add.
-/
import Derived.Test.YtnccofpkanhfhaaGreatDoorPartExp
set_option linter.unusedVariables false
set_option linter.unusedSimpArgs false
namespace Go.Proofs.YtnccofpkanhfhaaGreatDoor.Part
open Go.RowKit Go.Maps Go.WideMaps Go.Proofs.YtnccofpkanhfhaaGreatDoor.Tab Go.Proofs.YtnccofpkanhfhaaGreatDoor.R Go.Proofs.YtnccofpkanhfhaaGreatDoorW.PrintWords Go.Proofs.YtnccofpkanhfhaaGreatDoorW.PrintLast Go.Proofs.YtnccofpkanhfhaaGreatDoorW.PrintMore
open Go.Proofs.YtnccofpkanhfhaaGreatDoor.Line (Blk)
variable {base bs b4 b6 : Nat} {W : World} {p : PS} {a : AR}
/-- What Add makes of a partition. -/
def RelAdd (p : PS) (a : AR) (p' : PS) : Prop := ∃ b, p' = { p with mc := some b, nc := p.nc + 1, C := tput ks p.C a.name (wrap64 (Counter.val p.C a.name + a.num)), zc := p.zc + Counter.grows p.C a.name }
theorem do_add' (h : PartAt base W bs p) (hc : Caught W bs b4 b6 a) (hz : Zs p) (hn : p.nc < maxLen) (hs : a.name.size ≤ 140737488351232) :
    Calls Tryz.prog 52 #[ptr b4, ptr b6] W fun e w' => e = .returned (.agg #[.string ⟨#[]⟩, .bool false, .int .i64 (wrap64 (Counter.val p.C a.name + a.num))]) ∧ ∃ p', RelAdd p a p' ∧ Turned base W w' bs p p' :=
  (do_add h hc hz hn hs).mono fun e w' ⟨he, b, hb, hp, ht⟩ => ⟨he, _, ⟨b, rfl⟩, hp, ⟨2, _, 1, ht, fun k e => by subst e; exact hb.imp id (fun h => h.2)⟩, fun j k hk => by
    match j, hk with
    | 0, hk => exact .inl hk
    | 1, hk => injection (show some b = some k from hk) with e; subst e; exact hb.imp id (fun h => h.2)
    | 2, hk => exact .inl hk
    | 3, hk => exact .inl hk⟩
set_option maxRecDepth 100000 in
set_option maxHeartbeats 2000000 in
theorem Do_Add_ok0 (h : PartAt base W bs p) (hz : Zs p) (hl : Lg p) (a : AR) (now limit : Int) (hl0 : -9223372036854775808 ≤ limit) (hl1 : limit ≤ 9223372036854775807) (hn : p.nc < maxLen) (hs : a.name.size ≤ 140737488351232) (hg : ¬ 0 < Counter.grows p.C a.name) :
    Calls Tryz.prog 9 #[ptr bs, .int .i64 4, .agg (cellsA a), .int .i64 now, .int .i64 limit] W fun e w' => e = .returned (.tuple #[.agg #[.string ⟨#[]⟩, .bool false, .int .i64 (wrap64 (Counter.val p.C a.name + a.num))], .int .i64 0]) ∧ ∃ p', RelAdd (expd p now) a p' ∧ Dw base W w' bs p' [] := by
  have HZ := Lib.hid hz
  have HL := Lib.hid hl
  have HS := Lib.hid (And.intro hn hs)
  have hD := ((Dw.start h).push (cellsA a) 43).push #[.string ⟨#[]⟩, .bool false, .int .i64 0] 39
  have e1 : (W.alloc (.cells (cellsA a) 43)).heap.size = W.heap.size + 1 := by simp
  rw [e1] at hD
  have hbase : base ≤ W.heap.size := h.base_le
  have HD := Lib.hid hD
  have HBASE := Lib.hid hbase
  obtain ⟨gr, hgr⟩ : ∃ gr, Counter.grows p.C a.name = gr := ⟨_, rfl⟩
  rw [hgr] at hg
  have HGR := Lib.hid hgr
  obtain ⟨rv, hrv⟩ : ∃ rv : Value, rv = .agg #[.string ⟨#[]⟩, .bool false, .int .i64 (wrap64 (Counter.val p.C a.name + a.num))] := ⟨_, rfl⟩
  rw [← hrv]
  have HRV := Lib.hid hrv
  have hg1 : decide (0 < gr) = false := decide_eq_false hg
  clear h hz hl hn hs hD e1 hbase hgr hrv hg
  go_enter Tryz.func9, Tryz.ntmps9
  go_wp2_with fail
  generalize (W.alloc (.cells (cellsA a) 43)).alloc (.cells #[.string ⟨#[]⟩, .bool false, .int .i64 0] 39) = W1 at *
  obtain ⟨g, hge⟩ : ∃ g, g = W.heap.size + 1 := ⟨_, rfl⟩
  rw [← hge] at HD ⊢
  have HGE := Lib.hid hge
  clear hge
  refine (find_add bs a now _).mono ?_
  rintro e w2 ⟨rfl, hca, hb⟩
  have hD2 := ((HD.out.move hb).add HD.out.part hca.c6 (Nat.le_succ _)).add HD.out.part hca.c4 (Nat.le_refl _)
  generalize W1.heap.size + 1 = b6 at *
  generalize W1.heap.size = b4 at *
  replace HD := Lib.hid hD2
  clear hca hb hD2
  go_wp2_with (first
    | (refine Line.Stop.at none (.store 69 (.tmp 12) (.tmp 24)) ?_))
  constructor
  have hD3 := HD.out.push #[.nilFunc, .nilFunc] 69
  have lb4 := HD.out.lt (.head _)
  have lb6 := HD.out.lt (.tail _ (.head _))
  have lg := HD.out.lt (.tail _ (.tail _ (.head _)))
  simp only at lb4 lb6 lg
  refine Line.put_own rfl rfl 69 (.tmp 12) (.tmp 24) rfl w2.heap.size 0 rfl (.agg #[.func (.func 50) #[] #[ptr b4, ptr b6], .func (.func 52) #[] #[ptr b4, ptr b6]]) rfl #[.nilFunc, .nilFunc] #[.func (.func 50) #[] #[ptr b4, ptr b6], .func (.func 52) #[] #[ptr b4, ptr b6]] 69 (heap_alloc_last _ _) (by simp [Value.cells]) inf69 (by simp [Value.cells, Value.oneCell']) (by simp [Value.cells]) ?_
  intro w5 h5 g5
  have hD5 := hD3.put (bl' := [(b4, #[ptr bs], 25), (b6, cellsA a, 43), (g, #[.string ⟨#[]⟩, .bool false, .int .i64 0], 39)]) (.head _) (HD.out.part.base_le) h5 g5 (fun x hx => by
    rcases List.mem_cons.1 hx with rfl | hx
    · exact ⟨(.tail _ (.head _)), by show b4 ≠ _; omega⟩
    · skip
      rcases List.mem_cons.1 hx with rfl | hx
      · exact ⟨(.tail _ (.tail _ (.head _))), by show b6 ≠ _; omega⟩
      · skip
        rcases List.mem_cons.1 hx with rfl | hx
        · exact ⟨(.tail _ (.tail _ (.tail _ (.head _)))), by show g ≠ _; omega⟩
        · skip
          cases hx)
  generalize w2.heap.size = k12 at *
  replace HD := Lib.hid hD5
  clear hD3 hD5 h5 g5 lb4 lb6 lg
  go_wp2_with fail
  refine (Expire_ HD.out.part HZ.out HL.out now).mono ?_
  rintro e w6 ⟨rfl, ht⟩
  replace HD := Lib.hid (HD.out.turned ht)
  clear ht
  have c0 : w6.cell? ⟨k12, 0, none⟩ = some (.func (.func 50) #[] #[ptr b4, ptr b6]) := blk_cell (HD.out.keep _ (.head _)).1 0
  go_wp2_with fail
  refine (grows_add HD.out.part ⟨(HD.out.keep _ (.tail _ (.head _))).1, (HD.out.keep _ (.tail _ (.tail _ (.head _)))).1⟩ HS.out.2).mono ?_
  rintro e w7' ⟨rfl, n7, rfl⟩
  replace HD := Lib.hid (HD.out.move (pw_below_drewN (Below.refl _ _) n7))
  generalize w6.drewN n7 = w7 at *
  clear c0
  rw [show Counter.grows (expd p now).C a.name = gr from HGR.out]
  have c1 : w7.cell? ⟨k12, 1, none⟩ = some (.func (.func 52) #[] #[ptr b4, ptr b6]) := blk_cell (HD.out.keep _ (.head _)).1 1
  go_wp2_with fail
  refine (do_add' HD.out.part ⟨(HD.out.keep _ (.tail _ (.head _))).1, (HD.out.keep _ (.tail _ (.tail _ (.head _)))).1⟩ (HZ.out.expd HL.out now) HS.out.1 HS.out.2).mono ?_
  rintro e w8 ⟨rfl, p', hrel, ht⟩
  have HREL := Lib.hid hrel
  replace HD := Lib.hid (HD.out.turned ht)
  clear ht c1 hrel
  go_wp2_with (first
    | (refine Line.Stop.at none (.store 39 (.tmp 10) (.tmp 55)) ?_))
  constructor
  refine Line.put_own rfl rfl 39 (.tmp 10) (.tmp 55) rfl g 0 rfl (.agg #[.string ⟨#[]⟩, .bool false, .int .i64 (wrap64 (Counter.val p.C a.name + a.num))]) rfl #[.string ⟨#[]⟩, .bool false, .int .i64 0] #[.string ⟨#[]⟩, .bool false, .int .i64 (wrap64 (Counter.val p.C a.name + a.num))] 39 (HD.out.keep _ (.tail _ (.tail _ (.tail _ (.head _))))).1 (by simp [Value.cells]) inf39 (by simp [Value.cells, Value.oneCell']) (by simp [Value.cells]) ?_
  intro w9 h9 g9
  have hD9 := HD.out.put (bl' := []) (.tail _ (.tail _ (.tail _ (.head _)))) (by have := HGE.out; have := HBASE.out; omega) h9 g9 (fun x hx => by cases hx)
  have HF := Lib.hid (And.intro h9 hD9)
  clear h9 g9 hD9
  go_wp2_with fail
  exact bodyPost_ret (results_ct rfl _ _ g 39 _ (0, 0) _ rfl HF.out.1 Tryz.underlying39 rfl inf39) rfl ⟨by rw [HRV.out]; rfl, p', HREL.out, HF.out.2.sub (fun x hx => by cases hx)⟩
set_option maxRecDepth 100000 in
set_option maxHeartbeats 2000000 in
theorem Do_Add_ok1 (h : PartAt base W bs p) (hz : Zs p) (hl : Lg p) (a : AR) (now limit : Int) (hl0 : -9223372036854775808 ≤ limit) (hl1 : limit ≤ 9223372036854775807) (hn : p.nc < maxLen) (hs : a.name.size ≤ 140737488351232) (hg : 0 < Counter.grows p.C a.name) (hg2 : ¬ limit < Counter.grows p.C a.name) (hg3 : ¬ limit - Counter.grows p.C a.name < size (expd p now)) :
    Calls Tryz.prog 9 #[ptr bs, .int .i64 4, .agg (cellsA a), .int .i64 now, .int .i64 limit] W fun e w' => e = .returned (.tuple #[.agg #[.string ⟨#[]⟩, .bool false, .int .i64 (wrap64 (Counter.val p.C a.name + a.num))], .int .i64 0]) ∧ ∃ p', RelAdd (expd p now) a p' ∧ Dw base W w' bs p' [] := by
  have hgle : Counter.grows p.C a.name ≤ 140737488351256 := by unfold Counter.grows; split <;> omega
  have HZ := Lib.hid hz
  have HL := Lib.hid hl
  have HS := Lib.hid (And.intro hn hs)
  have hD := ((Dw.start h).push (cellsA a) 43).push #[.string ⟨#[]⟩, .bool false, .int .i64 0] 39
  have e1 : (W.alloc (.cells (cellsA a) 43)).heap.size = W.heap.size + 1 := by simp
  rw [e1] at hD
  have hbase : base ≤ W.heap.size := h.base_le
  have HD := Lib.hid hD
  have HBASE := Lib.hid hbase
  obtain ⟨gr, hgr⟩ : ∃ gr, Counter.grows p.C a.name = gr := ⟨_, rfl⟩
  rw [hgr] at hg hg2 hg3 hgle
  have HGR := Lib.hid hgr
  obtain ⟨rv, hrv⟩ : ∃ rv : Value, rv = .agg #[.string ⟨#[]⟩, .bool false, .int .i64 (wrap64 (Counter.val p.C a.name + a.num))] := ⟨_, rfl⟩
  rw [← hrv]
  have HRV := Lib.hid hrv
  have HSZ := Lib.hid (fun (W : World) (h : PartAt base W bs (expd p now)) => Size_ h (HZ.out.expd HL.out now))
  generalize size (expd p now) = sz at *
  have hg1 : decide (0 < gr) = true := decide_eq_true hg
  have hg4 : decide (limit < gr) = false := decide_eq_false hg2
  have hw : IntKind.i64.wrap (limit - gr) = limit - gr := IntWalk.i64_in _ (by omega)
  have hg5 : decide (limit - gr < sz) = false := decide_eq_false hg3
  clear h hz hl hn hs hD e1 hbase hgr hrv hg hg3
  go_enter Tryz.func9, Tryz.ntmps9
  go_wp2_with fail
  generalize (W.alloc (.cells (cellsA a) 43)).alloc (.cells #[.string ⟨#[]⟩, .bool false, .int .i64 0] 39) = W1 at *
  obtain ⟨g, hge⟩ : ∃ g, g = W.heap.size + 1 := ⟨_, rfl⟩
  rw [← hge] at HD ⊢
  have HGE := Lib.hid hge
  clear hge
  refine (find_add bs a now _).mono ?_
  rintro e w2 ⟨rfl, hca, hb⟩
  have hD2 := ((HD.out.move hb).add HD.out.part hca.c6 (Nat.le_succ _)).add HD.out.part hca.c4 (Nat.le_refl _)
  generalize W1.heap.size + 1 = b6 at *
  generalize W1.heap.size = b4 at *
  replace HD := Lib.hid hD2
  clear hca hb hD2
  go_wp2_with (first
    | (refine Line.Stop.at none (.store 69 (.tmp 12) (.tmp 24)) ?_))
  constructor
  have hD3 := HD.out.push #[.nilFunc, .nilFunc] 69
  have lb4 := HD.out.lt (.head _)
  have lb6 := HD.out.lt (.tail _ (.head _))
  have lg := HD.out.lt (.tail _ (.tail _ (.head _)))
  simp only at lb4 lb6 lg
  refine Line.put_own rfl rfl 69 (.tmp 12) (.tmp 24) rfl w2.heap.size 0 rfl (.agg #[.func (.func 50) #[] #[ptr b4, ptr b6], .func (.func 52) #[] #[ptr b4, ptr b6]]) rfl #[.nilFunc, .nilFunc] #[.func (.func 50) #[] #[ptr b4, ptr b6], .func (.func 52) #[] #[ptr b4, ptr b6]] 69 (heap_alloc_last _ _) (by simp [Value.cells]) inf69 (by simp [Value.cells, Value.oneCell']) (by simp [Value.cells]) ?_
  intro w5 h5 g5
  have hD5 := hD3.put (bl' := [(b4, #[ptr bs], 25), (b6, cellsA a, 43), (g, #[.string ⟨#[]⟩, .bool false, .int .i64 0], 39)]) (.head _) (HD.out.part.base_le) h5 g5 (fun x hx => by
    rcases List.mem_cons.1 hx with rfl | hx
    · exact ⟨(.tail _ (.head _)), by show b4 ≠ _; omega⟩
    · skip
      rcases List.mem_cons.1 hx with rfl | hx
      · exact ⟨(.tail _ (.tail _ (.head _))), by show b6 ≠ _; omega⟩
      · skip
        rcases List.mem_cons.1 hx with rfl | hx
        · exact ⟨(.tail _ (.tail _ (.tail _ (.head _)))), by show g ≠ _; omega⟩
        · skip
          cases hx)
  generalize w2.heap.size = k12 at *
  replace HD := Lib.hid hD5
  clear hD3 hD5 h5 g5 lb4 lb6 lg
  go_wp2_with fail
  refine (Expire_ HD.out.part HZ.out HL.out now).mono ?_
  rintro e w6 ⟨rfl, ht⟩
  replace HD := Lib.hid (HD.out.turned ht)
  clear ht
  have c0 : w6.cell? ⟨k12, 0, none⟩ = some (.func (.func 50) #[] #[ptr b4, ptr b6]) := blk_cell (HD.out.keep _ (.head _)).1 0
  go_wp2_with fail
  refine (grows_add HD.out.part ⟨(HD.out.keep _ (.tail _ (.head _))).1, (HD.out.keep _ (.tail _ (.tail _ (.head _)))).1⟩ HS.out.2).mono ?_
  rintro e w7' ⟨rfl, n7, rfl⟩
  replace HD := Lib.hid (HD.out.move (pw_below_drewN (Below.refl _ _) n7))
  generalize w6.drewN n7 = w7 at *
  clear c0
  rw [show Counter.grows (expd p now).C a.name = gr from HGR.out]
  go_wp2_with fail
  refine (HSZ.out _ HD.out.part).mono ?_
  rintro e w7' ⟨rfl, n8, rfl⟩
  replace HD := Lib.hid (HD.out.move (pw_below_drewN (Below.refl _ _) n8))
  generalize w7.drewN n8 = w7a at *
  have c1 : w7a.cell? ⟨k12, 1, none⟩ = some (.func (.func 52) #[] #[ptr b4, ptr b6]) := blk_cell (HD.out.keep _ (.head _)).1 1
  go_wp2_with fail
  refine (do_add' HD.out.part ⟨(HD.out.keep _ (.tail _ (.head _))).1, (HD.out.keep _ (.tail _ (.tail _ (.head _)))).1⟩ (HZ.out.expd HL.out now) HS.out.1 HS.out.2).mono ?_
  rintro e w8 ⟨rfl, p', hrel, ht⟩
  have HREL := Lib.hid hrel
  replace HD := Lib.hid (HD.out.turned ht)
  clear ht c1 hrel
  go_wp2_with (first
    | (refine Line.Stop.at none (.store 39 (.tmp 10) (.tmp 55)) ?_))
  constructor
  refine Line.put_own rfl rfl 39 (.tmp 10) (.tmp 55) rfl g 0 rfl (.agg #[.string ⟨#[]⟩, .bool false, .int .i64 (wrap64 (Counter.val p.C a.name + a.num))]) rfl #[.string ⟨#[]⟩, .bool false, .int .i64 0] #[.string ⟨#[]⟩, .bool false, .int .i64 (wrap64 (Counter.val p.C a.name + a.num))] 39 (HD.out.keep _ (.tail _ (.tail _ (.tail _ (.head _))))).1 (by simp [Value.cells]) inf39 (by simp [Value.cells, Value.oneCell']) (by simp [Value.cells]) ?_
  intro w9 h9 g9
  have hD9 := HD.out.put (bl' := []) (.tail _ (.tail _ (.tail _ (.head _)))) (by have := HGE.out; have := HBASE.out; omega) h9 g9 (fun x hx => by cases hx)
  have HF := Lib.hid (And.intro h9 hD9)
  clear h9 g9 hD9
  go_wp2_with fail
  exact bodyPost_ret (results_ct rfl _ _ g 39 _ (0, 0) _ rfl HF.out.1 Tryz.underlying39 rfl inf39) rfl ⟨by rw [HRV.out]; rfl, p', HREL.out, HF.out.2.sub (fun x hx => by cases hx)⟩
set_option maxRecDepth 100000 in
set_option maxHeartbeats 2000000 in
theorem Do_Add_full1 (h : PartAt base W bs p) (hz : Zs p) (hl : Lg p) (a : AR) (now limit : Int) (hl0 : -9223372036854775808 ≤ limit) (hl1 : limit ≤ 9223372036854775807) (hn : p.nc < maxLen) (hs : a.name.size ≤ 140737488351232) (hg : 0 < Counter.grows p.C a.name) (hg2 : limit < Counter.grows p.C a.name) :
    Calls Tryz.prog 9 #[ptr bs, .int .i64 4, .agg (cellsA a), .int .i64 now, .int .i64 limit] W fun e w' => e = .returned (.tuple #[.agg #[.string ⟨#[]⟩, .bool false, .int .i64 0], .int .i64 13]) ∧ Dw base W w' bs (expd p now) [] := by
  have HZ := Lib.hid hz
  have HL := Lib.hid hl
  have HS := Lib.hid (And.intro hn hs)
  have hD := ((Dw.start h).push (cellsA a) 43).push #[.string ⟨#[]⟩, .bool false, .int .i64 0] 39
  have e1 : (W.alloc (.cells (cellsA a) 43)).heap.size = W.heap.size + 1 := by simp
  rw [e1] at hD
  have hbase : base ≤ W.heap.size := h.base_le
  have HD := Lib.hid hD
  have HBASE := Lib.hid hbase
  obtain ⟨gr, hgr⟩ : ∃ gr, Counter.grows p.C a.name = gr := ⟨_, rfl⟩
  rw [hgr] at hg hg2
  have HGR := Lib.hid hgr
  have hg1 : decide (0 < gr) = true := decide_eq_true hg
  have hg4 : decide (limit < gr) = true := decide_eq_true hg2
  clear h hz hl hn hs hD e1 hbase hgr hg hg2
  go_enter Tryz.func9, Tryz.ntmps9
  go_wp2_with fail
  generalize (W.alloc (.cells (cellsA a) 43)).alloc (.cells #[.string ⟨#[]⟩, .bool false, .int .i64 0] 39) = W1 at *
  obtain ⟨g, hge⟩ : ∃ g, g = W.heap.size + 1 := ⟨_, rfl⟩
  rw [← hge] at HD ⊢
  have HGE := Lib.hid hge
  clear hge
  refine (find_add bs a now _).mono ?_
  rintro e w2 ⟨rfl, hca, hb⟩
  have hD2 := ((HD.out.move hb).add HD.out.part hca.c6 (Nat.le_succ _)).add HD.out.part hca.c4 (Nat.le_refl _)
  generalize W1.heap.size + 1 = b6 at *
  generalize W1.heap.size = b4 at *
  replace HD := Lib.hid hD2
  clear hca hb hD2
  go_wp2_with (first
    | (refine Line.Stop.at none (.store 69 (.tmp 12) (.tmp 24)) ?_))
  constructor
  have hD3 := HD.out.push #[.nilFunc, .nilFunc] 69
  have lb4 := HD.out.lt (.head _)
  have lb6 := HD.out.lt (.tail _ (.head _))
  have lg := HD.out.lt (.tail _ (.tail _ (.head _)))
  simp only at lb4 lb6 lg
  refine Line.put_own rfl rfl 69 (.tmp 12) (.tmp 24) rfl w2.heap.size 0 rfl (.agg #[.func (.func 50) #[] #[ptr b4, ptr b6], .func (.func 52) #[] #[ptr b4, ptr b6]]) rfl #[.nilFunc, .nilFunc] #[.func (.func 50) #[] #[ptr b4, ptr b6], .func (.func 52) #[] #[ptr b4, ptr b6]] 69 (heap_alloc_last _ _) (by simp [Value.cells]) inf69 (by simp [Value.cells, Value.oneCell']) (by simp [Value.cells]) ?_
  intro w5 h5 g5
  have hD5 := hD3.put (bl' := [(b4, #[ptr bs], 25), (b6, cellsA a, 43), (g, #[.string ⟨#[]⟩, .bool false, .int .i64 0], 39)]) (.head _) (HD.out.part.base_le) h5 g5 (fun x hx => by
    rcases List.mem_cons.1 hx with rfl | hx
    · exact ⟨(.tail _ (.head _)), by show b4 ≠ _; omega⟩
    · skip
      rcases List.mem_cons.1 hx with rfl | hx
      · exact ⟨(.tail _ (.tail _ (.head _))), by show b6 ≠ _; omega⟩
      · skip
        rcases List.mem_cons.1 hx with rfl | hx
        · exact ⟨(.tail _ (.tail _ (.tail _ (.head _)))), by show g ≠ _; omega⟩
        · skip
          cases hx)
  generalize w2.heap.size = k12 at *
  replace HD := Lib.hid hD5
  clear hD3 hD5 h5 g5 lb4 lb6 lg
  go_wp2_with fail
  refine (Expire_ HD.out.part HZ.out HL.out now).mono ?_
  rintro e w6 ⟨rfl, ht⟩
  replace HD := Lib.hid (HD.out.turned ht)
  clear ht
  have c0 : w6.cell? ⟨k12, 0, none⟩ = some (.func (.func 50) #[] #[ptr b4, ptr b6]) := blk_cell (HD.out.keep _ (.head _)).1 0
  go_wp2_with fail
  refine (grows_add HD.out.part ⟨(HD.out.keep _ (.tail _ (.head _))).1, (HD.out.keep _ (.tail _ (.tail _ (.head _)))).1⟩ HS.out.2).mono ?_
  rintro e w7' ⟨rfl, n7, rfl⟩
  replace HD := Lib.hid (HD.out.move (pw_below_drewN (Below.refl _ _) n7))
  generalize w6.drewN n7 = w7 at *
  clear c0
  rw [show Counter.grows (expd p now).C a.name = gr from HGR.out]
  go_wp2_with (first
    | (refine Line.Stop.at none (.store 39 (.tmp 10) (.tmp 52)) ?_))
  constructor
  refine Line.put_own rfl rfl 39 (.tmp 10) (.tmp 52) rfl g 0 rfl (.agg #[.string ⟨#[]⟩, .bool false, .int .i64 0]) rfl #[.string ⟨#[]⟩, .bool false, .int .i64 0] #[.string ⟨#[]⟩, .bool false, .int .i64 0] 39 (HD.out.keep _ (.tail _ (.tail _ (.tail _ (.head _))))).1 (by simp [Value.cells]) inf39 (by simp [Value.cells, Value.oneCell']) (by simp [Value.cells]) ?_
  intro w9 h9 g9
  have hD9 := HD.out.put (bl' := []) (.tail _ (.tail _ (.tail _ (.head _)))) (by have := HGE.out; have := HBASE.out; omega) h9 g9 (fun x hx => by cases hx)
  have HF := Lib.hid (And.intro h9 hD9)
  clear h9 g9 hD9
  go_wp2_with fail
  exact bodyPost_ret (results_ct rfl _ _ g 39 _ (0, 0) _ rfl HF.out.1 Tryz.underlying39 rfl inf39) rfl ⟨rfl, HF.out.2.sub (fun x hx => by cases hx)⟩
set_option maxRecDepth 100000 in
set_option maxHeartbeats 2000000 in
theorem Do_Add_full2 (h : PartAt base W bs p) (hz : Zs p) (hl : Lg p) (a : AR) (now limit : Int) (hl0 : -9223372036854775808 ≤ limit) (hl1 : limit ≤ 9223372036854775807) (hn : p.nc < maxLen) (hs : a.name.size ≤ 140737488351232) (hg : 0 < Counter.grows p.C a.name) (hg2 : ¬ limit < Counter.grows p.C a.name) (hg3 : limit - Counter.grows p.C a.name < size (expd p now)) :
    Calls Tryz.prog 9 #[ptr bs, .int .i64 4, .agg (cellsA a), .int .i64 now, .int .i64 limit] W fun e w' => e = .returned (.tuple #[.agg #[.string ⟨#[]⟩, .bool false, .int .i64 0], .int .i64 13]) ∧ Dw base W w' bs (expd p now) [] := by
  have hgle : Counter.grows p.C a.name ≤ 140737488351256 := by unfold Counter.grows; split <;> omega
  have HZ := Lib.hid hz
  have HL := Lib.hid hl
  have HS := Lib.hid (And.intro hn hs)
  have hD := ((Dw.start h).push (cellsA a) 43).push #[.string ⟨#[]⟩, .bool false, .int .i64 0] 39
  have e1 : (W.alloc (.cells (cellsA a) 43)).heap.size = W.heap.size + 1 := by simp
  rw [e1] at hD
  have hbase : base ≤ W.heap.size := h.base_le
  have HD := Lib.hid hD
  have HBASE := Lib.hid hbase
  obtain ⟨gr, hgr⟩ : ∃ gr, Counter.grows p.C a.name = gr := ⟨_, rfl⟩
  rw [hgr] at hg hg2 hg3 hgle
  have HGR := Lib.hid hgr
  have HSZ := Lib.hid (fun (W : World) (h : PartAt base W bs (expd p now)) => Size_ h (HZ.out.expd HL.out now))
  generalize size (expd p now) = sz at *
  have hg1 : decide (0 < gr) = true := decide_eq_true hg
  have hg4 : decide (limit < gr) = false := decide_eq_false hg2
  have hw : IntKind.i64.wrap (limit - gr) = limit - gr := IntWalk.i64_in _ (by omega)
  have hg5 : decide (limit - gr < sz) = true := decide_eq_true hg3
  clear h hz hl hn hs hD e1 hbase hgr hg hg3
  go_enter Tryz.func9, Tryz.ntmps9
  go_wp2_with fail
  generalize (W.alloc (.cells (cellsA a) 43)).alloc (.cells #[.string ⟨#[]⟩, .bool false, .int .i64 0] 39) = W1 at *
  obtain ⟨g, hge⟩ : ∃ g, g = W.heap.size + 1 := ⟨_, rfl⟩
  rw [← hge] at HD ⊢
  have HGE := Lib.hid hge
  clear hge
  refine (find_add bs a now _).mono ?_
  rintro e w2 ⟨rfl, hca, hb⟩
  have hD2 := ((HD.out.move hb).add HD.out.part hca.c6 (Nat.le_succ _)).add HD.out.part hca.c4 (Nat.le_refl _)
  generalize W1.heap.size + 1 = b6 at *
  generalize W1.heap.size = b4 at *
  replace HD := Lib.hid hD2
  clear hca hb hD2
  go_wp2_with (first
    | (refine Line.Stop.at none (.store 69 (.tmp 12) (.tmp 24)) ?_))
  constructor
  have hD3 := HD.out.push #[.nilFunc, .nilFunc] 69
  have lb4 := HD.out.lt (.head _)
  have lb6 := HD.out.lt (.tail _ (.head _))
  have lg := HD.out.lt (.tail _ (.tail _ (.head _)))
  simp only at lb4 lb6 lg
  refine Line.put_own rfl rfl 69 (.tmp 12) (.tmp 24) rfl w2.heap.size 0 rfl (.agg #[.func (.func 50) #[] #[ptr b4, ptr b6], .func (.func 52) #[] #[ptr b4, ptr b6]]) rfl #[.nilFunc, .nilFunc] #[.func (.func 50) #[] #[ptr b4, ptr b6], .func (.func 52) #[] #[ptr b4, ptr b6]] 69 (heap_alloc_last _ _) (by simp [Value.cells]) inf69 (by simp [Value.cells, Value.oneCell']) (by simp [Value.cells]) ?_
  intro w5 h5 g5
  have hD5 := hD3.put (bl' := [(b4, #[ptr bs], 25), (b6, cellsA a, 43), (g, #[.string ⟨#[]⟩, .bool false, .int .i64 0], 39)]) (.head _) (HD.out.part.base_le) h5 g5 (fun x hx => by
    rcases List.mem_cons.1 hx with rfl | hx
    · exact ⟨(.tail _ (.head _)), by show b4 ≠ _; omega⟩
    · skip
      rcases List.mem_cons.1 hx with rfl | hx
      · exact ⟨(.tail _ (.tail _ (.head _))), by show b6 ≠ _; omega⟩
      · skip
        rcases List.mem_cons.1 hx with rfl | hx
        · exact ⟨(.tail _ (.tail _ (.tail _ (.head _)))), by show g ≠ _; omega⟩
        · skip
          cases hx)
  generalize w2.heap.size = k12 at *
  replace HD := Lib.hid hD5
  clear hD3 hD5 h5 g5 lb4 lb6 lg
  go_wp2_with fail
  refine (Expire_ HD.out.part HZ.out HL.out now).mono ?_
  rintro e w6 ⟨rfl, ht⟩
  replace HD := Lib.hid (HD.out.turned ht)
  clear ht
  have c0 : w6.cell? ⟨k12, 0, none⟩ = some (.func (.func 50) #[] #[ptr b4, ptr b6]) := blk_cell (HD.out.keep _ (.head _)).1 0
  go_wp2_with fail
  refine (grows_add HD.out.part ⟨(HD.out.keep _ (.tail _ (.head _))).1, (HD.out.keep _ (.tail _ (.tail _ (.head _)))).1⟩ HS.out.2).mono ?_
  rintro e w7' ⟨rfl, n7, rfl⟩
  replace HD := Lib.hid (HD.out.move (pw_below_drewN (Below.refl _ _) n7))
  generalize w6.drewN n7 = w7 at *
  clear c0
  rw [show Counter.grows (expd p now).C a.name = gr from HGR.out]
  go_wp2_with fail
  refine (HSZ.out _ HD.out.part).mono ?_
  rintro e w7' ⟨rfl, n8, rfl⟩
  replace HD := Lib.hid (HD.out.move (pw_below_drewN (Below.refl _ _) n8))
  generalize w7.drewN n8 = w7a at *
  go_wp2_with (first
    | (refine Line.Stop.at none (.store 39 (.tmp 10) (.tmp 52)) ?_))
  constructor
  refine Line.put_own rfl rfl 39 (.tmp 10) (.tmp 52) rfl g 0 rfl (.agg #[.string ⟨#[]⟩, .bool false, .int .i64 0]) rfl #[.string ⟨#[]⟩, .bool false, .int .i64 0] #[.string ⟨#[]⟩, .bool false, .int .i64 0] 39 (HD.out.keep _ (.tail _ (.tail _ (.tail _ (.head _))))).1 (by simp [Value.cells]) inf39 (by simp [Value.cells, Value.oneCell']) (by simp [Value.cells]) ?_
  intro w9 h9 g9
  have hD9 := HD.out.put (bl' := []) (.tail _ (.tail _ (.tail _ (.head _)))) (by have := HGE.out; have := HBASE.out; omega) h9 g9 (fun x hx => by cases hx)
  have HF := Lib.hid (And.intro h9 hD9)
  clear h9 g9 hD9
  go_wp2_with fail
  exact bodyPost_ret (results_ct rfl _ _ g 39 _ (0, 0) _ rfl HF.out.1 Tryz.underlying39 rfl inf39) rfl ⟨rfl, HF.out.2.sub (fun x hx => by cases hx)⟩
end Go.Proofs.YtnccofpkanhfhaaGreatDoor.Part
