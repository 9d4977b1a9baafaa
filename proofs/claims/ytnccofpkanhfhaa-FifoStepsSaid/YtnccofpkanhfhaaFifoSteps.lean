/-
  concourselaw28.FifoSteps: the walk.
-/
import Derived.Test.YtnccofpkanhfhaaFifoPure
import Derived.Test.YtnccofpkanhfhaaSteps
import Derived.Test.YtnccofpkanhfhaaTexts
import Derived.Deep.RegionHeld3
import Derived.Deep.DrawnRows
import Derived.Outline
set_option linter.unusedVariables false
set_option linter.unusedSimpArgs false
namespace Go.Proofs.Ytnccofpkanhfhaa.Fifo
open Go.RowKit Go.Maps Go.WideMaps Go.Proofs.Ytnccofpkanhfhaa.Tab Go.Proofs.Ytnccofpkanhfhaa.Pure Go.Proofs.Ytnccofpkanhfhaa.R Go.Proofs.Ytnccofpkanhfhaa.Texts Go.Proofs.YtnccofpkanhfhaaW.PrintWords Go.Proofs.YtnccofpkanhfhaaW.PrintMore
abbrev Step := S50
/-- A hall, and the document's rows. -/
structure St (w wr : World) (bs : Nat) (mb : Option Nat) (n : Nat) (M : Tabl) (R : List Row) (v : Value) : Prop where
  sg : Sg 20000 w wr bs mb n M
  rows : Kd.R k71 71 wr w.heap.size (fun k => ¬ own bs mb M k) v R
  rel : ∀ u, at_ M u = under R u
  tot : Fifo.tot M = rtot R
  len : R.length ≤ n
section
variable {w wr w' : World} {bs n : Nat} {mb : Option Nat} {M : Tabl} {R : List Row} {v : Value}
theorem St.move (h : St w wr bs mb n M R v) (hb : Below wr.heap.size wr w') : St w w' bs mb n M R v := ⟨h.sg.move hb, Kd.R_below h.rows hb, h.rel, h.tot, h.len⟩
theorem St.drew (h : St w wr bs mb n M R v) : St w wr.drew bs mb n M R v := ⟨h.sg.drew, Kd.R_drew h.rows, h.rel, h.tot, h.len⟩
theorem St.mono (h : St w wr bs mb n M R v) {m : Nat} (hm : n ≤ m) : St w wr bs mb m M R v := ⟨h.sg.mono hm, h.rows, h.rel, h.tot, Nat.le_trans h.len hm⟩
theorem St.slice (h : St w wr bs mb n M R v) : ∃ A c, v = .slice A R.length c ∧ R.length ≤ c ∧ Kd.C k71 wr A R.length R := Kd.R_reads h.rows
theorem St.names_mem (h : St w wr bs mb n M R v) (u : ByteArray) : u ∈ M.map (fun p => p.1) ↔ u ∈ R.map (fun x => x.f0) := by
  rw [keys_at h.sg, mem_under, h.rel]
theorem St.grows (h : St w wr bs mb n M R v) {s t : ByteArray} (hs : s.size ≤ 20000) (ht : t.size ≤ 20000) :
    Calls Try.prog 42 #[.pointer (some ⟨bs, 0, none⟩), .string s, .string t] wr fun e w' => e = .returned (.int .i64 (Fifo.grows M s t)) ∧ w' = wr := h.sg.grows (by omega) (by omega)
theorem St.refSizeB (h : St w wr bs mb n M R v) (hn : n ≤ 200) :
    Calls Try.prog 43 #[v] wr fun e w' => e = .returned (.int .i64 (Fifo.tot M + nm M)) ∧ Below wr.heap.size wr w' := by
  obtain ⟨A, c, rfl, hl, hr⟩ := h.slice
  have hlen := h.len
  have hml := h.sg.len
  have hz := (h.sg.sz (by omega) (by omega)).2
  have ht := h.tot
  have hnm := nm_sum M
  obtain ⟨k, hk⟩ := size_ok R (M.map fun p => p.1) (rising_lt h.sg.rising) h.names_mem (by omega) (by rw [List.length_map]; omega) (by omega)
  rw [← ht, ← hnm] at hk
  exact concourseref28_Size.calls k A c _ _ wr hr hl hk
theorem St.refSize (h : St w wr bs mb n M R v) (hn : n ≤ 200) :
    Calls Try.prog 43 #[v] wr fun e w' => e = .returned (.int .i64 (Fifo.tot M + nm M)) ∧ St w w' bs mb n M R v :=
  (h.refSizeB hn).mono fun e w' ⟨he, hd⟩ => ⟨he, h.move hd⟩
/-- The size of the rows and one more. -/
theorem St.moreSize (h : St w wr bs mb n M R v) (hn : n ≤ 200) {s t : ByteArray} (hs : s.size ≤ 20000) (ht : t.size ≤ 20000) {base : Nat} {ok : Nat → Prop} {v' : Value} (hv : Kd.R k71 71 wr base ok v' (R ++ [⟨s, t⟩])) :
    Calls Try.prog 43 #[v'] wr fun e w' => e = .returned (.int .i64 (Fifo.tot M + nm M + Fifo.grows M s t)) ∧ Below wr.heap.size wr w' := by
  obtain ⟨A, c, rfl, hl, hr⟩ := Kd.R_reads hv
  have hlen := h.len
  have hml := h.sg.len
  have hz := (h.sg.sz (by omega) (by omega)).2
  have htt := h.tot
  have hnp : nm (tput ks M s ⟨0, none, []⟩) = nm M + (if (tlook ks M s).isSome then 0 else 16 + s.size) := nm_put h.sg.rising
  have hrt := rtot_snoc R ⟨s, t⟩
  simp only at hrt
  have hgr : Fifo.grows M s t = 16 + (t.size : Int) + (if (tlook ks M s).isSome then 0 else 16 + s.size) := rfl
  have hg := (grows_bd M s t).2
  have hnm := nm_sum (tput ks M s ⟨0, none, []⟩)
  have hlp : (tput ks M s (⟨0, none, []⟩ : Q)).length ≤ n + 1 := by
    unfold tput
    rw [length_tins]
    have : (tdel ks M s).length ≤ M.length := List.length_filter_le _ _
    omega
  obtain ⟨k, hk⟩ := size_ok (R ++ [⟨s, t⟩]) ((tput ks M s ⟨0, none, []⟩).map fun p => p.1) (rising_lt (rising_tput h.sg.rising _ _)) (fun u => by rw [mem_keys_tput, h.names_mem]; simp [or_comm]) (by simp; omega) (by rw [List.length_map]; omega) (by omega)
  rw [show rtot (R ++ [⟨s, t⟩]) + sumN ((tput ks M s (⟨0, none, []⟩ : Q)).map fun p => p.1) = Fifo.tot M + nm M + Fifo.grows M s t by omega] at hk
  exact concourseref28_Size.calls k A c _ _ wr hr hl hk
theorem St.waits (h : St w wr bs mb n M R v) {s : ByteArray} (hs : s.size ≤ 20000) :
    Calls Try.prog 48 #[.pointer (some ⟨bs, 0, none⟩), .string s] wr fun e w' => e = .returned (.int .i64 (under R s).length) ∧ w' = wr := by
  have := h.sg.waits (s := s) (by omega)
  rwa [h.rel] at this
theorem St.refWaits (h : St w wr bs mb n M R v) (hn : n ≤ 200) (s : ByteArray) :
    Calls Try.prog 49 #[v, .string s] wr fun e w' => e = .returned (.int .i64 (under R s).length) ∧ St w w' bs mb n M R v := by
  obtain ⟨A, c, rfl, hl, hr⟩ := h.slice
  have hlen := h.len
  obtain ⟨k, hk⟩ := waits_ok R s (by omega)
  exact (concourseref28_Waits.calls k A c _ s _ wr hr hl hk).mono fun e w' ⟨he, hd⟩ => ⟨he, h.move hd.below⟩
theorem St.names (h : St w wr bs mb n M R v) (hn : n ≤ 200) :
    Calls Try.prog 50 #[.pointer (some ⟨bs, 0, none⟩)] wr fun e w' => ∃ A c, e = .returned (.slice A M.length c) ∧ (M.map fun p => p.1).length ≤ c ∧ Kd.C Kd.string w' A (M.map fun p => p.1).length (M.map fun p => p.1) ∧ Below wr.heap.size wr w' := h.sg.names (by omega)
theorem St.refNames (h : St w wr bs mb n M R v) (hn : n ≤ 200) :
    Calls Try.prog 51 #[v] wr fun e w' => ∃ A c, e = .returned (.slice A M.length c) ∧ (M.map fun p => p.1).length ≤ c ∧ Kd.C Kd.string w' A (M.map fun p => p.1).length (M.map fun p => p.1) ∧ Below wr.heap.size wr w' := by
  obtain ⟨A, c, rfl, hl, hr⟩ := h.slice
  have hlen := h.len
  have hml := h.sg.len
  obtain ⟨K, hK⟩ := names_ev R (M.map fun p => p.1) (rising_lt h.sg.rising) h.names_mem (by omega) (by rw [List.length_map]; omega)
  refine (concourseref28_Names.calls K A c _ _ wr hr hl (hK K (Nat.le_refl _))).mono ?_
  rintro e w' ⟨v', rfl, hv, hb⟩
  obtain ⟨A', c', rfl, hl', hr'⟩ := Kd.R_reads hv
  exact ⟨A', c', by rw [List.length_map], hl', hr', hb⟩
/-- The hall turns: rows that are not its own stay. -/
theorem turned {M' : Tabl} {mb' : Option Nat} {v' : Value} {R' : List Row} {base : Nat} (hv : Kd.R k71 71 wr base (fun k => ¬ own bs mb M k) v' R') (ht : Touch wr w' (own bs mb M)) (ho : ∀ k, own bs mb' M' k → own bs mb M k ∨ wr.heap.size ≤ k) : Kd.R k71 71 w' base (fun k => ¬ own bs mb' M' k) v' R' :=
  Kd.R_mono (Kd.R_step (Kd.R_bound hv) (fun k hk hlt => ht.block k hlt hk.1)) (fun k hk h' => by
    rcases ho k h' with h1 | h1
    · exact hk.1 h1
    · have := hk.2.2.1; omega)
theorem St.fresh (h : St w wr bs mb n M R v) {v' : Value} {R' : List Row} (hv : Kd.R k71 71 w' wr.heap.size (fun _ => True) v' R') : Kd.R k71 71 w' w.heap.size (fun k => ¬ own bs mb M k) v' R' :=
  Kd.R_lower (Kd.R_mono (Kd.R_bound hv) (fun k hk h' => by have := h.sg.hall.own_lt h'; have := hk.2.1; omega)) h.sg.below.size
theorem St.push (h : St w wr bs mb n M R v) (hn : n ≤ 200) {s t : ByteArray} (hs : s.size ≤ 20000) (ht : t.size ≤ 20000) {v' : Value} (hv : Kd.R k71 71 wr w.heap.size (fun k => ¬ own bs mb M k) v' (R ++ [⟨s, t⟩])) :
    Calls Try.prog 44 #[.pointer (some ⟨bs, 0, none⟩), .string s, .string t] wr fun e w' => e = .returned (.tuple #[]) ∧ ∃ b M', St w w' bs (some b) (n + 1) M' (R ++ [⟨s, t⟩]) v' := by
  refine (h.sg.push (by omega) (by omega) hs ht).mono ?_
  rintro e w' ⟨rfl, b, M', hg, ha, htt, hto, ho⟩
  refine ⟨rfl, b, M', hg, turned hv hto ho, fun u => ?_, ?_, ?_⟩
  · rw [ha, under_snoc]
    by_cases e : u = s
    · rw [if_pos e, if_pos e, e, h.rel]
    · rw [if_neg e, if_neg e, h.rel]
  · rw [htt, rtot_snoc, h.tot]
  · have := h.len; simp; omega
/-- A pop that finds nothing; one that takes the first one. -/
theorem St.pop_none (h : St w wr bs mb n M R v) {s : ByteArray} (hs : s.size ≤ 20000) (hno : ∀ i (h : i < R.length), R[i].f0 ≠ s) :
    Calls Try.prog 45 #[.pointer (some ⟨bs, 0, none⟩), .string s] wr fun e w' => e = .returned (.tuple #[.string ⟨#[]⟩, .bool false]) ∧ w' = wr :=
  h.sg.pop_none (by omega) (by rw [h.rel, under_none hno])
theorem St.refPop_none (h : St w wr bs mb n M R v) (hn : n ≤ 200) {s : ByteArray} (hno : ∀ i (h : i < R.length), R[i].f0 ≠ s) :
    Calls Try.prog 46 #[v, .string s] wr fun e w' => e = .returned (.tuple #[v, .string ⟨#[]⟩, .bool false]) ∧ St w w' bs mb n M R v := by
  obtain ⟨A, c, rfl, hl, hr⟩ := h.slice
  have hlen := h.len
  exact (RefPop.miss wr A c R s hr hl (by omega) hno).mono fun e w' ⟨he, hb⟩ => ⟨he, h.move hb⟩
/-- Between the two pops: the hall has turned, the rows not yet. -/
structure Mid (w wr : World) (bs : Nat) (mb : Option Nat) (n : Nat) (M : Tabl) (R R' : List Row) (v : Value) : Prop where
  sg : Sg 20000 w wr bs mb n M
  rows : Kd.R k71 71 wr w.heap.size (fun k => ¬ own bs mb M k) v R
  rel : ∀ u, at_ M u = under R' u
  tot : Fifo.tot M = rtot R'
  len : R.length ≤ n
  len' : R'.length ≤ n
theorem St.pop (h : St w wr bs mb n M R v) (hn : n ≤ 200) {j : Nat} (hj : j < R.length) (hno : ∀ i (h : i < R.length), i < j → R[i].f0 ≠ R[j].f0) :
    Calls Try.prog 45 #[.pointer (some ⟨bs, 0, none⟩), .string R[j].f0] wr fun e w' => e = .returned (.tuple #[.string R[j].f1, .bool true]) ∧ ∃ M', Mid w w' bs mb n M' R (R.take j ++ R.drop (j + 1)) v := by
  have hu := fun u => under_split hj hno u
  refine (h.sg.pop_some (by omega) (by omega) (s := R[j].f0) (by rw [h.rel]; exact (hu R[j].f0).1)).mono ?_
  rintro e w' ⟨rfl, M', hg, ha, htt, hto, ho⟩
  refine ⟨rfl, M', hg, turned h.rows hto ho, fun u => ?_, ?_, h.len, ?_⟩
  · rw [ha]
    by_cases e : u = R[j].f0
    · rw [if_pos e, e]
    · rw [if_neg e, h.rel, (hu u).2 e]
  · rw [htt, rtot_split hj, h.tot]
  · have := h.len
    rw [List.length_append, List.length_take, List.length_drop]
    omega
theorem Mid.refPop {R' : List Row} (h : Mid w wr bs mb n M R R' v) (hn : n ≤ 200) {j : Nat} (hj : j < R.length) (hno : ∀ i (h : i < R.length), i < j → R[i].f0 ≠ R[j].f0) (hR : R' = R.take j ++ R.drop (j + 1)) :
    Calls Try.prog 46 #[v, .string R[j].f0] wr fun e w' => ∃ v', e = .returned (.tuple #[v', .string R[j].f1, .bool true]) ∧ St w w' bs mb n M R' v' := by
  obtain ⟨A, c, rfl, hl, hr⟩ := Kd.R_reads h.rows
  have hlen := h.len
  refine (RefPop.hit wr A c R R[j].f0 hr hl (by omega) j hj rfl hno).mono ?_
  rintro e w' ⟨v', rfl, hv, hb⟩
  rw [← hR] at hv
  refine ⟨v', rfl, h.sg.move hb, Kd.R_lower (Kd.R_mono (Kd.R_bound hv) (fun k hk h' => ?_)) h.sg.below.size, h.rel, h.tot, h.len'⟩
  have := h.sg.hall.own_lt h'
  have := hk.2.1
  omega
end
set_option maxRecDepth 100000 in
set_option maxHeartbeats 4000000 in
theorem FifoSteps_walk (w : World) (A : Option Addr) (c : Nat) (l : List Step) (hr : Kd.C k50 w A l.length l) (hc : l.length ≤ c) (hq0 : ∀ x ∈ l, (Lit.int .i64 x.f0).wf = true ∧ x.f1.size ≤ 140737488351232 ∧ x.f2.size ≤ 140737488351232) (hlen : l.length * 40 ≤ 140737488351232) :
    Calls Try.prog 9 #[.slice A l.length c] w fun e w' => e = .returned (.bool true) ∧ Below w.heap.size w w' := by
  have hq := fun x hx => (hq0 x hx).2
  clear hq0
  obtain ⟨r, hm1, hm2⟩ := Steps.much_ok l hq (by omega)
  have hM := hid (concourselaw26_Much.calls _ A c l r w hr hc hm1)
  have HR := hid hr
  clear hq
  have HM2 := hid hm2
  clear hr hm1 hm2
  go_enter Try.func9, Try.ntmps9
  go_wp2_with fail
  refine hM.out.mono ?_
  rintro e w1 ⟨rfl, hb1⟩
  cases r with
  | true =>
    go_wp2_with (go_at_call 40; refine (awake _).mono ?_; rintro e w' ⟨rfl, hB⟩)
    go_ret
    exact ⟨rfl, hb1.trans (hB.mono hb1.size)⟩
  | false =>
    obtain ⟨h200, hsm⟩ := HM2.out rfl
    clear HM2 hM
    by_cases h80 : (80 : Int) < (l.length : Int)
    · clear hsm h200
      go_wp2_with (go_at_call 40; refine (awake _).mono ?_; rintro e w' ⟨rfl, hB⟩)
      go_ret
      exact ⟨rfl, hb1.trans (hB.mono hb1.size)⟩
    have hC := hid hc
    have HS := hid hsm
    clear hc hsm
    have S0 := hid (Sg.made 20000 w w1 hb1)
    go_wp2_with (go_at_call 41; refine (New _).mono ?_; rintro e w' ⟨rfl, rfl⟩)
    generalize w1.heap.size = bs at *
    generalize w1.alloc (.cells #[.map none, .int .i64 0] 79) = W0 at *
    have T0 := hid (show St w W0 bs none 0 [] [] (.slice none 0 0) from ⟨S0.out, Kd.R_nil _ _ _ _ _, fun u => rfl, rfl, Nat.le_refl _⟩)
    clear S0 hb1
    have h80n : l.length ≤ 80 := by omega
    go_loopw [4, 5] (fun v0 v1 wr => ∃ (i : Nat) (mb : Option Nat) (M : Tabl) (R : List Row), i ≤ l.length ∧ v1 = .int .i64 i ∧ Hid (St w wr bs mb i M R v0)) (fun v0 v1 _ => l.length - (intOf v1).toNat)
    case atStart => exact ⟨0, none, [], [], Nat.zero_le _, rfl, T0⟩
    case round =>
      clear T0
      obtain ⟨i, mb, M, R, hil, rfl, HI⟩ := hrel
      by_cases hlt : i < l.length
      · obtain ⟨ad, ead, hx0, hx1, hx2⟩ := at_T50 (Kd.C_below HR.out HI.out.sg.below) (i : Int) (by omega) (by omega)
        have hxs := HS.out _ (show rd_T50 l (i : Int) ∈ l by rw [Steps.rd_step]; simp [List.getD_eq_getElem?_getD, List.getElem?_eq_getElem hlt])
        obtain ⟨x, HX⟩ : ∃ x, Hid (rd_T50 l (i : Int) = x) := ⟨_, hid rfl⟩
        rw [HX.out] at hx0 hx1 hx2 hxs
        rw [Int.toNat_natCast] at hx0 hx1 hx2
        subst ead
        have hi0 : (0 : Int) ≤ (i : Int) := by omega
        have hic : (i : Int) < (l.length : Int) := by omega
        go_wp2_with fail
        go_region_held3 (fun w' => w'.cell? ⟨(ad.add (i * 3)).block, (ad.add (i * 3)).off + 1, none⟩ = some (.string x.f1) ∧ w'.cell? ⟨(ad.add (i * 3)).block, (ad.add (i * 3)).off + 2, none⟩ = some (.string x.f2)) (first | exact ⟨hx1, hx2⟩ | go_keep) (fail)
        clear hx0 hx1 hx2
        have hS := HI.out.drew
        clear HI
        generalize wr.drew = wr at *
        obtain ⟨hk, hv⟩ := hxs
        have hi2 : i ≤ 200 := by omega
        obtain ⟨Ar, cr, hvs, hrl, hrr⟩ := hS.slice
        subst hvs
        have HSS := hid hS
        have HRR := hid hrr
        clear hS hrr
        have HR0 := hid (show Kd.R k71 71 (wr.alloc (.cells #[] 71)) wr.heap.size (fun _ => True) (.slice (some ⟨wr.heap.size, 0, none⟩) 0 0) ([] : List Row) from
          ⟨fun _ _ => trivial, [], World.ownsRow_lit wr #[] 0 (Nat.le_refl _) (by unfold maxLen; omega) rfl, Reps.none _ _⟩)
        have HB0 := hid (show Below wr.heap.size wr (wr.alloc (.cells #[] 71)) from (Below.refl _ _).alloc (Nat.le_refl _) _)
        have hRl : R.length ≤ 200 := by have := HSS.out.len; omega
        go_wp2_with (first
          | (at_builtin; refine Kd.R_append_rows k71 (w0 := wr) wr.heap.size rfl (.tmp 39) (.tmp 40) 69 71 (.agg #[(.string ⟨#[]⟩), (.string ⟨#[]⟩)]) 32 rfl Try.underlying69 info71 rfl (by decide) (by omega) (.slice (some ⟨wr.heap.size, 0, none⟩) 0 0) [] R Ar R.length cr (fun _ => True) (fun _ => False) rfl rfl HR0.out (Kd.C_below HRR.out HB0.out) (fun _ _ h => h) (fun _ h => h.elim) (fun _ _ => trivial) HB0.out HB0.out.size (by simp; omega) ?_; intro v1 w2 ho1 hb1 hg1 hat1; have HO1 := hid ho1; have HB1 := hid hb1; clear ho1 hb1 hg1 hat1; go_frame)
          | (at_builtin; refine Kd.R_append k71 (w0 := wr) wr.heap.size rfl (.tmp 41) (.tmp 45) 69 71 (.agg #[(.string ⟨#[]⟩), (.string ⟨#[]⟩)]) 32 rfl Try.underlying69 info71 rfl (by decide) (by omega) v1 R (⟨x.f1, x.f2⟩ : S71) [.string x.f1, .string x.f2] (fun _ => True) (fun _ => False) rfl rfl ?aP (fun _ hk => hk.elim) (fun _ _ => trivial) HO1.out HB1.out HB1.out.size (by omega) ?_; (case aP => exact k71_mkM _ _ _ (⟨x.f1, x.f2⟩ : S71)); intro v2 w3 ho2 hb2 hg2 hat2; have HO2 := hid ho2; have HB2 := hid hb2; clear ho2 hb2 hg2 hat2; go_frame))
        have hS := HSS.out.move HB2.out
        have hV := hid (HSS.out.fresh HO2.out)
        clear HO1 HB1 HO2 HB2 HR0 HB0 HRR HSS hrl
        have hi3 : i + 1 ≤ 200 := by omega
        have hgw : IntKind.i64.wrap (Fifo.tot M + nm M + Fifo.grows M x.f1 x.f2 - (Fifo.tot M + nm M)) = Fifo.grows M x.f1 x.f2 := by
          have := grows_bd M x.f1 x.f2
          rw [IntWalk.i64_in _ (by omega)]
          omega
        refine (hS.grows hk hv).mono ?_
        rintro e w' ⟨rfl, rfl⟩
        go_wp2_with fail
        refine (hS.moreSize hi2 hk hv hV.out).mono ?_
        rintro e w4 ⟨rfl, hb4⟩
        replace hV := hid (Kd.R_below hV.out hb4)
        replace hS := hS.move hb4
        clear hb4
        go_wp2_with fail
        refine (hS.refSizeB hi2).mono ?_
        rintro e w5 ⟨rfl, hb5⟩
        replace hV := hid (Kd.R_below hV.out hb5)
        replace hS := hS.move hb5
        clear hb5
        obtain ⟨ad', ead', hy0, _, _⟩ := at_T50 (Kd.C_below HR.out hS.sg.below) (i : Int) (by omega) (by omega)
        obtain rfl : ad = ad' := by injection ead'
        rw [HX.out, Int.toNat_natCast] at hy0
        by_cases e1 : x.f0 = 1
        · rw [e1] at hy0
          go_wp2_with fail
          refine (hS.push hi2 hk hv hV.out).mono ?_
          rintro e w8 ⟨rfl, b, M8, h8⟩
          obtain ⟨mb2, M2, R2, hS2⟩ : ∃ mb2 M2 R2, St w w8 bs mb2 (i + 1) M2 R2 v2 := ⟨_, _, _, h8⟩
          clear h8 hS hgw hV
          go_wp2_with fail
          refine hS2.sg.size_.mono ?_
          rintro e w' ⟨rfl, rfl⟩
          go_wp2_with fail
          refine (hS2.refSize hi3).mono ?_
          rintro e w10 ⟨rfl, h10⟩
          clear hS2
          go_wp2_with fail
          refine (h10.waits hk).mono ?_
          rintro e w' ⟨rfl, rfl⟩
          go_wp2_with fail
          refine (h10.refWaits hi3 x.f1).mono ?_
          rintro e w10b ⟨rfl, h10b⟩
          replace h10 := h10b
          clear h10b
          go_wp2_with fail
          refine (h10.names hi3).mono ?_
          rintro e w11 ⟨A11, c11, rfl, hl11, hr11, hb11⟩
          replace h10 := h10.move hb11
          go_wp2_with fail
          refine (h10.refNames hi3).mono ?_
          rintro e w12 ⟨A12, c12, rfl, hl12, hr12, hb12⟩
          replace hr11 := Kd.C_below hr11 hb12
          replace h10 := h10.move hb12
          have hMl : (M2.map fun p => p.1).length ≤ 8796093022207 := by have := h10.sg.len; rw [List.length_map]; omega
          go_wp2_with fail
          refine (Texts_same hr11 hl11 hr12 hl12 hMl (List.length_map _) (List.length_map _)).mono ?_
          rintro e w13 ⟨rfl, hb13⟩
          replace h10 := h10.move hb13
          clear hr11 hl11 hr12 hl12 hMl
          go_wp2_with fail
          go_roundw
          case rel => exact ⟨i + 1, mb2, M2, R2, by omega, by go_num, hid h10⟩
          case measure => simp [intOf]; omega
        · rcases first_of R x.f1 with hno | ⟨j, hj, hjs, hno⟩
          · go_wp2_with fail
            refine (hS.pop_none hk hno).mono ?_
            rintro e w' ⟨rfl, rfl⟩
            go_wp2_with fail
            refine (hS.refPop_none hi2 hno).mono ?_
            rintro e w8 ⟨rfl, h8⟩
            obtain ⟨mb2, M2, R2, hS2⟩ : ∃ mb2 M2 R2, St w w8 bs mb2 (i + 1) M2 R2 (.slice Ar R.length cr) := ⟨_, _, _, h8.mono (by omega)⟩
            clear h8 hS hgw hV hno
            go_wp2_with fail
            refine hS2.sg.size_.mono ?_
            rintro e w' ⟨rfl, rfl⟩
            go_wp2_with fail
            refine (hS2.refSize hi3).mono ?_
            rintro e w10 ⟨rfl, h10⟩
            clear hS2
            go_wp2_with fail
            refine (h10.waits hk).mono ?_
            rintro e w' ⟨rfl, rfl⟩
            go_wp2_with fail
            refine (h10.refWaits hi3 x.f1).mono ?_
            rintro e w10b ⟨rfl, h10b⟩
            replace h10 := h10b
            clear h10b
            go_wp2_with fail
            refine (h10.names hi3).mono ?_
            rintro e w11 ⟨A11, c11, rfl, hl11, hr11, hb11⟩
            replace h10 := h10.move hb11
            go_wp2_with fail
            refine (h10.refNames hi3).mono ?_
            rintro e w12 ⟨A12, c12, rfl, hl12, hr12, hb12⟩
            replace hr11 := Kd.C_below hr11 hb12
            replace h10 := h10.move hb12
            have hMl : (M2.map fun p => p.1).length ≤ 8796093022207 := by have := h10.sg.len; rw [List.length_map]; omega
            go_wp2_with fail
            refine (Texts_same hr11 hl11 hr12 hl12 hMl (List.length_map _) (List.length_map _)).mono ?_
            rintro e w13 ⟨rfl, hb13⟩
            replace h10 := h10.move hb13
            clear hr11 hl11 hr12 hl12 hMl
            go_wp2_with fail
            go_roundw
            case rel => exact ⟨i + 1, mb2, M2, R2, by omega, by go_num, hid h10⟩
            case measure => simp [intOf]; omega
          · rw [← hjs] at hno
            have hP := hS.pop hi2 hj hno
            rw [hjs] at hP
            have hno' := hid hno
            clear hno
            go_wp2_with fail
            refine hP.mono ?_
            rintro e w7 ⟨rfl, M7, h7⟩
            have hP2 := h7.refPop hi2 hj hno'.out rfl
            rw [hjs] at hP2
            go_wp2_with fail
            refine hP2.mono ?_
            rintro e w8 ⟨v8, rfl, h8⟩
            obtain ⟨mb2, M2, R2, hS2⟩ : ∃ mb2 M2 R2, St w w8 bs mb2 (i + 1) M2 R2 v8 := ⟨_, _, _, h8.mono (by omega)⟩
            clear h8 h7 hP hP2 hS hgw hV hno' hjs
            go_wp2_with fail
            refine hS2.sg.size_.mono ?_
            rintro e w' ⟨rfl, rfl⟩
            go_wp2_with fail
            refine (hS2.refSize hi3).mono ?_
            rintro e w10 ⟨rfl, h10⟩
            clear hS2
            go_wp2_with fail
            refine (h10.waits hk).mono ?_
            rintro e w' ⟨rfl, rfl⟩
            go_wp2_with fail
            refine (h10.refWaits hi3 x.f1).mono ?_
            rintro e w10b ⟨rfl, h10b⟩
            replace h10 := h10b
            clear h10b
            go_wp2_with fail
            refine (h10.names hi3).mono ?_
            rintro e w11 ⟨A11, c11, rfl, hl11, hr11, hb11⟩
            replace h10 := h10.move hb11
            go_wp2_with fail
            refine (h10.refNames hi3).mono ?_
            rintro e w12 ⟨A12, c12, rfl, hl12, hr12, hb12⟩
            replace hr11 := Kd.C_below hr11 hb12
            replace h10 := h10.move hb12
            have hMl : (M2.map fun p => p.1).length ≤ 8796093022207 := by have := h10.sg.len; rw [List.length_map]; omega
            go_wp2_with fail
            refine (Texts_same hr11 hl11 hr12 hl12 hMl (List.length_map _) (List.length_map _)).mono ?_
            rintro e w13 ⟨rfl, hb13⟩
            replace h10 := h10.move hb13
            clear hr11 hl11 hr12 hl12 hMl
            go_wp2_with fail
            go_roundw
            case rel => exact ⟨i + 1, mb2, M2, R2, by omega, by go_num, hid h10⟩
            case measure => simp [intOf]; omega
      · have hiL : i = l.length := by omega
        subst hiL
        have hL := HI.out.sg.below
        clear HI
        go_wp2_with (go_at_call 40; refine (awake _).mono ?_; rintro e w' ⟨rfl, hB⟩)
        go_ret
        exact ⟨rfl, hL.trans (hB.mono hL.size)⟩
end Go.Proofs.Ytnccofpkanhfhaa.Fifo
