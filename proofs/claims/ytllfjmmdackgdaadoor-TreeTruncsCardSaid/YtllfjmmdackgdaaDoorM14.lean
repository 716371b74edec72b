import Derived.Test.YtllfjmmdackgdaaDoorM10
import Derived.Test.YtllfjmmdackgdaaDoorM12
import Derived.Test.YtllfjmmdackgdaaDoorM09
import Derived.Test.YtllfjmmdackgdaaDoorM13
import Derived.Deep.RegionHeld3
import Derived.Deep.DrawnRows
import Derived.RegionTactic
set_option linter.unusedVariables false
set_option linter.unusedSimpArgs false
/-! GTo -/
section
namespace Go.Proofs.YtllfjmmdackgdaaDoor.PZ
open Go.RowKit Go.Proofs.YtllfjmmdackgdaaDoorW.PrintWords Go.Proofs.YtllfjmmdackgdaaDoorW.PrintLast Go.Proofs.YtllfjmmdackgdaaDoorW.PrintMore TD
attribute [local go_sem ↓] Go.wp_at_zero Go.wp_at_succ
set_option maxRecDepth 100000
set_option linter.unusedVariables false
set_option linter.unusedSimpArgs false
/-- A goal under a guise that the walk of a region takes as its own end: for a callee that panics. -/
theorem any_end {P : Program} {md : Region.Mode} {a : Act} {w : World} {G : Prop} (h : wpAny P md (List.toArray ([] : List Oper)) (fun _ _ _ => G) 0 #[] a w) : G := h.2
theorem bcell {W w1 : World} (hb : Below W.heap.size W w1) : (∀ b o, b < W.heap.size → w1.cell? ⟨b, o, none⟩ = W.cell? ⟨b, o, none⟩) ∧ (∀ b o, b < W.heap.size → w1.frozen? ⟨b, o, none⟩ = W.frozen? ⟨b, o, none⟩) :=
  ⟨fun b o h => hb.cell (p := ⟨b, o, none⟩) h, fun b o h => hb.frozen (p := ⟨b, o, none⟩) h⟩
theorem results_c {P : Program} {fn : Func} {p : Tmp} {ty : TypeId} (h : fn.results = #[.cell p ty]) (tmps : Array Value) (w : World) (g : Nat) (t : TypeId) (cs : Array Value) (fr : Nat × Nat) (d : TypeDesc)
    (hp : tmps.getD p undef = .pointer (some ⟨g, 0, none⟩)) (hg : w.heap[g]? = some (.cells cs t fr))
    (hu : P.underlying ty = some d) (hd : (match d with | .struct _ | .array _ _ => true | _ => false) = true) (hi : (P.info? ty).map (·.size) = some cs.size) :
    (results fn tmps).run P w = .ok (.agg cs) w := by
  have hp' : tmps[p]?.getD undef = .pointer (some ⟨g, 0, none⟩) := by simpa using hp
  simp [results, h, hp', asAddr, run_loadVar_row w g t ty cs fr d hg hu hd hi]
/-- names, by what the path's names are. -/
theorem names_in (p : ByteArray) (l : List ByteArray) (w : World) (hp : p.size < 10000000) (h : splitA p = (l, 0)) :
    Calls Tryd.prog 56 #[.string p] w fun en w' => ∃ v, en = .returned v ∧ Kd.R Kd.string 9 w' w.heap.size (fun _ => True) v l ∧ Below w.heap.size w w' := by
  obtain ⟨k, hk⟩ := (path_split_ev p hp).rounds
  rw [h] at hk
  exact names_ok k p l w hk
theorem names_out (p : ByteArray) (l : List ByteArray) (n : Int) (w : World) (hp : p.size < 10000000) (h : splitA p = (l, n)) (hn : ¬ n = 0) :
    Calls Tryd.prog 56 #[.string p] w fun en w' => en = .panicked (wrong n) ∧ Below w.heap.size w w' := by
  obtain ⟨k, hk⟩ := (path_split_ev p hp).rounds
  rw [h] at hk
  exact names_bad k p l n w hk hn
/-- The nodes of a worker can be walked: they are in range and their rows rise. -/
structure Ok (l : List S58) : Prop where
  wf : Wf l
  small : ∀ k, (nd l k).f3.length < 100000
  len : l.length < 100000
theorem walk_st (b : Nat) (A : Option Addr) (cap : Nat) (l : List S58) (rest : List Value) (An : Option Addr) (cn : Nat) (ns : List ByteArray) (k : Nat) (w : World) (hw : Wk w b (.slice A l.length cap) rest) (hc : Kd.C k58 w A l.length l) (hn : Kd.C Kd.string w An ns.length ns) (hcn : ns.length ≤ cn) (hlen : ns.length < 1000000000) (ho : Ok l) (h : wk l ns 0 = .inl k) :
    Calls Tryd.prog 55 #[.pointer (some ⟨b, 0, none⟩), .slice An ns.length cn] w fun en w' => en = .returned (.int .i64 k) ∧ Below w.heap.size w w' :=
  (walk_walk b A cap l rest An cn ns _ w hw hc hn hcn hlen (walkF_eq ho.wf (fun k => by have := ho.small k; omega) ns 0 ho.wf.pos)).mono fun e w' he => by
    rw [h] at he
    exact he
theorem walk_out (b : Nat) (A : Option Addr) (cap : Nat) (l : List S58) (rest : List Value) (An : Option Addr) (cn : Nat) (ns : List ByteArray) (k : Int) (w : World) (hw : Wk w b (.slice A l.length cap) rest) (hc : Kd.C k58 w A l.length l) (hn : Kd.C Kd.string w An ns.length ns) (hcn : ns.length ≤ cn) (hlen : ns.length < 1000000000) (ho : Ok l) (h : wk l ns 0 = .inr k) :
    Calls Tryd.prog 55 #[.pointer (some ⟨b, 0, none⟩), .slice An ns.length cn] w fun en w' => en = .panicked (wrong k) ∧ Below w.heap.size w w' :=
  (walk_walk b A cap l rest An cn ns _ w hw hc hn hcn hlen (walkF_eq ho.wf (fun k => by have := ho.small k; omega) ns 0 ho.wf.pos)).mono fun e w' he => by
    rw [h] at he
    exact he
set_option maxHeartbeats 4000000 in
theorem to_in (b : Nat) (A : Option Addr) (cap : Nat) (l : List S58) (rest : List Value) (p : ByteArray) (q : List ByteArray) (nm : ByteArray) (d : Nat) (w : World) (hw : Wk w b (.slice A l.length cap) rest) (hc : Kd.C k58 w A l.length l) (ho : Ok l) (hp : p.size < 10000000)
    (hs : splitA p = (q ++ [nm], 0)) (h : wk l q 0 = .inl d) (hd : (nd l d).f0 = 2) (o : Option Nat) (hlo : (look (nd l d).f3 nm).map ino = o) :
    Calls Tryd.prog 92 #[.pointer (some ⟨b, 0, none⟩), .string p] w fun en w' => en = .returned (.agg #[.int .i64 d, .string nm, .int .i64 (nodeV o)]) ∧ Below w.heap.size w w' := by
  have HC := Aside0.mk hc
  have HW := Aside0.mk hw
  have HO := Aside0.mk ho
  have HS := Aside0.mk hs
  have HE := Aside0.mk h
  have hql : q.length ≤ 8 := by
    have := splitA_length p
    rw [hs] at this
    simp at this
    omega
  have hdl := wk_lt ho.wf ho.wf.pos h
  have HLO := Aside0.mk hlo
  clear hc hw ho hs h hlo
  go_enter Tryd.func92, Tryd.ntmps92
  go_wp2_with (go_at_call 56; refine (names_in p _ _ hp HS.out).mono ?_; rintro e w1 ⟨v1, rfl, hr, hb⟩; obtain ⟨A1, c1, rfl, hl1, hC1⟩ := Kd.R_reads hr; have HC1 := Aside0.mk hC1; have HB := Aside0.mk (below_step (below_alloc (Below.refl _ _) _) hb); have HR4 := Aside0.mk (blk_below (blk_new w (.cells #[.int .i64 0, .string ⟨#[]⟩, .int .i64 0] 121)) hb); clear hr hC1 hb)
  have hCq : Kd.C Kd.string w1 A1 q.length q := by
    have h := Kd.C_take HC1.out (m := q.length) (by simp)
    rw [List.take_left] at h
    exact h
  obtain ⟨a1, e, hx⟩ := Kd.at_string HC1.out (q.length : Int) (by omega) (by rw [List.length_append, List.length_singleton]; omega)
  subst e
  have hrd : rdOf ByteArray.empty (q ++ [nm]) (q.length : Int) = nm := by simp [rdOf, List.getD_eq_getElem?_getD]
  rw [Int.toNat_natCast, hrd] at hx
  have hxl := World.block_lt_of_cell? _ _ hx
  have hws := IntKind.wrap_i64
  have hw1 : IntKind.i64.wrap ((q.length : Int) + 1 - 1) = (q.length : Int) := by rw [IntKind.wrap_i64]; omega
  have hw2 : IntKind.i64.wrap (q.length : Int) = (q.length : Int) := by rw [IntKind.wrap_i64]; omega
  have hz0 : (0 : Int) ≤ (q.length : Int) := by omega
  have hz1 : (q.length : Int) ≤ (c1 : Int) := by simp at hl1; omega
  have hz2 : (q.length : Int) < (q.length : Int) + 1 := by omega
  have hqc : q.length ≤ c1 := by omega
  have HCQ := Aside0.mk hCq
  have hfar : (a1.add q.length).block ≠ w1.heap.size := by omega
  have hWb : b < w.heap.size := blk_lt HW.out
  clear hCq hrd hws
  go_region_held3 (fun w' => w'.cell? (a1.add q.length) = some (.string nm)) (first | go_keep | (rw [cell_far hfar, cell_far hfar, cell_far hfar]; go_keep))
    (first | (go_at_call 55; (with_reducible refine (walk_st b A cap l rest (some a1) c1 q d _ ?_ ?_ ?_ ?_ ?_ ?_ ?_).mono ?_); (exact blk_below HW.out (by repeat (first | exact HB.out | with_reducible apply below_drew1 | with_reducible apply below_alloc))); (exact Kd.C_below HC.out (by repeat (first | exact HB.out | with_reducible apply below_drew1 | with_reducible apply below_alloc))); (exact Kd.C_below HCQ.out (by repeat (first | with_reducible exact Below.refl _ _ | with_reducible apply below_drew1 | with_reducible apply below_alloc))); (exact hqc); (omega); (exact HO.out); (exact HE.out); rintro e w2 ⟨rfl, hb⟩; have HB2 := Aside0.mk (below_step (by repeat (first | exact HB.out | with_reducible apply below_drew1 | with_reducible apply below_alloc)) hb); have hx2 := hb.cell (p := a1.add q.length) (by simp; omega); obtain ⟨hbc, hbf⟩ := bcell hb; have hbw := hb; clear hb))
  · have hk3 := blk_new w2 (.cells #[.int .i64 (d : Int), .string nm, .int .i64 (-1)] 121)
    have hB3 := below_alloc HB2.out (.cells #[.int .i64 (d : Int), .string nm, .int .i64 (-1)] 121)
    have HR5 := Aside0.mk (blk_alloc (blk_below HR4.out (below_step (below_drew1 (Below.refl w1.heap.size w1)) hbw)) (.cells #[.int .i64 (d : Int), .string nm, .int .i64 (-1)] 121))
    have HGS : Aside0 (w.heap.size ≤ w2.heap.size) := ⟨HB2.out.size⟩
    have HGN : Aside0 (w2.heap.size ≠ w.heap.size) := ⟨by have := blk_lt (blk_below HR4.out (below_step (below_drew1 (Below.refl w1.heap.size w1)) hbw)); omega⟩
    clear hbc hbf hx2 hbw
    generalize w2.alloc (.cells #[.int .i64 (d : Int), .string nm, .int .i64 (-1)] 121) = w3 at *
    generalize w2.heap.size = g at *
    have HB3 := Aside0.mk hB3
    have HK3 := Aside0.mk hk3
    have hg0 := blk_cell hk3 0
    have hg1 := blk_cell hk3 1
    have hg2 := blk_cell hk3 2
    simp only [List.getElem?_toArray, List.getElem?_cons_zero, List.getElem?_cons_succ] at hg0 hg1 hg2
    have hW3 : Wk w3 b (.slice A l.length cap) rest := blk_below HW.out hB3
    have hC3 := Kd.C_below HC.out hB3
    clear hk3
    obtain ⟨ad, A2, c2, A3, c3, e, -, -, -, hx3, -, -, hl3, hCe⟩ := at_T58 HC.out (d : Int) (by omega) (by omega)
    subst e
    rw [Int.toNat_natCast] at hx3
    have hrd : rd_T58 l (d : Int) = nd l d := rfl
    rw [hrd] at hx3 hl3 hCe
    have hal0 : (ad.add (d * 4)).block < w.heap.size := World.block_lt_of_cell? w ⟨(ad.add (d * 4)).block, (ad.add (d * 4)).off + 3, none⟩ hx3
    have HCW := Aside0.mk hCe
    replace hx3 := (hB3.cell (p := ⟨(ad.add (d * 4)).block, (ad.add (d * 4)).off + 3, none⟩) hal0).trans hx3
    replace hCe := Kd.C_below hCe hB3
    have h0 : w3.cell? ⟨b, 0, none⟩ = some (.slice (some ad) l.length cap) := (blk_cell hW3 0).trans rfl
    have hdb : ((rd_T58 l (d : Int)).f0 == 2) = true := beq_iff_eq.2 hd
    have hd0 : (0 : Int) ≤ (d : Int) := by omega
    have hd1 : (d : Int) < (l.length : Int) := by omega
    have HW3 := Aside0.mk hW3
    have HC3 := Aside0.mk hC3
    have HCE := Aside0.mk hCe
    have HL3 := Aside0.mk hl3
    have hsm := HO.out.small d
    have hsr := HO.out.wf.srt d
    have HSR := Aside0.mk hsr
    have hgl : g < w3.heap.size := blk_lt HK3.out
    have hbl3 : b < w3.heap.size := blk_lt HW3.out
    have hal3 := World.block_lt_of_cell? _ _ hx3
    clear hW3 hC3 hrd hl3 hCe hsr hB3
    go_wp2_with (first | (go_at_call 82; refine (dir_walk b _ cap l rest d _ hdl HW3.out HC3.out).mono ?_; rintro e w4 ⟨rfl, hw4⟩; subst w4) | (go_at_call 81; refine (need_ok 22 _).mono ?_; rintro e w4 ⟨rfl, hw4⟩; subst w4))
    go_region_held3 (fun w' => w'.cell? ⟨b, 0, none⟩ = some (.slice (some ad) l.length cap) ∧ w'.cell? ⟨g, 0, none⟩ = some (.int .i64 (d : Int)) ∧ w'.cell? ⟨g, 1, none⟩ = some (.string nm) ∧ w'.cell? ⟨(ad.add (d * 4)).block, (ad.add (d * 4)).off + 3, none⟩ = some (.slice A3 (nd l d).f3.length c3)) (first | go_keep | (exact ⟨(hbc _ _ hbl3).trans h0, (hbc _ _ hgl).trans hg0, (hbc _ _ hgl).trans hg1, (hbc _ _ hal3).trans hx3⟩))
      (first | (go_at_call 83; (with_reducible refine (dirent_Find.calls A3 c3 (nd l d).f3 nm _ _ _ ?_ ?_ (find_eq nm HSR.out (by omega))).mono ?_); (exact Kd.C_below HCE.out (by repeat (first | with_reducible exact Below.refl _ _ | with_reducible apply below_drew1 | with_reducible apply below_alloc))); (exact HL3.out); rintro e w5 ⟨rfl, hb⟩; obtain ⟨hbc, hbf⟩ := bcell hb; have HB5 := Aside0.mk hb; clear hb))
    have hB5 : Below w3.heap.size w3 w5 := below_step (below_drew1 (Below.refl w3.heap.size w3)) HB5.out
    have hk5 := blk_below HK3.out hB5
    have hr5 := blk_below HR5.out hB5
    have HBF := Aside0.mk (below_step HB3.out hB5)
    have hg0' := blk_cell hk5 0
    have hg1' := blk_cell hk5 1
    have hg2' := blk_cell hk5 2
    have hr0' := blk_cell hr5 0
    have hr1' := blk_cell hr5 1
    have hr2' := blk_cell hr5 2
    simp only [List.getElem?_toArray, List.getElem?_cons_zero, List.getElem?_cons_succ] at hg0' hg1' hg2' hr0' hr1' hr2'
    have hgz0 := blk_frozen hk5 0
    have hgz1 := blk_frozen hk5 1
    have hgz2 := blk_frozen hk5 2
    have hrz0 := blk_frozen hr5 0
    have hrz1 := blk_frozen hr5 1
    have hrz2 := blk_frozen hr5 2
    have h05 := (hB5.cell hbl3).trans h0
    have hx5 := (hB5.cell (p := ⟨(ad.add (d * 4)).block, (ad.add (d * 4)).off + 3, none⟩) hal3).trans hx3
    have hgs : w.heap.size ≤ g := HGS.out
    have hgn : g ≠ w.heap.size := HGN.out
    cases hfb : fB (nd l d).f3 nm with
    | false =>
      have hlk := HLO.out
      rw [look_miss HSR.out hfb] at hlk
      have hon : o = none := hlk.symm
      subst hon
      clear hbc hbf h0 hx3 hg0 hg1 hg2 hlk
      have HR6 := Aside0.mk (blk_put (blk_put (blk_put hr5 0 (.int .i64 (d : Int)) rfl) 1 (.string nm) rfl) 2 (.int .i64 (-1)) rfl)
      go_wp2
      refine bodyPost_ret (results_c rfl _ _ w.heap.size 121 _ (0, 0) _ rfl HR6.out Tryd.underlying121 rfl (by kernel_rfl)) rfl ⟨rfl, ?_⟩
      exact ((HBF.out.setCell (p := ⟨w.heap.size, 0, none⟩) (Nat.le_refl _) _).setCell (p := ⟨w.heap.size, 1, none⟩) (Nat.le_refl _) _).setCell (p := ⟨w.heap.size, 2, none⟩) (Nat.le_refl _) _
    | true =>
      obtain ⟨hfl, hlk⟩ := look_hit HSR.out hfb
      have hlk2 := HLO.out
      rw [hlk] at hlk2
      obtain ⟨k, hk⟩ : ∃ k, fI (nd l d).f3 nm = k := ⟨_, rfl⟩
      have hon : o = some (ino (nd l d).f3[fI (nd l d).f3 nm]) := hlk2.symm
      have hrde := rd_nat (nd l d).f3 _ hfl
      have hino := HO.out.wf.ino_lt (List.getElem_mem hfl)
      obtain ⟨a3, e, -, hz1⟩ := at_T102 HCW.out ((fI (nd l d).f3 nm : Nat) : Int) (by omega) (by omega)
      subst e
      rw [hrde, ← hino.2.2, Int.toNat_natCast] at hz1
      generalize (nd l d).f3[fI (nd l d).f3 nm] = en at hon hz1
      subst hon
      have hk0 : (0 : Int) ≤ ((fI (nd l d).f3 nm : Nat) : Int) := by omega
      have hk1 : ((fI (nd l d).f3 nm : Nat) : Int) < ((nd l d).f3.length : Int) := by omega
      rw [hk] at hk0 hk1 hz1 ⊢
      have hzl : (a3.add (k * 2)).block < w.heap.size := World.block_lt_of_cell? w ⟨(a3.add (k * 2)).block, (a3.add (k * 2)).off + 1, none⟩ hz1
      replace hz1 := (HBF.out.cell (p := ⟨(a3.add (k * 2)).block, (a3.add (k * 2)).off + 1, none⟩) hzl).trans hz1
      have hgn3 : (a3.add (k * 2)).block ≠ g := by omega
      have hbg : b ≠ g := by omega
      have hgn4 : (ad.add (d * 4)).block ≠ g := by omega
      have HR6 := Aside0.mk (blk_put (blk_put (blk_put (blk_far hr5 (p := ⟨g, 2, none⟩) (Ne.symm hgn) (.int .i64 (ino en : Int))) 0 (.int .i64 (d : Int)) rfl) 1 (.string nm) rfl) 2 (.int .i64 (ino en : Int)) rfl)
      have HKP : Aside0 ((w5.setCell ⟨g, 2, none⟩ (.int .i64 (ino en : Int))).drew.cell? ⟨b, 0, none⟩ = some (.slice (some ad) l.length cap) ∧ (w5.setCell ⟨g, 2, none⟩ (.int .i64 (ino en : Int))).drew.cell? ⟨g, 0, none⟩ = some (.int .i64 (d : Int)) ∧ (w5.setCell ⟨g, 2, none⟩ (.int .i64 (ino en : Int))).drew.cell? ⟨(ad.add (d * 4)).block, (ad.add (d * 4)).off + 3, none⟩ = some (.slice (some a3) (nd l d).f3.length c3) ∧ (w5.setCell ⟨g, 2, none⟩ (.int .i64 (ino en : Int))).drew.cell? ⟨(a3.add (k * 2)).block, (a3.add (k * 2)).off + 1, none⟩ = some (.int .i64 (ino en : Int))) :=
        ⟨(cell_far (W := w5) (p := ⟨g, 2, none⟩) (a := ⟨b, 0, none⟩) hbg _).trans h05, (World.cell?_setCell_other w5 ⟨g, 2, none⟩ ⟨g, 0, none⟩ _ (by simp)).trans hg0', (cell_far (W := w5) (p := ⟨g, 2, none⟩) (a := ⟨(ad.add (d * 4)).block, (ad.add (d * 4)).off + 3, none⟩) hgn4 _).trans hx5, (cell_far (W := w5) (p := ⟨g, 2, none⟩) (a := ⟨(a3.add (k * 2)).block, (a3.add (k * 2)).off + 1, none⟩) hgn3 _).trans hz1⟩
      clear hbc hbf h0 hx3 hg0 hg1 hg2 hlk hlk2 hrde hino hk hfl
      go_wp2
      go_region_held3 (fun w' => w'.cell? ⟨b, 0, none⟩ = some (.slice (some ad) l.length cap) ∧ w'.cell? ⟨g, 0, none⟩ = some (.int .i64 (d : Int)) ∧ w'.cell? ⟨(ad.add (d * 4)).block, (ad.add (d * 4)).off + 3, none⟩ = some (.slice (some a3) (nd l d).f3.length c3) ∧ w'.cell? ⟨(a3.add (k * 2)).block, (a3.add (k * 2)).off + 1, none⟩ = some (.int .i64 (ino en : Int)))
        (first | exact HKP.out | go_keep) (fail)
      go_wp2
      refine bodyPost_ret (results_c rfl _ _ w.heap.size 121 _ (0, 0) _ rfl HR6.out Tryd.underlying121 rfl (by kernel_rfl)) rfl ⟨rfl, ?_⟩
      exact (((below_drew1 (HBF.out.setCell (p := ⟨g, 2, none⟩) hgs _)).setCell (p := ⟨w.heap.size, 0, none⟩) (Nat.le_refl _) _).setCell (p := ⟨w.heap.size, 1, none⟩) (Nat.le_refl _) _).setCell (p := ⟨w.heap.size, 2, none⟩) (Nat.le_refl _) _
  · have hk2 := blk_below (blk_drew (blk_new w1 (.cells #[.int .i64 0, .string ⟨#[]⟩, .int .i64 0] 121))) hbw
    have hk3 : (((w2.setCell ⟨w1.heap.size, 0, none⟩ (.int .i64 (d : Int))).setCell ⟨w1.heap.size, 1, none⟩ (.string nm)).setCell ⟨w1.heap.size, 2, none⟩ (.int .i64 (-1))).heap[w1.heap.size]? = some (.cells #[.int .i64 (d : Int), .string nm, .int .i64 (-1)] 121 (0, 0)) := blk_put (blk_put (blk_put hk2 0 (.int .i64 (d : Int)) rfl) 1 (.string nm) rfl) 2 (.int .i64 (-1)) rfl
    have HGS : Aside0 (w.heap.size ≤ w1.heap.size) := ⟨HB.out.size⟩
    have HGN : Aside0 (w1.heap.size ≠ w.heap.size) := ⟨by have := blk_lt HR4.out; omega⟩
    have hB3 := ((HB2.out.setCell (p := ⟨w1.heap.size, 0, none⟩) HGS.out (.int .i64 (d : Int))).setCell (p := ⟨w1.heap.size, 1, none⟩) HGS.out (.string nm)).setCell (p := ⟨w1.heap.size, 2, none⟩) HGS.out (.int .i64 (-1))
    have hr5 := blk_below HR4.out (below_step (below_drew1 (below_alloc (Below.refl w1.heap.size w1) _)) hbw)
    have HR5 := Aside0.mk (blk_far (p := ⟨w1.heap.size, 2, none⟩) (blk_far (p := ⟨w1.heap.size, 1, none⟩) (blk_far (p := ⟨w1.heap.size, 0, none⟩) hr5 (Ne.symm HGN.out) (.int .i64 (d : Int))) (Ne.symm HGN.out) (.string nm)) (Ne.symm HGN.out) (.int .i64 (-1)))
    clear hbc hbf hx2 hbw hk2 hr5
    generalize ((w2.setCell ⟨w1.heap.size, 0, none⟩ (.int .i64 (d : Int))).setCell ⟨w1.heap.size, 1, none⟩ (.string nm)).setCell ⟨w1.heap.size, 2, none⟩ (.int .i64 (-1)) = w3 at *
    generalize w1.heap.size = g at *
    have HB3 := Aside0.mk hB3
    have HK3 := Aside0.mk hk3
    have hg0 := blk_cell hk3 0
    have hg1 := blk_cell hk3 1
    have hg2 := blk_cell hk3 2
    simp only [List.getElem?_toArray, List.getElem?_cons_zero, List.getElem?_cons_succ] at hg0 hg1 hg2
    have hW3 : Wk w3 b (.slice A l.length cap) rest := blk_below HW.out hB3
    have hC3 := Kd.C_below HC.out hB3
    clear hk3
    obtain ⟨ad, A2, c2, A3, c3, e, -, -, -, hx3, -, -, hl3, hCe⟩ := at_T58 HC.out (d : Int) (by omega) (by omega)
    subst e
    rw [Int.toNat_natCast] at hx3
    have hrd : rd_T58 l (d : Int) = nd l d := rfl
    rw [hrd] at hx3 hl3 hCe
    have hal0 : (ad.add (d * 4)).block < w.heap.size := World.block_lt_of_cell? w ⟨(ad.add (d * 4)).block, (ad.add (d * 4)).off + 3, none⟩ hx3
    have HCW := Aside0.mk hCe
    replace hx3 := (hB3.cell (p := ⟨(ad.add (d * 4)).block, (ad.add (d * 4)).off + 3, none⟩) hal0).trans hx3
    replace hCe := Kd.C_below hCe hB3
    have h0 : w3.cell? ⟨b, 0, none⟩ = some (.slice (some ad) l.length cap) := (blk_cell hW3 0).trans rfl
    have hdb : ((rd_T58 l (d : Int)).f0 == 2) = true := beq_iff_eq.2 hd
    have hd0 : (0 : Int) ≤ (d : Int) := by omega
    have hd1 : (d : Int) < (l.length : Int) := by omega
    have HW3 := Aside0.mk hW3
    have HC3 := Aside0.mk hC3
    have HCE := Aside0.mk hCe
    have HL3 := Aside0.mk hl3
    have hsm := HO.out.small d
    have hsr := HO.out.wf.srt d
    have HSR := Aside0.mk hsr
    have hgl : g < w3.heap.size := blk_lt HK3.out
    have hbl3 : b < w3.heap.size := blk_lt HW3.out
    have hal3 := World.block_lt_of_cell? _ _ hx3
    clear hW3 hC3 hrd hl3 hCe hsr hB3
    go_wp2_with (first | (go_at_call 82; refine (dir_walk b _ cap l rest d _ hdl HW3.out HC3.out).mono ?_; rintro e w4 ⟨rfl, hw4⟩; subst w4) | (go_at_call 81; refine (need_ok 22 _).mono ?_; rintro e w4 ⟨rfl, hw4⟩; subst w4))
    go_region_held3 (fun w' => w'.cell? ⟨b, 0, none⟩ = some (.slice (some ad) l.length cap) ∧ w'.cell? ⟨g, 0, none⟩ = some (.int .i64 (d : Int)) ∧ w'.cell? ⟨g, 1, none⟩ = some (.string nm) ∧ w'.cell? ⟨(ad.add (d * 4)).block, (ad.add (d * 4)).off + 3, none⟩ = some (.slice A3 (nd l d).f3.length c3)) (first | go_keep | (exact ⟨(hbc _ _ hbl3).trans h0, (hbc _ _ hgl).trans hg0, (hbc _ _ hgl).trans hg1, (hbc _ _ hal3).trans hx3⟩))
      (first | (go_at_call 83; (with_reducible refine (dirent_Find.calls A3 c3 (nd l d).f3 nm _ _ _ ?_ ?_ (find_eq nm HSR.out (by omega))).mono ?_); (exact Kd.C_below HCE.out (by repeat (first | with_reducible exact Below.refl _ _ | with_reducible apply below_drew1 | with_reducible apply below_alloc))); (exact HL3.out); rintro e w5 ⟨rfl, hb⟩; obtain ⟨hbc, hbf⟩ := bcell hb; have HB5 := Aside0.mk hb; clear hb))
    have hB5 : Below w3.heap.size w3 w5 := below_step (below_drew1 (Below.refl w3.heap.size w3)) HB5.out
    have hk5 := blk_below HK3.out hB5
    have hr5 := blk_below HR5.out hB5
    have HBF := Aside0.mk (below_step HB3.out hB5)
    have hg0' := blk_cell hk5 0
    have hg1' := blk_cell hk5 1
    have hg2' := blk_cell hk5 2
    have hr0' := blk_cell hr5 0
    have hr1' := blk_cell hr5 1
    have hr2' := blk_cell hr5 2
    simp only [List.getElem?_toArray, List.getElem?_cons_zero, List.getElem?_cons_succ] at hg0' hg1' hg2' hr0' hr1' hr2'
    have hgz0 := blk_frozen hk5 0
    have hgz1 := blk_frozen hk5 1
    have hgz2 := blk_frozen hk5 2
    have hrz0 := blk_frozen hr5 0
    have hrz1 := blk_frozen hr5 1
    have hrz2 := blk_frozen hr5 2
    have h05 := (hB5.cell hbl3).trans h0
    have hx5 := (hB5.cell (p := ⟨(ad.add (d * 4)).block, (ad.add (d * 4)).off + 3, none⟩) hal3).trans hx3
    have hgs : w.heap.size ≤ g := HGS.out
    have hgn : g ≠ w.heap.size := HGN.out
    cases hfb : fB (nd l d).f3 nm with
    | false =>
      have hlk := HLO.out
      rw [look_miss HSR.out hfb] at hlk
      have hon : o = none := hlk.symm
      subst hon
      clear hbc hbf h0 hx3 hg0 hg1 hg2 hlk
      have HR6 := Aside0.mk (blk_put (blk_put (blk_put hr5 0 (.int .i64 (d : Int)) rfl) 1 (.string nm) rfl) 2 (.int .i64 (-1)) rfl)
      go_wp2
      refine bodyPost_ret (results_c rfl _ _ w.heap.size 121 _ (0, 0) _ rfl HR6.out Tryd.underlying121 rfl (by kernel_rfl)) rfl ⟨rfl, ?_⟩
      exact ((HBF.out.setCell (p := ⟨w.heap.size, 0, none⟩) (Nat.le_refl _) _).setCell (p := ⟨w.heap.size, 1, none⟩) (Nat.le_refl _) _).setCell (p := ⟨w.heap.size, 2, none⟩) (Nat.le_refl _) _
    | true =>
      obtain ⟨hfl, hlk⟩ := look_hit HSR.out hfb
      have hlk2 := HLO.out
      rw [hlk] at hlk2
      obtain ⟨k, hk⟩ : ∃ k, fI (nd l d).f3 nm = k := ⟨_, rfl⟩
      have hon : o = some (ino (nd l d).f3[fI (nd l d).f3 nm]) := hlk2.symm
      have hrde := rd_nat (nd l d).f3 _ hfl
      have hino := HO.out.wf.ino_lt (List.getElem_mem hfl)
      obtain ⟨a3, e, -, hz1⟩ := at_T102 HCW.out ((fI (nd l d).f3 nm : Nat) : Int) (by omega) (by omega)
      subst e
      rw [hrde, ← hino.2.2, Int.toNat_natCast] at hz1
      generalize (nd l d).f3[fI (nd l d).f3 nm] = en at hon hz1
      subst hon
      have hk0 : (0 : Int) ≤ ((fI (nd l d).f3 nm : Nat) : Int) := by omega
      have hk1 : ((fI (nd l d).f3 nm : Nat) : Int) < ((nd l d).f3.length : Int) := by omega
      rw [hk] at hk0 hk1 hz1 ⊢
      have hzl : (a3.add (k * 2)).block < w.heap.size := World.block_lt_of_cell? w ⟨(a3.add (k * 2)).block, (a3.add (k * 2)).off + 1, none⟩ hz1
      replace hz1 := (HBF.out.cell (p := ⟨(a3.add (k * 2)).block, (a3.add (k * 2)).off + 1, none⟩) hzl).trans hz1
      have hgn3 : (a3.add (k * 2)).block ≠ g := by omega
      have hbg : b ≠ g := by omega
      have hgn4 : (ad.add (d * 4)).block ≠ g := by omega
      have HR6 := Aside0.mk (blk_put (blk_put (blk_put (blk_far hr5 (p := ⟨g, 2, none⟩) (Ne.symm hgn) (.int .i64 (ino en : Int))) 0 (.int .i64 (d : Int)) rfl) 1 (.string nm) rfl) 2 (.int .i64 (ino en : Int)) rfl)
      have HKP : Aside0 ((w5.setCell ⟨g, 2, none⟩ (.int .i64 (ino en : Int))).drew.cell? ⟨b, 0, none⟩ = some (.slice (some ad) l.length cap) ∧ (w5.setCell ⟨g, 2, none⟩ (.int .i64 (ino en : Int))).drew.cell? ⟨g, 0, none⟩ = some (.int .i64 (d : Int)) ∧ (w5.setCell ⟨g, 2, none⟩ (.int .i64 (ino en : Int))).drew.cell? ⟨(ad.add (d * 4)).block, (ad.add (d * 4)).off + 3, none⟩ = some (.slice (some a3) (nd l d).f3.length c3) ∧ (w5.setCell ⟨g, 2, none⟩ (.int .i64 (ino en : Int))).drew.cell? ⟨(a3.add (k * 2)).block, (a3.add (k * 2)).off + 1, none⟩ = some (.int .i64 (ino en : Int))) :=
        ⟨(cell_far (W := w5) (p := ⟨g, 2, none⟩) (a := ⟨b, 0, none⟩) hbg _).trans h05, (World.cell?_setCell_other w5 ⟨g, 2, none⟩ ⟨g, 0, none⟩ _ (by simp)).trans hg0', (cell_far (W := w5) (p := ⟨g, 2, none⟩) (a := ⟨(ad.add (d * 4)).block, (ad.add (d * 4)).off + 3, none⟩) hgn4 _).trans hx5, (cell_far (W := w5) (p := ⟨g, 2, none⟩) (a := ⟨(a3.add (k * 2)).block, (a3.add (k * 2)).off + 1, none⟩) hgn3 _).trans hz1⟩
      clear hbc hbf h0 hx3 hg0 hg1 hg2 hlk hlk2 hrde hino hk hfl
      go_wp2
      go_region_held3 (fun w' => w'.cell? ⟨b, 0, none⟩ = some (.slice (some ad) l.length cap) ∧ w'.cell? ⟨g, 0, none⟩ = some (.int .i64 (d : Int)) ∧ w'.cell? ⟨(ad.add (d * 4)).block, (ad.add (d * 4)).off + 3, none⟩ = some (.slice (some a3) (nd l d).f3.length c3) ∧ w'.cell? ⟨(a3.add (k * 2)).block, (a3.add (k * 2)).off + 1, none⟩ = some (.int .i64 (ino en : Int)))
        (first | exact HKP.out | go_keep) (fail)
      go_wp2
      refine bodyPost_ret (results_c rfl _ _ w.heap.size 121 _ (0, 0) _ rfl HR6.out Tryd.underlying121 rfl (by kernel_rfl)) rfl ⟨rfl, ?_⟩
      exact (((below_drew1 (HBF.out.setCell (p := ⟨g, 2, none⟩) hgs _)).setCell (p := ⟨w.heap.size, 0, none⟩) (Nat.le_refl _) _).setCell (p := ⟨w.heap.size, 1, none⟩) (Nat.le_refl _) _).setCell (p := ⟨w.heap.size, 2, none⟩) (Nat.le_refl _) _
end Go.Proofs.YtllfjmmdackgdaaDoor.PZ
end
/-! GToOut -/
section
namespace Go.Proofs.YtllfjmmdackgdaaDoor.PZ
open Go.RowKit Go.Proofs.YtllfjmmdackgdaaDoorW.PrintWords Go.Proofs.YtllfjmmdackgdaaDoorW.PrintLast Go.Proofs.YtllfjmmdackgdaaDoorW.PrintMore TD
attribute [local go_sem ↓] Go.wp_at_zero Go.wp_at_succ
set_option maxRecDepth 100000
set_option linter.unusedVariables false
set_option linter.unusedSimpArgs false
set_option maxHeartbeats 4000000 in
/-- .. where the names ahead lead nowhere, or to a file. -/
theorem to_out (b : Nat) (A : Option Addr) (cap : Nat) (l : List S58) (rest : List Value) (p : ByteArray) (q : List ByteArray) (nm : ByteArray) (n : Int) (w : World) (hw : Wk w b (.slice A l.length cap) rest) (hc : Kd.C k58 w A l.length l) (ho : Ok l) (hp : p.size < 10000000)
    (hs : splitA p = (q ++ [nm], 0)) (h : wk l q 0 = .inr n) :
    Calls Tryd.prog 92 #[.pointer (some ⟨b, 0, none⟩), .string p] w fun en w' => en = .panicked (wrong n) ∧ Below w.heap.size w w' := by
  have HC := Aside0.mk hc
  have HW := Aside0.mk hw
  have HO := Aside0.mk ho
  have HS := Aside0.mk hs
  have HE := Aside0.mk h
  have hql : q.length ≤ 8 := by
    have := splitA_length p
    rw [hs] at this
    simp at this
    omega
  clear hc hw ho hs h
  go_enter Tryd.func92, Tryd.ntmps92
  go_wp2_with (go_at_call 56; refine (names_in p _ _ hp HS.out).mono ?_; rintro e w1 ⟨v1, rfl, hr, hb⟩; obtain ⟨A1, c1, rfl, hl1, hC1⟩ := Kd.R_reads hr; have HC1 := Aside0.mk hC1; have HB := Aside0.mk (below_step (below_alloc (Below.refl _ _) _) hb); have HR4 := Aside0.mk (blk_below (blk_new w (.cells #[.int .i64 0, .string ⟨#[]⟩, .int .i64 0] 121)) hb); clear hr hC1 hb)
  have hCq : Kd.C Kd.string w1 A1 q.length q := by
    have h := Kd.C_take HC1.out (m := q.length) (by simp)
    rw [List.take_left] at h
    exact h
  obtain ⟨a1, e, hx⟩ := Kd.at_string HC1.out (q.length : Int) (by omega) (by rw [List.length_append, List.length_singleton]; omega)
  subst e
  have hrd : rdOf ByteArray.empty (q ++ [nm]) (q.length : Int) = nm := by simp [rdOf, List.getD_eq_getElem?_getD]
  rw [Int.toNat_natCast, hrd] at hx
  have hxl := World.block_lt_of_cell? _ _ hx
  have hws := IntKind.wrap_i64
  have hw1 : IntKind.i64.wrap ((q.length : Int) + 1 - 1) = (q.length : Int) := by rw [IntKind.wrap_i64]; omega
  have hw2 : IntKind.i64.wrap (q.length : Int) = (q.length : Int) := by rw [IntKind.wrap_i64]; omega
  have hz0 : (0 : Int) ≤ (q.length : Int) := by omega
  have hz1 : (q.length : Int) ≤ (c1 : Int) := by simp at hl1; omega
  have hz2 : (q.length : Int) < (q.length : Int) + 1 := by omega
  have hqc : q.length ≤ c1 := by omega
  have HCQ := Aside0.mk hCq
  have hfar : (a1.add q.length).block ≠ w1.heap.size := by omega
  have hWb : b < w.heap.size := blk_lt HW.out
  clear hCq hrd hws
  go_region_with (first | (go_at_call 55; (with_reducible refine (walk_out b A cap l rest (some a1) c1 q n _ ?_ ?_ ?_ ?_ ?_ ?_ ?_).mono ?_); (exact blk_below HW.out (by repeat (first | exact HB.out | with_reducible apply below_drew1 | with_reducible apply below_alloc))); (exact Kd.C_below HC.out (by repeat (first | exact HB.out | with_reducible apply below_drew1 | with_reducible apply below_alloc))); (exact Kd.C_below HCQ.out (by repeat (first | with_reducible exact Below.refl _ _ | with_reducible apply below_drew1 | with_reducible apply below_alloc))); (exact hqc); (omega); (exact HO.out); (exact HE.out); rintro e w2 ⟨rfl, hb⟩; have HB2 := Aside0.mk (below_step (by repeat (first | exact HB.out | with_reducible apply below_drew1 | with_reducible apply below_alloc)) hb); clear hb; refine any_end (P := Tryd.prog) (md := .text) (a := ⟨#[], []⟩) (w := w2) ?_))
  all_goals exact ⟨rfl, rfl, HB2.out⟩
set_option maxHeartbeats 4000000 in
/-- .. where a file is where the directory should be. -/
theorem to_file (b : Nat) (A : Option Addr) (cap : Nat) (l : List S58) (rest : List Value) (p : ByteArray) (q : List ByteArray) (nm : ByteArray) (d : Nat) (w : World) (hw : Wk w b (.slice A l.length cap) rest) (hc : Kd.C k58 w A l.length l) (ho : Ok l) (hp : p.size < 10000000)
    (hs : splitA p = (q ++ [nm], 0)) (h : wk l q 0 = .inl d) (hd : ((nd l d).f0 == 2) = false) :
    Calls Tryd.prog 92 #[.pointer (some ⟨b, 0, none⟩), .string p] w fun en w' => en = .panicked (wrong 22) ∧ Below w.heap.size w w' := by
  have HC := Aside0.mk hc
  have HW := Aside0.mk hw
  have HO := Aside0.mk ho
  have HS := Aside0.mk hs
  have HE := Aside0.mk h
  have hql : q.length ≤ 8 := by
    have := splitA_length p
    rw [hs] at this
    simp at this
    omega
  have hdl := wk_lt ho.wf ho.wf.pos h
  clear hc hw ho hs h
  go_enter Tryd.func92, Tryd.ntmps92
  go_wp2_with (go_at_call 56; refine (names_in p _ _ hp HS.out).mono ?_; rintro e w1 ⟨v1, rfl, hr, hb⟩; obtain ⟨A1, c1, rfl, hl1, hC1⟩ := Kd.R_reads hr; have HC1 := Aside0.mk hC1; have HB := Aside0.mk (below_step (below_alloc (Below.refl _ _) _) hb); have HR4 := Aside0.mk (blk_below (blk_new w (.cells #[.int .i64 0, .string ⟨#[]⟩, .int .i64 0] 121)) hb); clear hr hC1 hb)
  have hCq : Kd.C Kd.string w1 A1 q.length q := by
    have h := Kd.C_take HC1.out (m := q.length) (by simp)
    rw [List.take_left] at h
    exact h
  obtain ⟨a1, e, hx⟩ := Kd.at_string HC1.out (q.length : Int) (by omega) (by rw [List.length_append, List.length_singleton]; omega)
  subst e
  have hrd : rdOf ByteArray.empty (q ++ [nm]) (q.length : Int) = nm := by simp [rdOf, List.getD_eq_getElem?_getD]
  rw [Int.toNat_natCast, hrd] at hx
  have hxl := World.block_lt_of_cell? _ _ hx
  have hws := IntKind.wrap_i64
  have hw1 : IntKind.i64.wrap ((q.length : Int) + 1 - 1) = (q.length : Int) := by rw [IntKind.wrap_i64]; omega
  have hw2 : IntKind.i64.wrap (q.length : Int) = (q.length : Int) := by rw [IntKind.wrap_i64]; omega
  have hz0 : (0 : Int) ≤ (q.length : Int) := by omega
  have hz1 : (q.length : Int) ≤ (c1 : Int) := by simp at hl1; omega
  have hz2 : (q.length : Int) < (q.length : Int) + 1 := by omega
  have hqc : q.length ≤ c1 := by omega
  have HCQ := Aside0.mk hCq
  have hfar : (a1.add q.length).block ≠ w1.heap.size := by omega
  have hWb : b < w.heap.size := blk_lt HW.out
  clear hCq hrd hws
  go_region_held3 (fun w' => w'.cell? (a1.add q.length) = some (.string nm)) (first | go_keep | (rw [cell_far hfar, cell_far hfar, cell_far hfar]; go_keep))
    (first | (go_at_call 55; (with_reducible refine (walk_st b A cap l rest (some a1) c1 q d _ ?_ ?_ ?_ ?_ ?_ ?_ ?_).mono ?_); (exact blk_below HW.out (by repeat (first | exact HB.out | with_reducible apply below_drew1 | with_reducible apply below_alloc))); (exact Kd.C_below HC.out (by repeat (first | exact HB.out | with_reducible apply below_drew1 | with_reducible apply below_alloc))); (exact Kd.C_below HCQ.out (by repeat (first | with_reducible exact Below.refl _ _ | with_reducible apply below_drew1 | with_reducible apply below_alloc))); (exact hqc); (omega); (exact HO.out); (exact HE.out); rintro e w2 ⟨rfl, hb⟩; have HB2 := Aside0.mk (below_step (by repeat (first | exact HB.out | with_reducible apply below_drew1 | with_reducible apply below_alloc)) hb); have hx2 := hb.cell (p := a1.add q.length) (by simp; omega); obtain ⟨hbc, hbf⟩ := bcell hb; have hbw := hb; clear hb))
  · have hk3 := blk_new w2 (.cells #[.int .i64 (d : Int), .string nm, .int .i64 (-1)] 121)
    have hB3 := below_alloc HB2.out (.cells #[.int .i64 (d : Int), .string nm, .int .i64 (-1)] 121)
    have HR5 := Aside0.mk (blk_alloc (blk_below HR4.out (below_step (below_drew1 (Below.refl w1.heap.size w1)) hbw)) (.cells #[.int .i64 (d : Int), .string nm, .int .i64 (-1)] 121))
    have HGS : Aside0 (w.heap.size ≤ w2.heap.size) := ⟨HB2.out.size⟩
    have HGN : Aside0 (w2.heap.size ≠ w.heap.size) := ⟨by have := blk_lt (blk_below HR4.out (below_step (below_drew1 (Below.refl w1.heap.size w1)) hbw)); omega⟩
    clear hbc hbf hx2 hbw
    generalize w2.alloc (.cells #[.int .i64 (d : Int), .string nm, .int .i64 (-1)] 121) = w3 at *
    generalize w2.heap.size = g at *
    have HB3 := Aside0.mk hB3
    have HK3 := Aside0.mk hk3
    have hg0 := blk_cell hk3 0
    have hg1 := blk_cell hk3 1
    have hg2 := blk_cell hk3 2
    simp only [List.getElem?_toArray, List.getElem?_cons_zero, List.getElem?_cons_succ] at hg0 hg1 hg2
    have hW3 : Wk w3 b (.slice A l.length cap) rest := blk_below HW.out hB3
    have hC3 := Kd.C_below HC.out hB3
    clear hk3
    obtain ⟨ad, A2, c2, A3, c3, e, -, -, -, hx3, -, -, hl3, hCe⟩ := at_T58 HC.out (d : Int) (by omega) (by omega)
    subst e
    rw [Int.toNat_natCast] at hx3
    have hrd : rd_T58 l (d : Int) = nd l d := rfl
    rw [hrd] at hx3 hl3 hCe
    have hal0 : (ad.add (d * 4)).block < w.heap.size := World.block_lt_of_cell? w ⟨(ad.add (d * 4)).block, (ad.add (d * 4)).off + 3, none⟩ hx3
    have HCW := Aside0.mk hCe
    replace hx3 := (hB3.cell (p := ⟨(ad.add (d * 4)).block, (ad.add (d * 4)).off + 3, none⟩) hal0).trans hx3
    replace hCe := Kd.C_below hCe hB3
    have h0 : w3.cell? ⟨b, 0, none⟩ = some (.slice (some ad) l.length cap) := (blk_cell hW3 0).trans rfl
    have hdb : ((rd_T58 l (d : Int)).f0 == 2) = false := hd
    have hd0 : (0 : Int) ≤ (d : Int) := by omega
    have hd1 : (d : Int) < (l.length : Int) := by omega
    have HW3 := Aside0.mk hW3
    have HC3 := Aside0.mk hC3
    have HCE := Aside0.mk hCe
    have HL3 := Aside0.mk hl3
    have hsm := HO.out.small d
    have hsr := HO.out.wf.srt d
    have HSR := Aside0.mk hsr
    have hgl : g < w3.heap.size := blk_lt HK3.out
    have hbl3 : b < w3.heap.size := blk_lt HW3.out
    have hal3 := World.block_lt_of_cell? _ _ hx3
    clear hW3 hC3 hrd hl3 hCe hsr hB3
    go_wp2_with (first | (go_at_call 82; refine (dir_walk b _ cap l rest d _ hdl HW3.out HC3.out).mono ?_; rintro e w4 ⟨rfl, hw4⟩; subst w4) | (go_at_call 81; refine (need_bad 22 _).mono ?_; rintro e w4 ⟨rfl, hw4⟩; subst w4; exact ⟨rfl, rfl, HB3.out⟩))
  · have hk2 := blk_below (blk_drew (blk_new w1 (.cells #[.int .i64 0, .string ⟨#[]⟩, .int .i64 0] 121))) hbw
    have hk3 : (((w2.setCell ⟨w1.heap.size, 0, none⟩ (.int .i64 (d : Int))).setCell ⟨w1.heap.size, 1, none⟩ (.string nm)).setCell ⟨w1.heap.size, 2, none⟩ (.int .i64 (-1))).heap[w1.heap.size]? = some (.cells #[.int .i64 (d : Int), .string nm, .int .i64 (-1)] 121 (0, 0)) := blk_put (blk_put (blk_put hk2 0 (.int .i64 (d : Int)) rfl) 1 (.string nm) rfl) 2 (.int .i64 (-1)) rfl
    have HGS : Aside0 (w.heap.size ≤ w1.heap.size) := ⟨HB.out.size⟩
    have HGN : Aside0 (w1.heap.size ≠ w.heap.size) := ⟨by have := blk_lt HR4.out; omega⟩
    have hB3 := ((HB2.out.setCell (p := ⟨w1.heap.size, 0, none⟩) HGS.out (.int .i64 (d : Int))).setCell (p := ⟨w1.heap.size, 1, none⟩) HGS.out (.string nm)).setCell (p := ⟨w1.heap.size, 2, none⟩) HGS.out (.int .i64 (-1))
    have hr5 := blk_below HR4.out (below_step (below_drew1 (below_alloc (Below.refl w1.heap.size w1) _)) hbw)
    have HR5 := Aside0.mk (blk_far (p := ⟨w1.heap.size, 2, none⟩) (blk_far (p := ⟨w1.heap.size, 1, none⟩) (blk_far (p := ⟨w1.heap.size, 0, none⟩) hr5 (Ne.symm HGN.out) (.int .i64 (d : Int))) (Ne.symm HGN.out) (.string nm)) (Ne.symm HGN.out) (.int .i64 (-1)))
    clear hbc hbf hx2 hbw hk2 hr5
    generalize ((w2.setCell ⟨w1.heap.size, 0, none⟩ (.int .i64 (d : Int))).setCell ⟨w1.heap.size, 1, none⟩ (.string nm)).setCell ⟨w1.heap.size, 2, none⟩ (.int .i64 (-1)) = w3 at *
    generalize w1.heap.size = g at *
    have HB3 := Aside0.mk hB3
    have HK3 := Aside0.mk hk3
    have hg0 := blk_cell hk3 0
    have hg1 := blk_cell hk3 1
    have hg2 := blk_cell hk3 2
    simp only [List.getElem?_toArray, List.getElem?_cons_zero, List.getElem?_cons_succ] at hg0 hg1 hg2
    have hW3 : Wk w3 b (.slice A l.length cap) rest := blk_below HW.out hB3
    have hC3 := Kd.C_below HC.out hB3
    clear hk3
    obtain ⟨ad, A2, c2, A3, c3, e, -, -, -, hx3, -, -, hl3, hCe⟩ := at_T58 HC.out (d : Int) (by omega) (by omega)
    subst e
    rw [Int.toNat_natCast] at hx3
    have hrd : rd_T58 l (d : Int) = nd l d := rfl
    rw [hrd] at hx3 hl3 hCe
    have hal0 : (ad.add (d * 4)).block < w.heap.size := World.block_lt_of_cell? w ⟨(ad.add (d * 4)).block, (ad.add (d * 4)).off + 3, none⟩ hx3
    have HCW := Aside0.mk hCe
    replace hx3 := (hB3.cell (p := ⟨(ad.add (d * 4)).block, (ad.add (d * 4)).off + 3, none⟩) hal0).trans hx3
    replace hCe := Kd.C_below hCe hB3
    have h0 : w3.cell? ⟨b, 0, none⟩ = some (.slice (some ad) l.length cap) := (blk_cell hW3 0).trans rfl
    have hdb : ((rd_T58 l (d : Int)).f0 == 2) = false := hd
    have hd0 : (0 : Int) ≤ (d : Int) := by omega
    have hd1 : (d : Int) < (l.length : Int) := by omega
    have HW3 := Aside0.mk hW3
    have HC3 := Aside0.mk hC3
    have HCE := Aside0.mk hCe
    have HL3 := Aside0.mk hl3
    have hsm := HO.out.small d
    have hsr := HO.out.wf.srt d
    have HSR := Aside0.mk hsr
    have hgl : g < w3.heap.size := blk_lt HK3.out
    have hbl3 : b < w3.heap.size := blk_lt HW3.out
    have hal3 := World.block_lt_of_cell? _ _ hx3
    clear hW3 hC3 hrd hl3 hCe hsr hB3
    go_wp2_with (first | (go_at_call 82; refine (dir_walk b _ cap l rest d _ hdl HW3.out HC3.out).mono ?_; rintro e w4 ⟨rfl, hw4⟩; subst w4) | (go_at_call 81; refine (need_bad 22 _).mono ?_; rintro e w4 ⟨rfl, hw4⟩; subst w4; exact ⟨rfl, rfl, HB3.out⟩))
end Go.Proofs.YtllfjmmdackgdaaDoor.PZ
end
