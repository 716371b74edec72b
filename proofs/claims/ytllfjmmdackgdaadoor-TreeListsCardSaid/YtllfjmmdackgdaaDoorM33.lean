import Derived.Test.YtllfjmmdackgdaaDoorM27
import Derived.Test.YtllfjmmdackgdaaDoorM29
import Derived.Test.YtllfjmmdackgdaaDoorM32
import Derived.Test.YtllfjmmdackgdaaDoorM25
import Derived.Test.YtllfjmmdackgdaaDoorM19
import Derived.Maps.OwnOps
import Derived.Test.YtllfjmmdackgdaaDoorM23
set_option linter.unusedVariables false
set_option linter.unusedSimpArgs false
/-! GNumber -/
section
namespace Go.Proofs.YtllfjmmdackgdaaDoor.PZ
open Go.RowKit Go.Proofs.YtllfjmmdackgdaaDoorW.PrintWords Go.Proofs.YtllfjmmdackgdaaDoorW.PrintLast Go.Proofs.YtllfjmmdackgdaaDoorW.PrintMore TD
attribute [local go_sem ↓] Go.wp_at_zero Go.wp_at_succ
set_option maxRecDepth 100000
set_option linter.unusedVariables false
set_option linter.unusedSimpArgs false
/-- Of the blocks that were there those of entries alone have changed. -/
def KeepT (w w' : World) : Prop := ∀ (i : Nat) (cells : Array Value) (t : TypeId), w.heap[i]? = some (Obj.cells cells t (0, 0)) → t ≠ 102 → w'.heap[i]? = some (Obj.cells cells t (0, 0))
theorem KeepT.of {w W : World} (h : Below w.heap.size w W) : KeepT w W := fun i cells t hi _ => (h.block i (blk_lt hi)).trans hi
theorem KeepT.trans {w w1 w2 : World} (h : KeepT w w1) (h2 : KeepT w1 w2) : KeepT w w2 := fun i cells t hi ht => h2 i cells t (h i cells t hi ht) ht
theorem KeepT.set_new {w W : World} (h : KeepT w W) {p : Addr} (hp : w.heap.size ≤ p.block) (v : Value) : KeepT w (W.setCell p v) := fun i cells t hi ht => (Below.heap_setCell W p v i (by have := blk_lt hi; omega)).trans (h i cells t hi ht)
theorem KeepT.set_E {w W : World} (h : KeepT w W) {p : Addr} {ce : Array Value} (hp : W.heap[p.block]? = some (.cells ce 102 (0, 0))) (v : Value) : KeepT w (W.setCell p v) := fun i cells t hi ht => by
  have h1 := h i cells t hi ht
  refine (Below.heap_setCell W p v i (fun e => ?_)).trans h1
  rw [e, hp] at h1
  injection h1 with h1
  injection h1 with _ h1 _
  exact ht h1.symm
theorem grown_set (W : World) (p : Addr) (v : Value) : W.grownBy (W.setCell p v) (some p.block) :=
  ⟨rfl, rfl, rfl, by simp, fun k _ hk => Below.heap_setCell _ _ _ k (fun e => hk (by rw [e]))⟩
theorem grown_drew {w w1 : World} {row : Option Nat} (h : w.drew.grownBy w1 row) : w.grownBy w1 row := ⟨h.os, h.tape, h.output, h.size, h.block⟩
theorem order_row {w W : World} {m : List Nat} {v : Value} (h : W.ownsRow w.heap.size 3 1 v m.length (vals m)) (hp : 0 < m.length) :
    ∃ g c cur, v = .slice (some ⟨g, 0, none⟩) m.length c ∧ w.heap.size ≤ g ∧ W.heap[g]? = some (.cells cur 3 (0, 0)) ∧ m.length ≤ c ∧ ∀ i (hi : i < m.length), cur[i]? = some (.int .i64 (m[i] : Int)) := by
  rcases h.2 with ⟨_, h0⟩ | ⟨g, cap, cur, hv, hb, hh, hnc, hcm, hcs, ht⟩
  · omega
  · refine ⟨g, cap, cur, hv, hb, hh, hnc, fun i hi => ?_⟩
    have h1 : (cur.toList.take (m.length * 1))[i]? = (vals m)[i]? := by rw [ht]
    rw [List.getElem?_take, if_pos (by omega)] at h1
    have h2 : (vals m)[i]? = some (.int .i64 (m[i] : Int)) := by simp [vals, hi]
    rw [← h2, ← h1]
    simp
/-- What holds while entries are renumbered. -/
structure NumI (w : World) (B g cap : Nat) (ok : Nat → Prop) (n : Nat) (m : List Nat) (M go co oB rB : Nat) (xs : List S58) (W : World) : Prop where
  map : W.ownsMap Tryd.prog 3 (plainElem (H := Unit) Tryd.prog 3) M m.length (placeD m)
  raw : Kd.R (Kd.raw 4) 58 W w.heap.size (fun _ => True) (.slice (some ⟨go, 0, none⟩) m.length co) (m.map (cellsAt w g))
  out : W.heap[oB]? = some (.cells #[.slice (some ⟨go, 0, none⟩) m.length co] 42 (0, 0))
  res : W.heap[rB]? = some (.cells #[.slice none 0 0] 42 (0, 0))
  nodes : Kd.S k58 58 W B ok (.slice (some ⟨g, 0, none⟩) n cap) xs
  bel : Below B w W
  keep : KeepT w W
  size : w.heap.size ≤ W.heap.size
theorem grown_drewed (w : World) (row : Option Nat) : w.grownBy w.drew row := ⟨rfl, rfl, rfl, Nat.le_refl _, fun _ _ _ => rfl⟩
section
variable {w W : World} {B g cap n M go co oB rB : Nat} {ok : Nat → Prop} {m : List Nat} {xs ys : List S58}
theorem NumI.drew (h : NumI w B g cap ok n m M go co oB rB xs W) : NumI w B g cap ok n m M go co oB rB xs W.drew :=
  ⟨h.map.kept (grown_drewed W none) (by simp), Kd.R_drew h.raw, blk_drew h.out, blk_drew h.res, Kd.S_drew h.nodes, below_drew h.bel, fun i c t h1 h2 => h.keep i c t h1 h2, h.size⟩
theorem NumI.alloc (h : NumI w B g cap ok n m M go co oB rB xs W) (hB : B ≤ w.heap.size) (o : Obj) : NumI w B g cap ok n m M go co oB rB xs (W.alloc o) :=
  ⟨h.map.alloc _, Kd.R_alloc h.raw o, blk_alloc h.out o, blk_alloc h.res o, Kd.S_alloc h.nodes o, h.bel.alloc (Nat.le_trans hB h.size) o, h.keep.trans (KeepT.of (below_alloc (Below.refl _ _) o)), by have := h.size; simp; omega⟩
/-- An entry is stored into. -/
theorem NumI.set (h : NumI w B g cap ok n m M go co oB rB xs W) {ge o : Nat} {v : Value} (hg : B ≤ ge) (ht : ∃ cells, W.heap[ge]? = some (.cells cells 102 (0, 0))) (hS : Kd.S k58 58 (W.setCell ⟨ge, o, none⟩ v) B ok (.slice (some ⟨g, 0, none⟩) n cap) ys) : NumI w B g cap ok n m M go co oB rB ys (W.setCell ⟨ge, o, none⟩ v) := by
  obtain ⟨cells, hc⟩ := ht
  have hm := h.map
  obtain ⟨es, ck, hh, _⟩ := hm
  have hne : ∀ {q : Nat} {cs : Array Value} {t : TypeId}, W.heap[q]? = some (.cells cs t (0, 0)) → t ≠ 102 → q ≠ ge := fun h1 h2 e => by
    rw [e, hc] at h1
    injection h1 with h1
    injection h1 with _ h1 _
    exact h2 h1.symm
  exact ⟨h.map.kept (grown_set W ⟨ge, o, none⟩ v) (fun e => by injection e with e; rw [e] at hh; rw [hh] at hc; cases hc), Kd.R_set h.raw hc (by decide) o v, blk_far (p := ⟨ge, o, none⟩) h.out (hne h.out (by decide)) v, blk_far (p := ⟨ge, o, none⟩) h.res (hne h.res (by decide)) v, hS, h.bel.setCell (p := ⟨ge, o, none⟩) hg v, h.keep.set_E (p := ⟨ge, o, none⟩) hc v, by have := h.size; simpa using this⟩
/-- The place of an entry's node. -/
theorem NumI.look (h : NumI w B g cap ok n m M go co oB rB xs W) (hnd : m.Nodup) {k : Nat} (hk : k ∈ m) (hk2 : k < 1000000) : (Instr.lookup 106 (.map (some M)) (.int .i64 (k : Int)) false).run Tryd.prog W = .ok (.int .i64 (m.idxOf k : Int)) W :=
  lookup_run (Go.Maps.int_keyed Tryd.underlying3) Tryd.underlying106 Tryd.underlying3 (Tryd.zeroValue3 W) (i64_wf 0 (by omega)) h.map (.int .i64 (k : Int)) (.int .i64 (k : Int)) (Go.Maps.keyOf_int_mk Tryd.underlying3 (i64_wf k (by omega))) _ (placeD_at k m.length m rfl hnd hk)
/-- A node's cells as they were at first. -/
theorem NumI.cell (h : NumI w B g cap ok n m M go co oB rB xs W) {cs : Array Value} (hg : w.heap[g]? = some (.cells cs 58 (0, 0))) (o : Nat) : W.cell? ⟨g, o, none⟩ = w.cell? ⟨g, o, none⟩ := by
  rw [blk_cell hg, blk_cell (h.keep g cs 58 hg (by decide))]
end
theorem num_step {w W : World} {B g cap M go co oB rB : Nat} {ok : Nat → Prop} {m : List Nat} {l : List S58} {j k q : Nat} (h : NumI w B g cap ok l.length m M go co oB rB (setE (rnL l j) k (esL l k q)) W) (hk : k < l.length) (hq : q < (nd l k).f3.length) :
    ∃ ge ce, W.cell? ⟨g, k * 4 + 3, none⟩ = some (.slice (some ⟨ge, 0, none⟩) (nd l k).f3.length ce) ∧ (nd l k).f3.length ≤ ce ∧ W.cell? ⟨ge, q * 2 + 1, none⟩ = some (.int .i64 (nd l k).f3[q].f1) ∧ W.frozen? ⟨ge, q * 2 + 1, none⟩ = false ∧ (∃ cells, W.heap[ge]? = some (.cells cells 102 (0, 0))) ∧
      NumI w B g cap ok l.length m M go co oB rB (setE (rnL l j) k (esL l k (q + 1))) (W.setCell ⟨ge, q * 2 + 1, none⟩ (.int .i64 (pl l (ino (nd l k).f3[q]) : Int))) := by
  have hkr : k < (rnL l j).length := by rw [rnL_len]; exact hk
  have hks : k < (setE (rnL l j) k (esL l k q)).length := by rw [setE_len]; exact hkr
  have hf : (nd (setE (rnL l j) k (esL l k q)) k).f3 = esL l k q := by rw [nd_setE_same hkr]
  have hql : q < (nd (setE (rnL l j) k (esL l k q)) k).f3.length := by rw [hf, esL_len]; exact hq
  obtain ⟨ge, ce, h1, h2, h3, h4, h5, h6, h7, h8⟩ := S_entry h.nodes k hks q hql
  have he : (nd (setE (rnL l j) k (esL l k q)) k).f3[q] = (nd l k).f3[q] := by
    have e1 : (nd (setE (rnL l j) k (esL l k q)) k).f3[q] = (esL l k q)[q]'(by rw [esL_len]; exact hq) := by congr 1
    rw [e1, esL_at hq]
  have hl : (nd (setE (rnL l j) k (esL l k q)) k).f3.length = (nd l k).f3.length := by rw [hf, esL_len]
  rw [he] at h3 h8
  rw [hl] at h1 h2
  refine ⟨ge, ce, h1, h2, h3, h4, h7, h.set h5 h7 ?_⟩
  have h9 := h8 (pl l (ino (nd l k).f3[q]) : Int)
  rw [hf, esL_set hq, setE_setE hkr] at h9
  exact h9
theorem NumI.pick {w W : World} {B g cap M go co oB rB : Nat} {ok : Nat → Prop} {m : List Nat} {xs : List S58} (h : NumI w B g cap ok xs.length m M go co oB rB xs W) {cs : Array Value} (hg : w.heap[g]? = some (.cells cs 58 (0, 0))) (hm : m.Nodup) (hlt : ∀ k ∈ m, k < xs.length) (hB : B ≤ w.heap.size) :
    Kd.S k58 58 W B (fun k => ok k ∨ w.heap.size ≤ k) (.slice (some ⟨go, 0, none⟩) m.length co) (m.map (nd xs)) := by
  have hc : cellsAt W g = cellsAt w g := by
    funext k
    unfold cellsAt
    rw [h.cell hg, h.cell hg, h.cell hg, h.cell hg]
  have hr := h.raw
  rw [← hc] at hr
  exact S_pick h.nodes hm hlt (Kd.R_mono (Kd.R_bound hr) (ok' := fun k => w.heap.size ≤ k) (fun k hk => hk.2.1)) hB
set_option maxHeartbeats 8000000 in
theorem number_walk (B g cap : Nat) (ok : Nat → Prop) (l : List S58) (w : World) (hS : Kd.S k58 58 w B ok (.slice (some ⟨g, 0, none⟩) l.length cap) l) (hw : Wf l) (h56 : l.length ≤ 56) (h64 : ∀ k, (nd l k).f3.length ≤ 64) (hBw : B ≤ w.heap.size) :
    Calls Tryd.prog 47 #[.agg #[.slice (some ⟨g, 0, none⟩) l.length cap]] w fun e w' => ∃ v, e = .returned (.agg #[v]) ∧ Kd.S k58 58 w' B (fun k => ok k ∨ w.heap.size ≤ k) v (num l) ∧ Below B w w' ∧ KeepT w w' := by
  have hmm := @run_makeMap Tryd.prog
  have hN := mt_len_le l
  have hNp : 0 < (mt l).length := by have := List.length_pos_of_mem hw.zero; exact this
  obtain ⟨A0, c0, he0, hc0, hC0⟩ := Kd.S_reads hS
  injection he0 with e1 e2 e3
  subst e1 e3
  have hgl : g < w.heap.size := Kd.S_lt hS g (by simp [Value.ownBlock])
  have HS := Aside0.mk hS
  have HC := Aside0.mk hC0
  have HW := Aside0.mk hw
  have H64 := Aside0.mk h64
  clear hS hC0 hw h64
  obtain ⟨N, hNe⟩ : ∃ N, (mt l).length = N := ⟨_, rfl⟩
  rw [hNe] at hN hNp
  have HNE := Aside0.mk hNe
  clear hNe
  go_enter Tryd.func47, Tryd.ntmps47
  go_wp2_with (first | (go_at_call 51; (with_reducible refine (met_walk _ cap l _ hc0 (Kd.C_below HC.out (by repeat (first | with_reducible exact Below.refl _ _ | with_reducible apply below_drew1 | with_reducible apply below_alloc))) HW.out h56 H64.out).mono ?_); rintro e w1 ⟨v3, rfl, hrow, hb⟩; obtain ⟨g3, c3, cur, rfl, hg3, hh3, hc3, hcur⟩ := order_row hrow (by rw [HNE.out]; exact hNp); rw [HNE.out] at hc3 ⊢; have HB1 := Aside0.mk (below_step (below_alloc (below_alloc (Below.refl w.heap.size w) _) _) hb); have HBX := Aside0.mk (blk_below (blk_alloc (blk_new w _) _) hb); have HO3 := Aside0.mk hh3; have HCUR := Aside0.mk hcur; have hgw : w.heap.size + 2 ≤ g3 := (by simp at hg3; omega); have hgw1 := blk_lt hh3; have hb1 := hb.size; simp at hb1; have HRES := Aside0.mk (blk_below (blk_new2 w _ _) hb);  clear hrow hb hh3 hcur hg3))
  have m0 := World.ownsMap_made (w1) Tryd.prog 3 (plainElem (H := Unit) Tryd.prog 3)
  go_loopw [19] (fun v19 wr => ∃ (i : Nat) (vo : Value), v19 = .int .i64 i ∧ i ≤ N ∧ Aside0 (wr.ownsMap Tryd.prog 3 (plainElem (H := Unit) Tryd.prog 3) w1.heap.size i (placeD ((mt l).take i))) ∧ Aside0 (Kd.R (Kd.raw 4) 58 wr w.heap.size (fun _ => True) vo (((mt l).take i).map (cellsAt w g))) ∧ Aside0 (wr.heap[w1.heap.size + 1]? = some (.cells #[vo] 42 (0, 0))) ∧ Aside0 (wr.heap[w.heap.size]? = some (.cells #[.slice (some ⟨g, 0, none⟩) l.length cap] 42 (0, 0))) ∧ Aside0 (wr.heap[w.heap.size + 1]? = some (.cells #[.slice none 0 0] 42 (0, 0))) ∧ Aside0 (wr.heap[g3]? = some (.cells cur 3 (0, 0))) ∧ Aside0 (Below w.heap.size w wr)) (fun v19 _ => N - (intOf v19).toNat)
  case atStart => exact ⟨0, _, rfl, Nat.zero_le _, ⟨m0.alloc _⟩, ⟨Kd.R_nil _ _ _ _ _⟩, ⟨by have h := blk_new2 w1 (.map #[] 0) (.cells #[.slice none 0 0] 42); exact h⟩, ⟨blk_alloc (blk_alloc HBX.out _) _⟩, ⟨blk_alloc (blk_alloc HRES.out _) _⟩, ⟨blk_alloc (blk_alloc HO3.out _) _⟩, ⟨below_alloc (below_alloc HB1.out _) _⟩⟩
  case round =>
    obtain ⟨i, vo, rfl, hi, HM, HR, HOUT, HBXr, HRESr, HOr, HBr⟩ := hrel
    by_cases hlt : i < N
    · have hil : i < (mt l).length := by rw [HNE.out]; exact hlt
      have hkl : (mt l)[i] < l.length := mt_lt (List.getElem_mem hil)
      have hx3 := (blk_cell HOr.out i).trans (HCUR.out i hil)
      have htk : ((mt l).take (i + 1)) = (mt l).take i ++ [(mt l)[i]] := List.take_succ_eq_append_getElem hil
      have HTK := Aside0.mk htk
      have htl : ((mt l).take i).length = i := by rw [List.length_take]; omega
      have HTL := Aside0.mk htl
      clear htk htl
      generalize (mt l)[i] = k at *
      obtain ⟨hc0, hc1, ⟨A2, c2, hc2⟩, ⟨A3, c3', hc3'⟩⟩ := S_cells HS.out k hkl
      have hcs : cellsAt w g k = [.int .i64 (nd l k).f0, .int .i64 (nd l k).f1, .slice A2 (nd l k).f2.length c2, .slice A3 (nd l k).f3.length c3'] := by unfold cellsAt; rw [hc0, hc1, hc2, hc3']; rfl
      have HCS := Aside0.mk hcs
      obtain ⟨Ao, no, co, rfl⟩ := R_any HR.out
      have hkw : (Lit.int .i64 (k : Int)).wf = true := i64_wf k (by omega)
      have hiw : (Lit.int .i64 (i : Int)).wf = true := i64_wf i (by omega)
      have HKW := Aside0.mk hkw
      have HIW := Aside0.mk hiw
      have hi3 : (0 : Int) ≤ (i : Int) := by omega
      have hi4 : (i : Int) < (N : Int) := by omega
      have hk3 : (0 : Int) ≤ (k : Int) := by omega
      have hk4 : (k : Int) < (l.length : Int) := by omega
      clear hcs hkw hiw
      go_wp2_with (at_mapUpdate; refine wpList_mapUpdate_own _ rfl _ _ _ 106 rfl 3 3 (Go.Maps.int_keyed Tryd.underlying3) Tryd.underlying106 _ w1.heap.size i _ rfl HM.out (by unfold maxLen; omega) _ _ (.int .i64 (k : Int)) rfl rfl (Go.Maps.keyOf_int_mk Tryd.underlying3 HKW.out) _ [] (plainElem_int Tryd.underlying3 HIW.out) ?_; intro w3 hm3 hg3'; have HM3 := Aside0.mk hm3; have HG3 := Aside0.mk hg3'; clear hm3 hg3')
      have HB3 := Aside0.mk (pw_below_grown HBr.out _ HBr.out.size HG3.out (fun q hq => by injection hq with hq; omega))
      have HOUT3 := Aside0.mk (blk_grown HOUT.out HG3.out (by simp))
      have HBX3 := Aside0.mk (blk_grown HBXr.out HG3.out (fun h => by injection h with h; omega))
      have HRES3 := Aside0.mk (blk_grown HRESr.out HG3.out (fun h => by injection h with h; omega))
      have HO33 := Aside0.mk (blk_grown HOr.out HG3.out (fun h => by injection h with h; omega))
      have hmr := own_map_ne (Kd.R_own HR.out).choose_spec HM.out
      have HR3 := Aside0.mk (Kd.R_mono (Kd.R_grown (Kd.R_tight rfl HR.out) HG3.out (fun q hq h => hmr (hq.symm.trans h))) (ok' := fun _ => True) (fun _ _ => trivial))
      have hyo := (blk_cell HOUT3.out 0).trans (show _ = some (Value.slice Ao no co) from rfl)
      have hyt := (blk_cell HBX3.out 0).trans (show _ = some (Value.slice (some ⟨g, 0, none⟩) l.length cap) from rfl)
      have hyf := blk_frozen HOUT3.out 0
      have hlt3 := blk_lt HOUT3.out
      have hlt4 := blk_lt HBX3.out
      have hz0 := (HB3.out.cell (p := ⟨g, k * 4, none⟩) hgl).trans hc0
      have hz1 := (HB3.out.cell (p := ⟨g, k * 4 + 1, none⟩) hgl).trans hc1
      have hz2 := (HB3.out.cell (p := ⟨g, k * 4 + 2, none⟩) hgl).trans hc2
      have hz3 := (HB3.out.cell (p := ⟨g, k * 4 + 3, none⟩) hgl).trans hc3'
      have hno := (Kd.R_reads' HR.out).1
      rw [List.length_map, HTL.out] at hno
      obtain rfl : i = no := hno.symm
      clear hno
      have HPM : Aside0 ([Value.int .i64 (nd l k).f0, .int .i64 (nd l k).f1, .slice A2 (nd l k).f2.length c2, .slice A3 (nd l k).f3.length c3'] = cellsAt w g k ∧ 4 = 4 ∧ ∀ u ∈ [Value.int .i64 (nd l k).f0, .int .i64 (nd l k).f1, .slice A2 (nd l k).f2.length c2, .slice A3 (nd l k).f3.length c3'], u.oneCell' = true) := ⟨HCS.out.symm, rfl, by intro u hu; simp at hu; rcases hu with rfl | rfl | rfl | rfl <;> rfl⟩
      have HLL : Aside0 (((((mt l).take i).map (cellsAt w g)).length + 1) * 64 ≤ 140737488355328) := ⟨by rw [List.length_map, HTL.out]; omega⟩
      have HSZ3 := Aside0.mk HB3.out.size
      have Z04 : 0 < (Kd.raw 4).sz := Nat.succ_pos 3
      have Z064 : 0 < 64 := Nat.succ_pos 63
      have Z := info58
      have T1 := Aside0.mk (Kd.R_drew HR3.out)
      have T2 : Aside0 ((Kd.raw 4).M w3.drew w.heap.size (fun _ => False) (cellsAt w g k) [Value.int .i64 (nd l k).f0, .int .i64 (nd l k).f1, .slice A2 (nd l k).f2.length c2, .slice A3 (nd l k).f3.length c3']) := ⟨HPM.out⟩
      have T3 : Aside0 (Below w.heap.size w3.drew w3.drew) := ⟨Below.refl _ _⟩
      have T4 : Aside0 (w.heap.size ≤ w3.drew.heap.size) := ⟨HSZ3.out⟩
      simp only [Act.put]
      go_region_law ((refine R_append_step2 (Kd.raw 4) (w0 := w3.drew) (W := w3.drew) w.heap.size (by rfl) (.tmp 28) (.tmp 34) 40 58 (.agg #[.int .i64 0, .int .i64 0, .slice none 0 0, .slice none 0 0]) 64 (by rfl) Tryd.underlying40 Z (by rfl) Z04 Z064 (.slice Ao i co) (((mt l).take i).map (cellsAt w g)) (cellsAt w g k) [Value.int .i64 (nd l k).f0, .int .i64 (nd l k).f1, .slice A2 (nd l k).f2.length c2, .slice A3 (nd l k).f3.length c3'] (fun _ => True) (fun _ => False) w3.heap.size (by rfl) (by rfl) (by rfl) (by rfl) T2.out (fun _ h => h.elim) (fun _ _ => trivial) T1.out T3.out T4.out HLL.out ?_; intro v4 w4 ho hbb hg hat; obtain ⟨A4, n4, c4, rfl⟩ := R_any ho; have HO4 := Aside0.mk ho; have HG4 := Aside0.mk (grown_drew hg); have HOUT4 := Aside0.mk (blk_grown HOUT3.out HG4.out (Kd.R_ne HR3.out HOUT3.out (by decide))); have hy4 := (blk_cell HOUT4.out 0).trans (show _ = some (Value.slice Ao i co) from rfl); have hyf4 := blk_frozen HOUT4.out 0; clear ho hbb hg hat))
      all_goals go_wp2
      all_goals
        go_roundw
        case rel =>
          refine ⟨i + 1, _, by go_num, by omega, ⟨?_⟩, ⟨?_⟩, ⟨blk_put HOUT4.out 0 _ rfl⟩, ⟨blk_far (p := ⟨w1.heap.size + 1, 0, none⟩) (blk_grown HBX3.out HG4.out (Kd.R_ne HR3.out HBX3.out (by decide))) (by show w.heap.size ≠ w1.heap.size + 1; omega) _⟩, ⟨blk_far (p := ⟨w1.heap.size + 1, 0, none⟩) (blk_grown HRES3.out HG4.out (Kd.R_ne HR3.out HRES3.out (by decide))) (by show w.heap.size + 1 ≠ w1.heap.size + 1; omega) _⟩, ⟨blk_far (p := ⟨w1.heap.size + 1, 0, none⟩) (blk_grown HO33.out HG4.out (Kd.R_ne HR3.out HO33.out (by decide))) (by show g3 ≠ w1.heap.size + 1; omega) _⟩, ⟨?_⟩⟩
          · rw [HTK.out, placeD_snoc, HTL.out]
            exact (HM3.out.kept HG4.out (fun h => own_map_ne (Kd.R_own HR3.out).choose_spec HM3.out h.symm)).kept (grown_set _ _ _) (by simp)
          · rw [HTK.out, List.map_append]
            exact Kd.R_set HO4.out HOUT4.out (by decide) 0 _
          · exact (pw_below_grown HB3.out _ HB3.out.size HG4.out (fun q hq => Kd.R_base HR3.out q hq)).setCell (p := ⟨w1.heap.size + 1, 0, none⟩) (by show w.heap.size ≤ w1.heap.size + 1; omega) _
        case measure => simp [intOf]; omega
    · have hiN : i = N := by omega
      subst hiN
      have hge : ¬ ((i : Int) < (i : Int)) := Int.lt_irrefl _
      have htk : (mt l).take i = mt l := List.take_of_length_le (by rw [HNE.out]; exact Nat.le_refl _)
      rw [htk] at HM HR
      clear htk
      obtain ⟨go, co, hvo, hgo, hgol, -⟩ := Kd.R_form HR.out (by rw [List.length_map, HNE.out]; exact hNp)
      rw [List.length_map] at hvo
      subst hvo
      have HG := Aside0.mk (Kd.S_form HS.out (by omega)).choose_spec
      obtain ⟨csg, hcsg⟩ : ∃ cs, w.heap[g]? = some (.cells cs 58 (0, 0)) := by obtain ⟨cs, h⟩ := Kd.S_typed HS.out g (by simp [Value.ownBlock]); exact ⟨cs, h⟩
      have HCG := Aside0.mk hcsg
      clear HG hcsg
      have hM0 := HM.out
      rw [← HNE.out] at hM0
      have HI0 : Aside0 (NumI w B g cap ok l.length (mt l) w1.heap.size go co (w1.heap.size + 1) (w.heap.size + 1) (rnL l 0) wr) := ⟨⟨hM0, HR.out, HOUT.out, HRESr.out, by rw [rnL_zero]; exact Kd.S_below HS.out HBr.out, Below.mono HBr.out hBw, KeepT.of HBr.out, HBr.out.size⟩⟩
      clear hM0 HM HR HOUT HRESr HOr HBXr
      have hyo := (blk_cell HI0.out.out 0).trans (show _ = some (Value.slice (some ⟨go, 0, none⟩) (mt l).length co) from rfl)
      rw [HNE.out] at hyo
      go_wp2
      clear hyo hge
      obtain ⟨wo, rfl⟩ : ∃ wo : World, wo = wr := ⟨_, rfl⟩
      go_loopw [41] (fun v41 wq => ∃ i2 : Nat, v41 = .int .i64 i2 ∧ i2 ≤ i ∧ Aside0 (NumI w B g cap ok l.length (mt l) w1.heap.size go co (w1.heap.size + 1) (w.heap.size + 1) (rnL l i2) wq)) (fun v41 _ => i - (intOf v41).toNat)
      case atStart => exact ⟨0, rfl, Nat.zero_le _, HI0⟩
      case round =>
        obtain ⟨j, rfl, hj, HI⟩ := hrel
        by_cases hlt2 : j < i
        · have hil : j < (mt l).length := by rw [HNE.out]; exact hlt2
          have hkm : (mt l)[j] ∈ mt l := List.getElem_mem hil
          have hkl : (mt l)[j] < l.length := mt_lt hkm
          have HRN := Aside0.mk (rnL_succ hil)
          have HRA := Aside0.mk (rnL_at hil)
          have hmj : ((mt l).map (cellsAt w g)).getD j [] = cellsAt w g (mt l)[j] := by rw [List.getD_eq_getElem?_getD, List.getElem?_map, List.getElem?_eq_getElem hil]; rfl
          obtain ⟨c, hcl, hcM, hcc, -⟩ := Kd.R_elem HI.out.raw [] (j : Int) (by omega) (by rw [HNE.out]; omega)
          rw [Int.toNat_natCast, hmj] at hcM
          rw [Int.toNat_natCast] at hcc
          have hcM1 : c = cellsAt w g (mt l)[j] := hcM.1
          have HKM := Aside0.mk hkm
          clear hmj hcM hkm
          generalize (mt l)[j] = k at *
          obtain ⟨hc0, hc1, ⟨A2, c2, hc2⟩, ⟨A3, c3', hc3'⟩⟩ := S_cells HS.out k hkl
          have hcs : cellsAt w g k = [.int .i64 (nd l k).f0, .int .i64 (nd l k).f1, .slice A2 (nd l k).f2.length c2, .slice A3 (nd l k).f3.length c3'] := by unfold cellsAt; rw [hc0, hc1, hc2, hc3']; rfl
          rw [hcs] at hcM1
          subst hcM1
          have hz0 : wr.cell? ⟨go, j * 4, none⟩ = some (.int .i64 (nd l k).f0) := hcc 0 _ rfl
          have hz1 : wr.cell? ⟨go, j * 4 + 1, none⟩ = some (.int .i64 (nd l k).f1) := hcc 1 _ rfl
          have hz2 : wr.cell? ⟨go, j * 4 + 2, none⟩ = some (.slice A2 (nd l k).f2.length c2) := hcc 2 _ rfl
          have hz3 : wr.cell? ⟨go, j * 4 + 3, none⟩ = some (.slice A3 (nd l k).f3.length c3') := hcc 3 _ rfl
          have h64k := H64.out k
          have hj3 : (0 : Int) ≤ (j : Int) := by omega
          have hj4 : (j : Int) < (i : Int) := by omega
          clear hcc hcs hcl
          obtain ⟨wp, rfl⟩ : ∃ wp : World, wp = wr := ⟨_, rfl⟩
          go_wp2
          clear hz0 hz1 hz2 hz3
          go_loopw [48] (fun v48 wz => ∃ q : Nat, v48 = .int .i64 q ∧ q ≤ (nd l k).f3.length ∧ Aside0 (NumI w B g cap ok l.length (mt l) w1.heap.size go co (w1.heap.size + 1) (w.heap.size + 1) (setE (rnL l j) k (esL l k q)) wz) ∧ Aside0 (wz.heap[wp.heap.size]? = some (.cells #[.int .i64 (nd l k).f0, .int .i64 (nd l k).f1, .slice A2 (nd l k).f2.length c2, .slice A3 (nd l k).f3.length c3'] 58 (0, 0)))) (fun v48 _ => (nd l k).f3.length - (intOf v48).toNat)
          case atStart => exact ⟨0, rfl, Nat.zero_le _, ⟨by rw [esL_zero, setE_self (by rw [rnL_len]; exact hkl) (by rw [HRA.out])]; exact HI.out.alloc hBw _⟩, ⟨blk_new _ _⟩⟩
          case round =>
            obtain ⟨q, rfl, hq, HQ, HNB⟩ := hrel
            by_cases hlq : q < (nd l k).f3.length
            · obtain ⟨ge, ce, hx3, hce, hxq, hxf, ⟨cse, hcse⟩, hnext⟩ := num_step HQ.out hkl hlq
              have hsame := (HQ.out.cell HCG.out (k * 4 + 3)).symm.trans hx3
              rw [hc3'] at hsame
              injection hsame with hsame
              injection hsame with e1 e2 e3
              subst e1 e3
              clear e2
              have hmem : (nd l k).f3[q] ∈ (nd l k).f3 := List.getElem_mem hlq
              have hino := HW.out.ino_lt hmem
              have hlk := HQ.out.drew.look (mt_nodup l) (HW.out.mt_step HKM.out hmem) (by omega)
              rw [hino.2.2] at hlk
              have hpl : ((mt l).idxOf (ino (nd l k).f3[q]) : Int) = (pl l (ino (nd l k).f3[q]) : Int) := rfl
              rw [hpl] at hlk
              have HNX := Aside0.mk hnext
              have hnge := blk_ne HNB.out hcse (by decide)
              have hyn := (blk_cell HNB.out 3).trans (show _ = some (Value.slice (some ⟨ge, 0, none⟩) (nd l k).f3.length c3') from rfl)
              have hq3 : (0 : Int) ≤ (q : Int) := by omega
              have hq4 : (q : Int) < ((nd l k).f3.length : Int) := by omega
              clear hnext hx3 hmem hino hpl hcse
              generalize (nd l k).f3[q] = en at *
              go_wp2
              go_region_with (fail)
              all_goals go_wp2
              all_goals
                go_roundw
                case rel => exact ⟨q + 1, by go_num, by omega, ⟨HNX.out.drew⟩, ⟨blk_drew (blk_far (p := ⟨ge, q * 2 + 1, none⟩) HNB.out hnge _)⟩⟩
                case measure => simp [intOf]; omega
            · have hqe : q = (nd l k).f3.length := by omega
              subst hqe
              have hge : ¬ (((nd l k).f3.length : Int) < ((nd l k).f3.length : Int)) := Int.lt_irrefl _
              have hqn := HQ.out
              rw [esL_end, HRN.out] at hqn
              have HQN := Aside0.mk hqn
              clear hqn
              go_wp2
              go_roundw
              case rel => exact ⟨j + 1, by go_num, by omega, ⟨HQN.out⟩⟩
              case measure => simp [intOf]; omega
        · have hje : j = i := by omega
          subst hje
          have hge : ¬ ((j : Int) < (j : Int)) := Int.lt_irrefl _
          have hi0 := HI.out
          rw [← HNE.out] at hi0
          have hso0 := NumI.pick (xs := rnL l (mt l).length) (by rw [rnL_len]; exact hi0) HCG.out (mt_nodup l) (fun k hk => by rw [rnL_len]; exact mt_lt hk) hBw
          have hso : Kd.S k58 58 wr B (fun k => ok k ∨ w.heap.size ≤ k) (.slice (some ⟨go, 0, none⟩) (mt l).length co) (outR l) := hso0
          have hsox := hso
          have hol : (outR l).length = j := by rw [outR_len, HNE.out]
          obtain ⟨A9, c9, e9, hc9, hC9⟩ := Kd.S_reads hso
          injection e9 with e1 e2 e3
          subst e1 e3
          have HC9 := Aside0.mk hC9
          rw [e2] at hsox
          have HSO := Aside0.mk hsox
          clear hsox
          have ho64 : ∀ k, (nd (outR l) k).f3.length ≤ 64 := fun k => by
            rcases Nat.lt_or_ge k (mt l).length with h | h
            · rw [nd_outR h]
              show (List.map _ _).length ≤ 64
              rw [List.length_map]
              exact H64.out _
            · rw [nd_out (by rw [outR_len]; exact h)]
              exact Nat.zero_le _
          obtain ⟨kk, hkk⟩ := (links_ev (outR_wf HW.out) (by omega) ho64).rounds
          have HKK := Aside0.mk hkk
          have hyo := (blk_cell HI.out.out 0).trans (show _ = some (Value.slice (some ⟨go, 0, none⟩) (mt l).length co) from rfl)
          rw [e2] at hyo
          have HIJ := Aside0.mk HI.out
          clear hi0 hso0 hso hC9 hkk ho64 HI
          have hnl : 0 < (outR l).length := by omega
          have hnl5 : (outR l).length ≤ 56 := by omega
          clear hol
          go_wp2_with (go_at_call 52; (with_reducible refine (tree_links.calls kk _ co (outR l) _ _ _ HC9.out hc9 HKK.out).mono ?_); rintro e w5 ⟨v0, v1, rfl, hr0, hr1, hb⟩; obtain ⟨g0, c0', hv0, hg0, hg0l, -⟩ := Kd.R_form hr0 (by rw [tabl_len]; omega); rw [tabl_len] at hv0; subst hv0; have HR0 := Aside0.mk hr0; have HB5 := Aside0.mk hb; have hyo5 := (blk_cell (blk_below HIJ.out.out hb) 0).trans (show _ = some (Value.slice (some ⟨go, 0, none⟩) (mt l).length co) from rfl); rw [e2] at hyo5; clear hr0 hr1 hb)
          obtain ⟨wo, rfl⟩ : ∃ wo : World, wo = wr := ⟨_, rfl⟩
          go_loopw [74] (fun v74 wq => ∃ q : Nat, v74 = .int .i64 q ∧ q ≤ (outR l).length ∧ Aside0 (Kd.S k58 58 wq B (fun k => ok k ∨ w.heap.size ≤ k) (.slice (some ⟨go, 0, none⟩) (outR l).length co) (lkL (outR l) (own (outR l)) q)) ∧ Aside0 (Kd.R (Kd.int .i64) 3 wq w.heap.size (fun _ => True) (.slice (some ⟨g0, 0, none⟩) (outR l).length c0') (tabl (outR l).length (own (outR l)))) ∧ Aside0 (wq.heap[w1.heap.size + 1]? = some (.cells #[.slice (some ⟨go, 0, none⟩) (outR l).length co] 42 (0, 0))) ∧ Aside0 (wq.heap[w.heap.size + 1]? = some (.cells #[.slice none 0 0] 42 (0, 0))) ∧ Aside0 (Below B w wq) ∧ Aside0 (KeepT w wq)) (fun v74 _ => (outR l).length - (intOf v74).toNat)
          case atStart => exact ⟨0, rfl, Nat.zero_le _, ⟨by rw [lkL_zero]; exact Kd.S_below HSO.out HB5.out⟩, ⟨Kd.R_lower (Kd.R_mono HR0.out (fun _ _ => trivial)) HIJ.out.size⟩, ⟨by have h := blk_below HIJ.out.out HB5.out; rw [e2] at h; exact h⟩, ⟨blk_below HIJ.out.res HB5.out⟩, ⟨Below.trans HIJ.out.bel (Below.mono HB5.out (Nat.le_trans hBw HIJ.out.size))⟩, ⟨HIJ.out.keep.trans (KeepT.of HB5.out)⟩⟩
          case round =>
            obtain ⟨q, rfl, hq, HS9, HR9, HO9, HRES9, HB9, HK9⟩ := hrel
            by_cases hlq : q < (outR l).length
            · obtain ⟨hlf, hput⟩ := S_links HS9.out q (by rw [lkL_len]; exact hlq)
              obtain ⟨hcl, -, -, -⟩ := S_cells HS9.out q (by rw [lkL_len]; exact hlq)
              have hcl2 := (S_cells HS9.out q (by rw [lkL_len]; exact hlq)).2.1
              have h9 := hput (own (outR l) q)
              rw [lkL_set hlq] at h9
              have H9 := Aside0.mk h9
              obtain ⟨ad, ea, hx9⟩ := Kd.at_int (Kd.R_reads' HR9.out).2.2 (q : Int) (by omega) (by rw [tabl_len]; omega)
              injection ea with ea
              subst ea
              rw [rd_tabl _ _ _ hlq, Int.toNat_natCast, add_plain] at hx9
              have hyq := (blk_cell HO9.out 0).trans (show _ = some (Value.slice (some ⟨go, 0, none⟩) (outR l).length co) from rfl)
              have hq3 : (0 : Int) ≤ (q : Int) := by omega
              have hq4 : (q : Int) < ((outR l).length : Int) := by omega
              obtain ⟨csq, hcsq⟩ := Kd.S_typed HS9.out go (by simp [Value.ownBlock])
              have HCSQ := Aside0.mk hcsq
              have hne1 := blk_ne HO9.out hcsq (by decide)
              have hne2 := blk_ne HRES9.out hcsq (by decide)
              have hcl4 : q < co := by omega
              clear hput h9 hcsq
              generalize own (outR l) q = ow at *
              go_wp2
              go_region_with (fail)
              all_goals go_wp2
              all_goals
                go_roundw
                case rel => exact ⟨q + 1, by go_num, by omega, ⟨Kd.S_drew H9.out⟩, ⟨Kd.R_drew (Kd.R_set HR9.out HCSQ.out (by decide) _ _)⟩, ⟨blk_drew (blk_far (p := ⟨go, q * 4 + 1, none⟩) HO9.out hne1 _)⟩, ⟨blk_drew (blk_far (p := ⟨go, q * 4 + 1, none⟩) HRES9.out hne2 _)⟩, ⟨below_drew1 (HB9.out.setCell (p := ⟨go, q * 4 + 1, none⟩) (Nat.le_trans hBw hgo) _)⟩, ⟨fun i c t h1 h2 => (HK9.out.set_new (p := ⟨go, q * 4 + 1, none⟩) hgo _) i c t h1 h2⟩⟩
                case measure => simp [intOf]; omega
            · have hqe : q = (outR l).length := by omega
              subst hqe
              have hge : ¬ (((outR l).length : Int) < ((outR l).length : Int)) := Int.lt_irrefl _
              have hyq := (blk_cell HO9.out 0).trans (show _ = some (Value.slice (some ⟨go, 0, none⟩) (outR l).length co) from rfl)
              have hyr := (blk_cell HRES9.out 0).trans (show _ = some (Value.slice none 0 0) from rfl)
              have hyf := blk_frozen HRES9.out 0
              have hs9 := HS9.out
              rw [lkL_num] at hs9
              have HS10 := Aside0.mk hs9
              clear hs9
              go_wp2
              have HRP := Aside0.mk (blk_put HRES9.out 0 (.slice (some ⟨go, 0, none⟩) (outR l).length co) rfl)
              refine bodyPost_ret (results_c rfl _ _ (w.heap.size + 1) 42 _ (0, 0) _ rfl HRP.out Tryd.underlying42 rfl (by kernel_rfl)) rfl ⟨_, rfl, ?_, ?_, ?_⟩
              · exact Kd.S_set HS10.out HRES9.out (by decide) 0 _
              · exact HB9.out.setCell (p := ⟨w.heap.size + 1, 0, none⟩) (Nat.le_trans hBw (Nat.le_succ _)) _
              · exact HK9.out.set_new (p := ⟨w.heap.size + 1, 0, none⟩) (Nat.le_succ _) _
end Go.Proofs.YtllfjmmdackgdaaDoor.PZ
end
/-! TL -/
section
namespace Go.Proofs.YtllfjmmdackgdaaDoor.PZ
open Go.RowKit Go.Proofs.YtllfjmmdackgdaaDoorW.PrintWords Go.Proofs.YtllfjmmdackgdaaDoorW.PrintLast Go.Proofs.YtllfjmmdackgdaaDoorW.PrintMore Go.Proofs.YtllfjmmdackgdaaDoor.Ord Go.Proofs.YtllfjmmdackgdaaDoor.B TD
set_option maxRecDepth 100000
set_option linter.unusedVariables false
set_option linter.unusedSimpArgs false
theorem num_wk {l : List S58} (h : Wf l) (ns : List ByteArray) : wk (num l) ns 0 = (match wk l ns 0 with | .inl k => .inl (pl l k) | .inr e => .inr e) := by
  have h1 := (iso_num h).wk ns h.zero
  rw [pl_zero h] at h1
  exact h1
theorem num_place {l : List S58} (h : Wf l) (p : ByteArray) : placeF (num l) p = (match placeF l p with | .inl k => .inl (pl l k) | .inr e => .inr e) := by
  unfold placeF
  split
  · exact num_wk h _
  · rfl
theorem fileplace {l : List S58} {p : ByteArray} {k : Nat} (h : placeF l p = .inl k) : wk l (splitA p).1 0 = .inl k := by
  unfold placeF at h
  split at h
  · exact h
  · cases h
/-- A further name of a file, and what is found there. -/
theorem linked {l l' : List S58} {p q : ByteArray} (h : Rt l) (hc : linkF l p q = .inl l') :
    ∃ k d nm, placeF l p = .inl k ∧ k < l.length ∧ (nd l k).f0 = 1 ∧ placeF l' p = .inl k ∧ placeF l' q = .inl k ∧ (nd l' k).f0 = 1 ∧ (∀ j, (nd l' j).f0 = (nd l j).f0 ∧ (nd l' j).f2 = (nd l j).f2) ∧ spotF l' q = .inl (d, nm, some k) ∧ (nd l' d).f0 = 2 ∧ num (cutT l' d nm) = l ∧ placeF l q = .inr 21 ∧
      (nd (num l') (pl l' k)).f1 = (nd l k).f1 + 1 := by
  have hpr := link_pr h hc
  unfold linkF at hc
  split at hc
  · cases hc
  rename_i h0
  split at hc
  · cases hc
  split at hc
  · cases hc
  rename_i k hk
  split at hc
  · cases hc
  rename_i hd0
  split at hc
  · cases hc
  rename_i hr
  split at hc
  · cases hc
  · cases hc
  rename_i d nm hs
  split at hc
  · split at hc
    · cases hc
    · injection hc with hc
      subst hc
      have h0 := Classical.not_not.1 h0
      have hkl := wk_lt h.pr.wf h.pr.wf.pos hk
      obtain ⟨h1, hk1⟩ := file_one h hkl hd0
      obtain ⟨t, hq, hw, hd, hn, ho⟩ := spot_at hs hr
      have hdl := (spotF_inl hs).choose_spec.2.2.2.2.1
      have hfr := spot_free hs
      have hw1 := wk_put_keep (h.pr.wf.srt d) hdl hfr k hw
      have hw2 := wk_put_at (h.pr.wf.srt d) hd nm k hw1
      have hkp := wk_put_keep (h.pr.wf.srt d) hdl hfr k hk
      have hf0 : ∀ j, (nd (putT l d nm k) j).f0 = (nd l j).f0 := fun j => by unfold putT; rw [setE_f0]
      have hf2 : ∀ j, (nd (putT l d nm k) j).f2 = (nd l j).f2 := fun j => by unfold putT; rw [setE_f2]
      have hd2 : (nd (putT l d nm k) d).f0 = 2 := by rw [hf0]; exact hd
      have hmet : ∀ j, j < l.length → j ∈ mt (putT l d nm k) := fun j hj => by
        obtain ⟨ns, hns⟩ := met_wk h.pr.wf (h.full hj)
        exact wk_met hpr.wf hpr.wf.zero (wk_put_keep (h.pr.wf.srt d) hdl hfr k hns)
      have hkm := hmet k hkl
      refine ⟨k, d, nm, ?_, hkl, h1, ?_, ?_, by rw [hf0]; exact h1, fun j => ⟨hf0 j, hf2 j⟩, ?_, hd2, ?_, ?_, ?_⟩
      · unfold placeF; rw [if_pos h0]; exact hk
      · unfold placeF; rw [if_pos h0]; exact hkp
      · unfold placeF; rw [hq, if_pos rfl]; exact hw2
      · unfold spotF
        rw [hq, if_pos rfl]
        dsimp only
        rw [List.dropLast_concat, hw1]
        dsimp only
        rw [if_pos hd2, List.getLastD_concat]
        have h3 : (nd (putT l d nm k) d).f3 = putL (nd l d).f3 nm (k : Int) := by unfold putT; rw [setE_f3 hdl, if_pos rfl]
        rw [h3, look_put_same (h.pr.wf.srt d)]
        simp [ino]
      · rw [cut_putT (h.pr.wf.srt d) hdl, cutT_none hdl hfr]
        exact h.num
      · unfold placeF
        rw [hq, if_pos rfl]
        dsimp only
        rw [wk_append, hw]
        dsimp only
        unfold wk
        rw [if_pos hd, hfr]
      · rw [f1_num hkm, own_num hpr.wf hkm (fun _ x hx _ => hmet x (by have : (putT l d nm k).length = l.length := (by unfold putT; rw [setE_len]); omega)), h.own k hkl]
        unfold own
        rw [hf0, if_neg hd0, if_neg hd0]
        have hu := ups_put (h.pr.wf.srt d) hdl nm k k
        rw [if_pos rfl, cutT_none hdl hfr] at hu
        omega
  · cases hc
/-! ### Bytes -/
theorem part_all {b : List Int} (h : b.length ≤ 46368) : partF b 0 100000 = b := by
  unfold partF
  rw [show (0 : Int).toNat = 0 from rfl, List.drop_zero, List.take_of_length_le (by show b.length ≤ 100000; omega)]
theorem sizedF_get (b : List Int) (n i : Nat) : (sizedF b n).getD i 0 = if i < n then b.getD i 0 else 0 := by
  unfold sizedF
  rw [List.getD_eq_getElem?_getD, List.getD_eq_getElem?_getD, List.getElem?_append, List.length_take, List.getElem?_replicate, List.getElem?_take]
  by_cases h : i < n
  · rw [if_pos h, if_pos h]
    by_cases h2 : i < min n b.length
    · rw [if_pos h2]
    · rw [if_neg h2, List.getElem?_eq_none (by omega : b.length ≤ i)]
      split <;> rfl
  · rw [if_neg h, if_neg h, if_neg (by omega : ¬ i < min n b.length)]
    split <;> rfl
theorem overF_get (b x : List Int) (a i : Nat) (h : a + x.length ≤ b.length) : (overF b a x).getD i 0 = if a ≤ i ∧ i - a < x.length then x.getD (i - a) 0 else b.getD i 0 := by
  unfold overF
  rw [List.getD_eq_getElem?_getD, List.getD_eq_getElem?_getD, List.getD_eq_getElem?_getD, List.append_assoc, List.getElem?_append, List.length_take, Nat.min_eq_left (by omega)]
  by_cases h1 : i < a
  · rw [if_pos h1, if_neg (by omega), List.getElem?_take, if_pos h1]
  · rw [if_neg h1, List.getElem?_append]
    by_cases h2 : i - a < x.length
    · rw [if_pos h2, if_pos ⟨by omega, h2⟩]
    · rw [if_neg h2, if_neg (by omega), List.getElem?_drop, show a + x.length + (i - a - x.length) = i by omega]
theorem setD_place {l : List S58} {k : Nat} (hk : k < l.length) (b : List Int) (p : ByteArray) : placeF (setD l k b) p = placeF l p := by
  unfold placeF
  split
  · exact wk_setD hk _ 0
  · rfl
theorem file_place {l : List S58} {p : ByteArray} {k : Nat} (h : fileF l p = .inl k) : placeF l p = .inl k := by
  unfold fileF at h
  split at h
  · cases h
  · split at h
    · cases h
    · injection h with h; subst h; assumption
theorem setD_file {l : List S58} {k : Nat} (hk : k < l.length) (b : List Int) (p : ByteArray) : fileF (setD l k b) p = fileF l p := by
  unfold fileF
  rw [setD_place hk]
  split
  · rfl
  · rw [(setD_keep hk _).1]
theorem read_all {l : List S58} (h : Rt l) {p : ByteArray} {k : Nat} (hk : fileF l p = .inl k) : readF l p 0 100000 = .inl (nd l k).f2 := by
  unfold readF
  rw [hk]
  dsimp only
  rw [if_pos ⟨by omega, by omega⟩, part_all (h.pr.size k)]
/-- What is written is read; all else is as it was. -/
theorem written {l l' : List S58} {p : ByteArray} {a : Int} {x : List Int} (h : Rt l) (hc : writeF l p a x = .inl l') :
    0 ≤ a ∧ Rt l' ∧ l'.length = l.length ∧ ∃ k, placeF l p = .inl k ∧ k < l.length ∧ readF l p 0 100000 = .inl (nd l k).f2 ∧ readF l' p 0 100000 = .inl (nd l' k).f2 ∧
      (nd l' k).f2.length = (if x.length = 0 then (nd l k).f2.length else max (nd l k).f2.length (a.toNat + x.length)) ∧
      (∀ i, (nd l' k).f2.getD i 0 = if a.toNat ≤ i ∧ i - a.toNat < x.length then x.getD (i - a.toNat) 0 else (nd l k).f2.getD i 0) ∧ (∀ j, j ≠ k → (nd l' j).f2 = (nd l j).f2) := by
  have hrt := write_rt h hc
  unfold writeF at hc
  split at hc
  · cases hc
  rename_i k hk
  split at hc
  · rename_i hn
    injection hc with hc
    obtain ⟨hkl, hd, -, -⟩ := fileF_lt0 h.ok hk
    have hro := read_all h hk
    split at hc
    · rename_i hx
      subst hc
      refine ⟨hn.1, hrt, rfl, k, file_place hk, hkl, hro, hro, by rw [if_pos hx], fun i => ?_, fun j _ => rfl⟩
      rw [if_neg (by omega)]
    · rename_i hx
      subst hc
      have hk' : fileF (setD l k (overF (sizedF (nd l k).f2 (max (nd l k).f2.length (a.toNat + x.length))) a.toNat x)) p = .inl k := by rw [setD_file hkl]; exact hk
      have hle : a.toNat + x.length ≤ (sizedF (nd l k).f2 (max (nd l k).f2.length (a.toNat + x.length))).length := by rw [sizedF_len]; omega
      refine ⟨hn.1, hrt, setD_len, k, file_place hk, hkl, hro, read_all hrt hk', ?_, fun i => ?_, fun j hj => ?_⟩
      · rw [if_neg hx, nd_setD_same hkl]
        dsimp only
        rw [overF_len _ _ _ hle, sizedF_len]
      · rw [nd_setD_same hkl]
        dsimp only
        rw [overF_get _ _ _ _ hle]
        split
        · rfl
        · rw [sizedF_get]
          split
          · rfl
          · rw [List.getD_eq_getElem?_getD, List.getElem?_eq_none (by omega)]; rfl
      · rw [nd_setD_ne hj]
  · cases hc
theorem spot_place {l : List S58} {p : ByteArray} {s : Nat × ByteArray × Option Nat} (h : spotF l p = .inl s) (hr : p ≠ rootP) (j : Nat) : placeF l p = .inl j ↔ s.2.2 = some j := by
  obtain ⟨d, nm, o⟩ := s
  obtain ⟨q, hq, hw, hd, -, ho⟩ := spot_at h hr
  unfold placeF
  rw [hq, if_pos rfl]
  dsimp only
  rw [wk_append, hw, ho]
  dsimp only
  unfold wk
  rw [if_pos hd]
  cases look (nd l d).f3 nm with
  | none =>
    constructor
    · intro h; cases h
    · intro h; cases h
  | some e =>
    dsimp only [Option.map]
    unfold wk
    constructor
    · intro h; injection h with h; rw [h]
    · intro h; injection h with h; rw [h]
/-- What was at a path is at the other one behind a rename. -/
theorem renamed {l l' : List S58} {p q : ByteArray} (h : Rt l) (hc : renameF l p q = .inl l') :
    ∃ k, placeF l p = .inl k ∧ k < l.length ∧ ((placeF l q = .inl k ∧ l' = l) ∨ (placeF l q ≠ .inl k ∧ placeF (num l') p = .inr 21 ∧
      ∃ k2, placeF (num l') q = .inl k2 ∧ (nd (num l') k2).f0 = (nd l k).f0 ∧ (nd (num l') k2).f1 = (nd l k).f1 ∧ (nd (num l') k2).f2 = (nd l k).f2 ∧ (nd (num l') k2).f3.length = (nd l k).f3.length)) := by
  have hpr := rename_pr h hc
  obtain ⟨hrp, hrq, k, a, b, hk, ha, hb, h0, h1, hx⟩ := rename_mv h hc
  have hkl := wk_lt h.pr.wf h.pr.wf.pos hk
  refine ⟨k, by unfold placeF; rw [if_pos h0]; exact hk, hkl, ?_⟩
  rcases hx with ⟨hs, rfl⟩ | ⟨hs, fp, tp, hsp, hsq, hm, rfl⟩
  · exact .inl ⟨(spot_place hb hrq k).2 hs, rfl⟩
  · have hmt := hm.met
    have hI := iso_num hpr.wf
    refine .inr ⟨fun he => hs ((spot_place hb hrq k).1 he), ?_, pl (mvT l a.2.1 b.2.1 a.1 b.1 k) k, ?_, ?_, ?_, ?_, ?_⟩
    · rw [num_place hpr.wf]
      unfold placeF
      rw [hsp, if_pos rfl]
      dsimp only
      rw [hm.wkgone]
    · rw [num_place hpr.wf]
      unfold placeF
      rw [hsq, if_pos rfl]
      dsimp only
      rw [hm.wkt]
    · rw [hI.kind k hmt, Mv.kf0]
    · rw [f1_num hmt, hm.own, h.own k hkl]
    · rw [hI.data k hmt, Mv.kf2]
    · rw [hI.ents k hmt, List.length_map, hm.kf3]
end Go.Proofs.YtllfjmmdackgdaaDoor.PZ
end
