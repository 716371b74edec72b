import Derived.Test.YtllfjmmdackgdaaDoorM23
import Derived.Test.YtllfjmmdackgdaaDoorM15
import Derived.Lib.SliceRun
import Derived.RangeFuncNested
import Derived.RangeFuncBound
import Derived.RangeFuncCalls
import Derived.RangeFuncLeaves
import Derived.Shelf.Abstract
import Derived.WalkKit
import Derived.OwnWalkIn
import Derived.TacticsInMore
import Derived.LoopNIn
import Derived.LoopIn
import Derived.Maps.OwnIn
import Derived.Test.YtllfjmmdackgdaaDoorM05
set_option linter.unusedVariables false
set_option linter.unusedSimpArgs false
/-! TN -/
section
namespace Go.Proofs.YtllfjmmdackgdaaDoor.PZ
open Go.RowKit Go.Proofs.YtllfjmmdackgdaaDoorW.PrintWords Go.Proofs.YtllfjmmdackgdaaDoorW.PrintLast Go.Proofs.YtllfjmmdackgdaaDoorW.PrintMore Go.Proofs.YtllfjmmdackgdaaDoor.Ord Go.Proofs.YtllfjmmdackgdaaDoor.B TD
set_option linter.unusedVariables false
set_option linter.unusedSimpArgs false
/-- Those met first have their entries renumbered. -/
def rnL (l : List S58) (i : Nat) : List S58 := (List.range l.length).map fun k => if k ∈ (mt l).take i then ⟨(nd l k).f0, (nd l k).f1, (nd l k).f2, (nd l k).f3.map (ren (pl l))⟩ else nd l k
theorem rnL_len (l : List S58) (i : Nat) : (rnL l i).length = l.length := by simp [rnL]
theorem nd_rnL {l : List S58} {i k : Nat} (hk : k < l.length) : nd (rnL l i) k = if k ∈ (mt l).take i then ⟨(nd l k).f0, (nd l k).f1, (nd l k).f2, (nd l k).f3.map (ren (pl l))⟩ else nd l k := by
  rw [nd_get (by rw [rnL_len]; exact hk)]
  simp only [rnL, List.getElem_map, List.getElem_range]
theorem list_nd_ext {a b : List S58} (hl : a.length = b.length) (h : ∀ k, k < a.length → nd a k = nd b k) : a = b := by
  refine List.ext_getElem hl fun k h1 h2 => ?_
  rw [← nd_get h1, ← nd_get h2]
  exact h k h1
theorem rnL_zero (l : List S58) : rnL l 0 = l :=
  list_nd_ext (rnL_len l 0) fun k hk => by rw [nd_rnL (by rw [rnL_len] at hk; exact hk)]; simp
theorem rnL_at {l : List S58} {i : Nat} (h : i < (mt l).length) : nd (rnL l i) (mt l)[i] = nd l (mt l)[i] := by
  have hm : (mt l)[i] ∈ mt l := List.getElem_mem h
  rw [nd_rnL (mt_lt hm), if_neg]
  intro h2
  obtain ⟨j, hj, e⟩ := List.getElem_of_mem h2
  rw [List.length_take] at hj
  rw [List.getElem_take] at e
  have := (List.getElem_inj (mt_nodup l)).1 e
  omega
theorem rnL_succ {l : List S58} {i : Nat} (h : i < (mt l).length) : setE (rnL l i) (mt l)[i] ((nd l (mt l)[i]).f3.map (ren (pl l))) = rnL l (i + 1) := by
  have hm : (mt l)[i] ∈ mt l := List.getElem_mem h
  have hml := mt_lt hm
  refine list_nd_ext (by rw [setE_len, rnL_len, rnL_len]) fun k hk => ?_
  rw [setE_len, rnL_len] at hk
  rw [nd_rnL hk, List.take_succ_eq_append_getElem h]
  by_cases e : k = (mt l)[i]
  · subst e
    rw [nd_setE_same (by rw [rnL_len]; exact hml), rnL_at h, if_pos (List.mem_append_right _ (List.mem_singleton.2 rfl))]
  · rw [nd_setE_ne e, nd_rnL hk]
    have : (k ∈ (mt l).take i ++ [(mt l)[i]]) ↔ k ∈ (mt l).take i := ⟨fun h => (List.mem_append.1 h).elim id (fun h => absurd (List.mem_singleton.1 h) e), List.mem_append_left _⟩
    simp only [this]
/-- A node's entries, the first j renumbered. -/
def esL (l : List S58) (k j : Nat) : List S102 := ((nd l k).f3.take j).map (ren (pl l)) ++ (nd l k).f3.drop j
theorem esL_len (l : List S58) (k j : Nat) : (esL l k j).length = (nd l k).f3.length := by
  unfold esL
  rw [List.length_append, List.length_map, List.length_take, List.length_drop]
  omega
theorem esL_zero (l : List S58) (k : Nat) : esL l k 0 = (nd l k).f3 := by simp [esL]
theorem esL_end (l : List S58) (k : Nat) : esL l k (nd l k).f3.length = (nd l k).f3.map (ren (pl l)) := by simp [esL]
theorem esL_at {l : List S58} {k j : Nat} (h : j < (nd l k).f3.length) : (esL l k j)[j]'(by rw [esL_len]; exact h) = (nd l k).f3[j] := by
  unfold esL
  have h1 : (((nd l k).f3.take j).map (ren (pl l))).length = j := by rw [List.length_map, List.length_take]; omega
  rw [List.getElem_append_right (by rw [h1]; exact Nat.le_refl _)]
  simp only [h1, Nat.sub_self, List.getElem_drop, Nat.add_zero]
theorem esL_set {l : List S58} {k j : Nat} (h : j < (nd l k).f3.length) : (esL l k j).set j ⟨(nd l k).f3[j].f0, (pl l (ino (nd l k).f3[j]) : Int)⟩ = esL l k (j + 1) := by
  unfold esL
  have h1 : (((nd l k).f3.take j).map (ren (pl l))).length = j := by rw [List.length_map, List.length_take]; omega
  rw [List.set_append_right _ _ (by rw [h1]; exact Nat.le_refl _), h1, Nat.sub_self, List.drop_eq_getElem_cons h, List.set_cons_zero, List.take_succ_eq_append_getElem h, List.map_append, List.append_assoc]
  rfl
/-- The nodes met, renumbered, with the links that they had. -/
def outR (l : List S58) : List S58 := (mt l).map (nd (rnL l (mt l).length))
theorem outR_len (l : List S58) : (outR l).length = (mt l).length := by simp [outR]
theorem nd_outR {l : List S58} {i : Nat} (h : i < (mt l).length) : nd (outR l) i = ⟨(nd l (mt l)[i]).f0, (nd l (mt l)[i]).f1, (nd l (mt l)[i]).f2, (nd l (mt l)[i]).f3.map (ren (pl l))⟩ := by
  have hm : (mt l)[i] ∈ mt l := List.getElem_mem h
  rw [nd_get (by rw [outR_len]; exact h)]
  simp only [outR, List.getElem_map]
  rw [nd_rnL (mt_lt hm), List.take_length, if_pos hm]
theorem outR_renum (l : List S58) (k : Nat) : (nd (outR l) k).f0 = (nd (renum l) k).f0 ∧ (nd (outR l) k).f2 = (nd (renum l) k).f2 ∧ (nd (outR l) k).f3 = (nd (renum l) k).f3 := by
  rcases Nat.lt_or_ge k (mt l).length with h | h
  · have hn : nd (renum l) k = ⟨(nd l (mt l)[k]).f0, 0, (nd l (mt l)[k]).f2, (nd l (mt l)[k]).f3.map (ren (pl l))⟩ := by
      rw [nd_get (l := renum l) (k := k) (by rw [renum_len]; exact h)]
      simp [renum]
    rw [nd_outR h, hn]
    exact ⟨rfl, rfl, rfl⟩
  · rw [nd_out (by rw [outR_len]; exact h), nd_out (by rw [renum_len]; exact h)]
    exact ⟨rfl, rfl, rfl⟩
theorem own_congr2 {a b : List S58} (hl : a.length = b.length) (h : ∀ k, (nd a k).f0 = (nd b k).f0 ∧ (nd a k).f3 = (nd b k).f3) (k : Nat) : own a k = own b k := by
  have hd : dirs a (nd a k).f3 = dirs b (nd b k).f3 := by
    unfold dirs
    rw [(h k).2]
    congr 1
    funext e
    rw [(h _).1]
  have hu : ups a k = ups b k := by
    unfold ups
    congr 1
    refine List.ext_getElem (by simp [hl]) fun i h1 h2 => ?_
    rw [List.length_map] at h1 h2
    rw [List.getElem_map, List.getElem_map, ← nd_get h1, ← nd_get h2, (h i).2]
  unfold own
  rw [(h k).1, hd, hu]
/-- The first i have their links told. -/
def lkL (o : List S58) (f : Nat → Int) (i : Nat) : List S58 := o.mapIdx fun k n => if k < i then ⟨n.f0, f k, n.f2, n.f3⟩ else n
theorem lkL_len (o : List S58) (f : Nat → Int) (i : Nat) : (lkL o f i).length = o.length := by simp [lkL]
theorem lkL_zero (o : List S58) (f : Nat → Int) : lkL o f 0 = o := by
  refine List.ext_getElem (lkL_len _ _ _) fun k h1 h2 => ?_
  simp [lkL]
theorem nd_lkL {o : List S58} {f : Nat → Int} {i k : Nat} (h : k < o.length) : nd (lkL o f i) k = if k < i then ⟨(nd o k).f0, f k, (nd o k).f2, (nd o k).f3⟩ else nd o k := by
  rw [nd_get (by rw [lkL_len]; exact h), nd_get h]
  simp [lkL]
theorem lkL_set {o : List S58} {f : Nat → Int} {i : Nat} (h : i < o.length) : (lkL o f i).set i ⟨(nd (lkL o f i) i).f0, f i, (nd (lkL o f i) i).f2, (nd (lkL o f i) i).f3⟩ = lkL o f (i + 1) := by
  rw [nd_lkL h, if_neg (Nat.lt_irrefl i)]
  refine List.ext_getElem (by simp [lkL]) fun k h1 h2 => ?_
  rw [List.getElem_set]
  have hko : k < o.length := by rw [lkL_len] at h2; exact h2
  by_cases e : i = k
  · subst e
    rw [if_pos rfl]
    simp only [lkL, List.getElem_mapIdx]
    rw [if_pos (Nat.lt_succ_self i), nd_get h]
  · rw [if_neg e]
    simp only [lkL, List.getElem_mapIdx]
    by_cases h3 : k < i
    · rw [if_pos h3, if_pos (by omega)]
    · rw [if_neg h3, if_neg (by omega)]
theorem lkL_num (l : List S58) : lkL (outR l) (own (outR l)) (outR l).length = num l := by
  refine list_nd_ext (by rw [lkL_len, outR_len, num_len]) fun k hk => ?_
  rw [lkL_len] at hk
  have hk2 : k < (renum l).length := by rw [renum_len, ← outR_len]; exact hk
  have ho : own (outR l) k = own (renum l) k := own_congr2 (by rw [outR_len, renum_len]) (fun k => ⟨(outR_renum l k).1, (outR_renum l k).2.2⟩) k
  rw [nd_lkL hk, if_pos hk, (outR_renum l k).1, (outR_renum l k).2.1, (outR_renum l k).2.2, ho, num]
  have h1 := nd_relink (renum l) k
  have h2 : nd (relink (renum l)) k = ⟨(nd (relink (renum l)) k).f0, (nd (relink (renum l)) k).f1, (nd (relink (renum l)) k).f2, (nd (relink (renum l)) k).f3⟩ := rfl
  rw [h2, h1.1, h1.2.1, h1.2.2.1, h1.2.2.2 hk2]
theorem wf_congr {a b : List S58} (hl : a.length = b.length) (h : ∀ k, (nd a k).f0 = (nd b k).f0 ∧ (nd a k).f3 = (nd b k).f3) (hw : Wf a) : Wf b := by
  refine ⟨by rw [← hl]; exact hw.pos, by rw [← (h 0).1]; exact hw.root, fun k hk => by rw [← (h k).2]; exact hw.file k (by rw [(h k).1]; exact hk), fun k => by rw [← (h k).2]; exact hw.srt k, fun k e he => ?_⟩
  rw [← (h k).2] at he
  rw [← hl]
  exact hw.rng k e he
theorem outR_wf {l : List S58} (h : Wf l) : Wf (outR l) := by
  refine wf_congr (a := num l) (by rw [num_len, outR_len]) (fun k => ?_) (num_wf h)
  have h1 := nd_relink (renum l) k
  have h2 := outR_renum l k
  exact ⟨h1.1.trans h2.1.symm, h1.2.2.1.trans h2.2.2.symm⟩
theorem mt_len_le (l : List S58) : (mt l).length ≤ l.length := by
  have := sum_sub (g := fun _ => 1) (mt_nodup l) (r := List.range l.length) (fun x hx => List.mem_range.2 (mt_lt hx))
  rw [sum_ones, sum_ones, List.length_range] at this
  exact this
end Go.Proofs.YtllfjmmdackgdaaDoor.PZ
end
/-! GHalf -/
section
namespace Go.Proofs.YtllfjmmdackgdaaDoor.PZ
open Go.RowKit Go.Proofs.YtllfjmmdackgdaaDoorW.PrintWords Go.Proofs.YtllfjmmdackgdaaDoorW.PrintLast Go.Proofs.YtllfjmmdackgdaaDoorW.PrintMore TD
set_option maxRecDepth 100000
set_option linter.unusedVariables false
set_option linter.unusedSimpArgs false
/-- Elements of which some are as they came in w0. -/
def kH (w0 : World) : Kd (S58 × Bool) where
  sz := 4
  E := k58.E
  K := fun w x cs => match x.2 with | true => k58.K w x.1 cs | false => k58.K w0 x.1 cs
  M := fun w base ok x cs => match x.2 with | true => k58.M w base ok x.1 cs | false => k58.K w0 x.1 cs
  K_len := by rintro w ⟨x, b⟩ cs h; cases b <;> exact k58.K_len h
  K_one := by rintro w ⟨x, b⟩ cs h; cases b <;> exact k58.K_one h
  K_below := by rintro w w1 ⟨x, b⟩ cs hb h; cases b; exact h; exact k58.K_below hb h
  K_of_M := by rintro w base ok ⟨x, b⟩ cs h; cases b; exact h; exact k58.K_of_M h
  M_mono := by rintro w base ok ok' ⟨x, b⟩ cs hk h; cases b; exact h; exact k58.M_mono hk h
  M_bound := by rintro w base ok ⟨x, b⟩ cs h; cases b; exact h; exact k58.M_bound h
  M_move := by rintro w w1 base ok ⟨x, b⟩ cs hk h; cases b; exact h; exact k58.M_move hk h
  M_lower := by rintro w base base' ok ⟨x, b⟩ cs hk h; cases b; exact h; exact k58.M_lower hk h
theorem readsRow_map {α β : Type} {R : α → List Value → Prop} {R' : β → List Value → Prop} {size : Nat} {w w1 : World} {A : Option Addr} {n : Nat} {ps : List α} (h : ReadsRow R size w A n ps) (hb : Below w.heap.size w w1) (f : α → β) (hR : ∀ p c, R p c → R' (f p) c) : ReadsRow R' size w1 A n (ps.map f) := by
  obtain ⟨h1, h2, h3⟩ := ReadsRow.imp_ h hb (fun p c hp => hp)
  refine ⟨by rw [List.length_map]; exact h1, h2, fun hn => ?_⟩
  obtain ⟨ad, e, hc⟩ := h3 hn
  refine ⟨ad, e, fun j p hj => ?_⟩
  rw [List.getElem?_map] at hj
  obtain ⟨q, hq, rfl⟩ := Option.map_eq_some_iff.1 hj
  obtain ⟨c, hs, hr, hcell⟩ := hc j q hq
  exact ⟨c, hs, hR _ _ hr, hcell⟩
/-- One row told in other words. -/
theorem S_map {α β : Type} {d : Kd α} {d' : Kd β} {e : Nat} {w : World} {base : Nat} {ok : Nat → Prop} {v : Value} {xs : List α} (h : Kd.S d e w base ok v xs) (hs : d'.sz = d.sz) (f : α → β) (hM : ∀ (ok : Nat → Prop) (x : α) cs, x ∈ xs → d.M w base ok x cs → d'.M w base ok (f x) cs) : Kd.S d' e w base ok v (xs.map f) := by
  obtain ⟨g, h0, inner, ho, hr⟩ := h
  refine ⟨g, h0, inner, ?_, ?_, fun j p hj => ?_⟩
  · rw [List.length_zipIdx, List.length_map, ← List.length_zipIdx (l := xs)]
    show w.ownsRow base e d'.sz v _ inner
    rw [hs]
    exact ho
  · show inner.length = _ * d'.sz
    rw [List.length_zipIdx, List.length_map, hs]
    have := hr.1
    rw [List.length_zipIdx] at this
    exact this
  · rw [List.getElem?_zipIdx, Nat.zero_add, List.getElem?_map] at hj
    cases hx : xs[j]? with
    | none => rw [hx] at hj; cases hj
    | some x =>
      rw [hx] at hj
      injection hj with hj
      subst hj
      have h2 := hr.2 j (x, j) (Kd.zip_at hx)
      show d'.M w base _ (f x) ((inner.drop (j * d'.sz)).take d'.sz)
      rw [hs]
      exact hM _ x _ (List.mem_of_getElem? hx) h2
/-- All are copied. -/
theorem half_done {w0 w : World} {e base : Nat} {ok : Nat → Prop} {v : Value} {l : List S58} (h : Kd.S (kH w0) e w base ok v (l.map (·, true))) : Kd.S k58 e w base ok v l := by
  have h2 := S_map (d' := k58) h rfl (fun x => x.1) (fun ok x cs hx hm => by
    obtain ⟨y, -, rfl⟩ := List.mem_map.1 hx
    exact hm)
  rw [List.map_map] at h2
  have e : l.map ((fun x : S58 × Bool => x.1) ∘ (·, true)) = l := by
    rw [show ((fun x : S58 × Bool => x.1) ∘ (·, true)) = id from rfl, List.map_id]
  rw [e] at h2
  exact h2
/-- An element that is not copied yet: its cells; its copy. -/
theorem half_node {w0 W : World} {B g n cap : Nat} {xs : List (S58 × Bool)} (h : Kd.S (kH w0) 58 W B (fun _ => True) (.slice (some ⟨g, 0, none⟩) n cap) xs) (i : Nat) (x : S58) (hi : xs[i]? = some (x, false)) (hBW : B ≤ W.heap.size) :
    ∃ A2 c2 A3 c3, W.cell? ⟨g, i * 4 + 2, none⟩ = some (.slice A2 x.f2.length c2) ∧ W.cell? ⟨g, i * 4 + 3, none⟩ = some (.slice A3 x.f3.length c3) ∧ x.f2.length ≤ c2 ∧ (Kd.int .u8).C w0 A2 x.f2.length x.f2 ∧ x.f3.length ≤ c3 ∧ k102.C w0 A3 x.f3.length x.f3 ∧ (∀ j, W.frozen? ⟨g, i * 4 + j, none⟩ = false) ∧ g < W.heap.size ∧
      (∀ (w1 : World) (u2 u3 : Value), Below W.heap.size W w1 → Kd.R (Kd.int .u8) 5 w1 W.heap.size (fun _ => True) u2 x.f2 → Kd.R k102 102 w1 W.heap.size (fun _ => True) u3 x.f3 →
        Kd.S (kH w0) 58 ((w1.setCell ⟨g, i * 4 + 2, none⟩ u2).setCell ⟨g, i * 4 + 3, none⟩ u3) B (fun _ => True) (.slice (some ⟨g, 0, none⟩) n cap) (xs.set i (x, true))) := by
  have hn := (Kd.S_reads' h).1
  have hil := (List.getElem?_eq_some_iff.1 hi).1
  obtain ⟨oki, c, hcl, hM, hcc, hfr, hoki, hH⟩ := Kd.S_elem h (x, false) (i : Int) (by omega) (by omega)
  have hx : xs.getD (i : Int).toNat (x, false) = (x, false) := by rw [Int.toNat_natCast, List.getD_eq_getElem?_getD, hi]; rfl
  rw [hx] at hM
  obtain ⟨A2, c2, A3, c3, rfl, hl2, hC2, hl3, hC3⟩ := k58_open (show k58.K w0 x c from hM)
  rw [Int.toNat_natCast] at hcc hfr
  have hgl : g < W.heap.size := World.block_lt_of_cell? _ _ (hcc 0 _ rfl)
  refine ⟨A2, c2, A3, c3, hcc 2 _ rfl, hcc 3 _ rfl, hl2, hC2, hl3, hC3, hfr, hgl, ?_⟩
  intro w1 u2 u3 hbw hr2 hr3
  have hH2 := Kd.H_widen hH
  obtain ⟨h2, h3⟩ := Kd.H_seg (seg := [u2, u3]) (j := 2) (Kd.H_below hH2 hbw) (by omega) (by omega) (Nat.le_refl 4) (by
    intro q hq
    rcases List.mem_cons.1 hq with rfl | hq
    · exact (Kd.R_val hr2).2
    · rw [List.mem_singleton] at hq
      subst hq
      exact (Kd.R_val hr3).2)
  have hM' : (kH w0).M (w1.setCells g (i * 4 + 2) [u2, u3]) B (fun k => oki k ∨ True ∧ W.heap.size ≤ k) (x, true) [.int .i64 x.f0, .int .i64 x.f1, u2, u3] :=
    k58_mkM _ _ _ x
      (Kd.R_lower (Kd.R_mono (Kd.R_step (Kd.R_bound hr2) (fun k hk hlt => h3.block k hlt (fun he => by injection he with he; have := hk.2.1; omega))) (fun k hk => .inr ⟨trivial, hk.2.1⟩)) hBW)
      (Kd.R_lower (Kd.R_mono (Kd.R_step (Kd.R_bound hr3) (fun k hk hlt => h3.block k hlt (fun he => by injection he with he; have := hk.2.1; omega))) (fun k hk => .inr ⟨trivial, hk.2.1⟩)) hBW)
  have h4 := Kd.H_back (okp := fun k => oki k ∨ True ∧ W.heap.size ≤ k) h2 (x' := (x, true)) hM' (fun k hk => hk)
  rw [Int.toNat_natCast] at h4
  exact h4
theorem clonen_walk (ad : Addr) (c0 : Nat) (l0 : List S58) (w : World) (hr0 : Kd.C k58 w (some ad) l0.length l0) (hc0 : l0.length ≤ c0) (hn : l0.length < 1000000000000) :
    Calls Tryd.prog 65 #[.slice (some ad) l0.length c0] w fun e w' => ∃ v0_ : Value, e = .returned v0_ ∧ Kd.S (kH w) 58 w' w.heap.size (fun _ => True) v0_ (l0.map (·, false)) ∧ Below w.heap.size w w' := by
  have HR0 := Aside0.mk hr0
  clear hr0
  have hnil : ∀ W, (binOp .eql 40 (.slice (some ad) l0.length c0) (.slice none 0 0)).run Tryd.prog W = .ok (.bool false) W := fun W => Lib.run_eql_slice_nil (P := Tryd.prog) W 40 58 (some ad) l0.length c0 0 0 Tryd.underlying40
  have HB := Aside0.mk (Below.refl w.heap.size w)
  go_enter Tryd.func65, Tryd.ntmps65
  go_wp2_with (first | ((with_reducible refine gate_dst (N := 5) rfl ?_); refine Kd.R_lit (Kd.bare (kH w)) _ 58 ?hg (N := 5) ?hd (xs := ([] : List (S58 × Bool))) (inner := []) (ok := fun _ => True) (okp := fun _ => True) ?hr ?hp (fun _ hk => hk) trivial (Below.refl _ _) (Nat.le_refl _) (by simp) ?_; (case hd => rfl); (case hg => rfl); (case hr => first | (go_simp; done) | (go_simp; rfl)); (case hp => exact (Reps.none _ _)); intro v1 w1 ho hb hg_ hnew_; clear hg_ hnew_; have HO := Aside0.mk ho; have HB1 := Aside0.mk hb; clear hb ho) | ((with_reducible refine gate_builtin (b := .append) (xs := #[.tmp 5, .tmp 6]) rfl ?_); at_builtin; refine Kd.R_append_rows (Kd.bare (kH w)) (Rr := fun (x : S58 × Bool) cs => x.2 = false ∧ k58.K w x.1 cs) (w0 := w) w.heap.size rfl (.tmp 5) (.tmp 6) 40 58 _ 64 rfl Tryd.underlying40 info58 rfl (show 0 < 4 by decide) (by omega) v1 [] (l0.map (·, false)) _ _ _ (fun _ => True) (fun _ => False) rfl rfl ?aO ?aR ?aM (fun _ h => h.elim) (fun _ _ => trivial) ?aB ?aS ?aL ?_; (case aR => exact readsRow_map HR0.out HB1.out _ (fun p c hp => ⟨rfl, hp⟩)); (case aM => rintro ⟨x, b⟩ cs ⟨h, hk⟩; cases h; exact hk); (case aB => exact HB1.out); (case aO => exact HO.out); (case aS => exact HB1.out.size); (case aL => simp; omega); intro v2 w2 ho hb hg hat; have HO2 := Aside0.mk ho; have HB2 := Aside0.mk hb; clear ho hb hg hat))
  go_ret
  exact ⟨_, rfl, Kd.S_bare HO2.out, HB2.out⟩
end Go.Proofs.YtllfjmmdackgdaaDoor.PZ
end
/-! GBack -/
section
namespace Go.Proofs.YtllfjmmdackgdaaDoor.PZ
open Go.RowKit Go.Shelf Go.Proofs.YtllfjmmdackgdaaDoorW.PrintWords Go.Proofs.YtllfjmmdackgdaaDoorW.PrintLast Go.Proofs.YtllfjmmdackgdaaDoorW.PrintMore
attribute [local go_sem] Oper.semAt_some
set_option maxRecDepth 100000
set_option linter.unusedVariables false
set_option linter.unusedSimpArgs false
/-- The blocks of KS lie as they lay. -/
def KeepL (KS : Nat → Prop) (W W' : World) : Prop := ∀ b, KS b → W'.heap[b]? = W.heap[b]?
theorem KeepL.refl (KS : Nat → Prop) (W : World) : KeepL KS W W := fun _ _ => rfl
theorem KeepL.trans {KS : Nat → Prop} {A B C : World} (h : KeepL KS A B) (k : KeepL KS B C) : KeepL KS A C := fun b hb => (k b hb).trans (h b hb)
theorem KeepL.cell {KS : Nat → Prop} {W W' : World} (h : KeepL KS W W') {p : Addr} (hp : KS p.block) : W'.cell? p = W.cell? p := World.cell?_of_block (h p.block hp)
/-- What has come when j rounds are over. -/
def bk (es : List S102) (j : Nat) : List (Nat × S102) := (List.range j).map (fun r => (es.length - 1 - r, rd_T102 es ((es.length - 1 - r : Nat) : Int)))
theorem bk_succ (es : List S102) (j : Nat) : bk es (j + 1) = bk es j ++ [(es.length - 1 - j, rd_T102 es ((es.length - 1 - j : Nat) : Int))] := by simp [bk, List.range_succ]
theorem bk_length (es : List S102) (j : Nat) : (bk es j).length = j := by simp [bk]
def encB (x : Nat × S102) : Array Value := #[.int .i64 (x.1 : Int), .agg #[.string x.2.f0, .int .i64 x.2.f1]]
theorem back_in (F : Fence) (n : Nat) (h0 : F.fn 80) (hro : F.round = none) (A : Option Addr) (len cap : Nat) (w : World) :
    CallsIn F n Tryd.prog 80 #[.slice A len cap] w fun e w' => e = .returned (.func (.func 98) #[] #[.pointer (some ⟨w.heap.size, 0, none⟩)]) ∧ w' = w.alloc (.cells #[.slice A len cap] 56) := by
  refine callsIn_of_wp Tryd.func80 rfl h0 ?_ hro
  simp only [Tryd.ntmps80, List.size_toArray, List.length_cons, List.length_nil, Nat.reduceAdd, Nat.reduceSub, Array.replicate_succ, Array.replicate_zero, List.push_toArray, List.append_toArray, List.nil_append, List.cons_append]
  gi_wp2
  go_ret
  exact ⟨rfl, rfl⟩
set_option maxHeartbeats 2000000 in
theorem back1_in (F : Fence) (n : Nat) (h1 : F.fn 98) (hro : F.round = none) (hn : 1 ≤ n) (l Bs : Nat) (KS : Nat → Prop) (A : Option Addr) (cap : Nat) (es : List S102) (hbig : es.length < 1000000000000)
    (hKB : KS Bs) (J Jx : List (Nat × S102) → World → Prop)
    (hY : ∀ pre x W, J pre W → pre.length < es.length → YieldAt F (n - 1) Tryd.prog l (encB x) W fun e W' =>
      (e = .returned (.bool true) ∧ J (pre ++ [x]) W' ∧ KeepL KS W W') ∨ (e = .returned (.bool false) ∧ Jx (pre ++ [x]) W'))
    (W : World) (hKA : ∀ ad, A = some ad → 0 < es.length → KS ad.block) (hBs : W.cell? ⟨Bs, 0, none⟩ = some (.slice A es.length cap)) (hC : Kd.C k102 W A es.length es) (hJ0 : J [] W) :
    CallsIn F n Tryd.prog 98 #[.func (.yield l) #[] #[], .pointer (some ⟨Bs, 0, none⟩)] W fun e W' => (∃ v, e = .returned v) ∧
      ((∃ ys, ys = bk es es.length ∧ J ys W') ∨ (∃ pre, (∃ k, k ≤ es.length ∧ pre = bk es k) ∧ Jx pre W')) := by
  have HC := Aside0.mk hC
  clear hC
  refine callsIn_of_wp Tryd.func98 rfl h1 ?_ hro
  simp only [Tryd.ntmps98, List.size_toArray, List.length_cons, List.length_nil, Nat.reduceAdd, Nat.reduceSub, Array.replicate_succ, Array.replicate_zero, List.push_toArray, List.append_toArray, List.nil_append, List.cons_append]
  gi_wp2
  gi_loopw [3] (fun i wr => ∃ k : Nat, k ≤ es.length ∧ i = .int .i64 ((es.length : Int) - 1 - k) ∧ J (bk es k) wr ∧ Aside0 (KeepL KS W wr))
    (fun i _ => (intOf i + 1).toNat)
  case atStart => exact ⟨0, Nat.zero_le _, by simp, hJ0, ⟨KeepL.refl _ _⟩⟩
  case round =>
    obtain ⟨k, hk, rfl, hJs, hnx⟩ := hrel
    by_cases hlt : k < es.length
    · obtain ⟨m, hm⟩ : ∃ m : Nat, (es.length : Int) - 1 - k = m := ⟨es.length - 1 - k, by omega⟩
      have hm2 : es.length - 1 - k = m := by omega
      have hml : m < es.length := by omega
      have hmb : decide ((m : Int) < (es.length : Int)) = true := decide_eq_true (by omega)
      rw [hm]
      obtain ⟨ad, e, hx0, hx1⟩ := at_T102 HC.out (m : Int) (by omega) (by omega)
      subst e
      rw [Int.toNat_natCast] at hx0 hx1
      replace hx0 := (hnx.out.cell (p := ad.add (m * 2)) (by rw [add_block]; exact hKA ad rfl (by omega))).trans hx0
      replace hx1 := (hnx.out.cell (p := ⟨(ad.add (m * 2)).block, (ad.add (m * 2)).off + 1, none⟩) (by show KS (ad.add (m * 2)).block; rw [add_block]; exact hKA ad rfl (by omega))).trans hx1
      obtain ⟨fn, tmps, assign, body, hy, hR⟩ := hY _ (m, rd_T102 es (m : Int)) wr hJs (by rw [bk_length]; exact hlt)
      simp only [encB] at hy
      have hBr := (hnx.out.cell (p := ⟨Bs, 0, none⟩) hKB).trans hBs
      have hcast : (m : Int) - 1 = (es.length : Int) - 1 - ((k + 1 : Nat) : Int) := by omega
      have HCast := Aside0.mk hcast
      have HM2 := Aside0.mk hm2
      clear hcast hm2 hm
      gi_wp2
      refine hR.mono ?_
      rintro e W3 (⟨rfl, hJ3, hk3⟩ | ⟨rfl, hJx3⟩)
      · have HK3 := Aside0.mk hk3
        clear hk3
        gi_wp2
        go_roundw
        case rel => exact ⟨k + 1, by omega, by rw [← HCast.out], by rw [bk_succ, HM2.out]; exact hJ3, ⟨hnx.out.trans HK3.out⟩⟩
        case measure => simp [intOf]
      · gi_wp2
        refine bodyPost_ret (results_none rfl _ _ _) rfl ?_
        exact ⟨⟨_, rfl⟩, .inr ⟨_, ⟨k + 1, by omega, by rw [bk_succ, HM2.out]⟩, hJx3⟩⟩
    · obtain rfl : k = es.length := by omega
      have hneg : (es.length : Int) - 1 - (es.length : Int) = -1 := by omega
      rw [hneg]
      gi_wp2
      go_end0
      exact ⟨⟨_, rfl⟩, .inl ⟨_, rfl, hJs⟩⟩
theorem back_stops (F : Fence) (n : Nat) (h1 : F.fn 98) (hro : F.round = none) (hn : 1 ≤ n) (Bs : Nat) (KS : Nat → Prop) (A : Option Addr) (cap : Nat) (es : List S102) (hbig : es.length < 1000000000000)
    (hKB : KS Bs) (w : World) (hKA : ∀ ad, A = some ad → 0 < es.length → KS ad.block) (hlow : Bs < w.heap.size) (hBs : w.cell? ⟨Bs, 0, none⟩ = some (.slice A es.length cap)) (hC : Kd.C k102 w A es.length es) :
    SeqStopsK F n Tryd.prog 98 #[.pointer (some ⟨Bs, 0, none⟩)] encB (KeepL KS) (fun ys => ys = bk es es.length) (fun pre => ∃ k, k ≤ es.length ∧ pre = bk es k) es.length w := fun l J Jx W hW _ _ hY h0 =>
  back1_in F n h1 hro hn l Bs KS A cap es hbig hKB J Jx hY W hKA ((hW.cell (p := ⟨Bs, 0, none⟩) hlow).trans hBs) (Kd.C_below hC hW) h0
end Go.Proofs.YtllfjmmdackgdaaDoor.PZ
end
