import Derived.Test.YtbhjggbijkjmnaaGreatDoorM21
import Derived.Test.YtbhjggbijkjmnaaGreatDoorM14
import Derived.Test.YtbhjggbijkjmnaaGreatDoorM23
import Derived.Test.YtbhjggbijkjmnaaGreatDoorM15
import Derived.Test.YtbhjggbijkjmnaaGreatDoorM16
set_option linter.unusedVariables false
set_option linter.unusedSimpArgs false
section
namespace Go.Proofs.YtbhjggbijkjmnaaGreatDoor.PZ
open Go.RowKit Go.Proofs.YtbhjggbijkjmnaaGreatDoorW.PrintWords Go.Proofs.YtbhjggbijkjmnaaGreatDoorW.PrintLast Go.Proofs.YtbhjggbijkjmnaaGreatDoorW.PrintMore Go.Proofs.YtbhjggbijkjmnaaGreatDoor.B Go.Proofs.YtbhjggbijkjmnaaGreatDoor.Ord TD
set_option maxRecDepth 100000
section
attribute [local go_sem ↓] Go.wp_at_zero Go.wp_at_succ
theorem mem_take {m : List Nat} {i : Nat} (h : i < m.length) (k : Nat) : k ∈ m.take (i + 1) ↔ k ∈ m.take i ∨ k = m[i] := by
 rw [List.take_add_one, List.getElem?_eq_getElem h, List.mem_append, Option.toList_some, List.mem_singleton]
def plP (l : List S52) (i k : Nat) : Int := if k ∈ (mt l).take i then (pl l k : Int) else 0
theorem plP_succ {l : List S52} {i : Nat} (h : i < (mt l).length) (k : Nat) : plP l (i + 1) k = if k = (mt l)[i] then (i : Int) else plP l i k := by
 unfold plP
 by_cases e : k = (mt l)[i]
 · rw [if_pos e, if_pos ((mem_take h k).2 (.inr e)), e, pl_mt h]
 ·
  rw [if_neg e]
  by_cases h2 : k ∈ (mt l).take i
  · rw [if_pos h2, if_pos ((mem_take h k).2 (.inl h2))]
  · rw [if_neg h2, if_neg (fun x => ((mem_take h k).1 x).elim h2 e)]
theorem plP_end {l : List S52} {k : Nat} (h : k ∈ mt l) : plP l (mt l).length k = (pl l k : Int) := by
 unfold plP
 rw [List.take_length, if_pos h]
theorem R_entry {W : World} {B ge n ce : Nat} {ok : Nat → Prop} {es : List S62} (h : Kd.R k62 62 W B ok (.slice (some ⟨ge, 0, none⟩) n ce) es) (j : Nat) (hj : j < es.length) :
  W.cell? ⟨ge, j * 2 + 1, none⟩ = some (.int .i64 es[j].f1) ∧ W.frozen? ⟨ge, j * 2 + 1, none⟩ = false ∧ ∀ v : Int, Kd.R k62 62 (W.setCell ⟨ge, j * 2 + 1, none⟩ (.int .i64 v)) B ok (.slice (some ⟨ge, 0, none⟩) n ce) (es.set j ⟨es[j].f0, v⟩) := by
 have hn := (Kd.R_reads' h).1
 obtain ⟨c3, hc3, hM3, hcc3, hf3⟩ := Kd.R_elem h ⟨⟨#[]⟩, 0⟩ (j : Int) zq3 zq3
 rw [Int.toNat_natCast] at hcc3 hf3 hM3
 rw [show es.getD j ⟨⟨#[]⟩, 0⟩ = es[j] by rw [List.getD_eq_getElem?_getD, List.getElem?_eq_getElem hj]; rfl] at hM3
 have hcs3 : c3 = [.string es[j].f0, .int .i64 es[j].f1] := k62_openM hM3
 subst hcs3
 refine ⟨hcc3 1 _ rfl, hf3 1, fun v => ?_⟩
 obtain ⟨h2, -⟩ := Kd.R_seg h (j : Int) zq3 zq3 (c := [.string es[j].f0, .int .i64 es[j].f1]) (seg := [.int .i64 v]) (j := 1) (x' := ⟨es[j].f0, v⟩) (okp := fun _ => False) rfl (by rw [Int.toNat_natCast]; exact hcc3) (Nat.le_refl 2) (k62_mkM _ _ _ ⟨es[j].f0, v⟩) (fun _ h => h.elim)
 rw [Int.toNat_natCast] at h2
 exact h2
theorem R_ren {W : World} {B ge n ce : Nat} {ok : Nat → Prop} {l : List S52} {k q : Nat} (h : Kd.R k62 62 W B ok (.slice (some ⟨ge, 0, none⟩) n ce) (esL l k q)) (hq : q < (nd l k).f3.length) :
  W.cell? ⟨ge, q * 2 + 1, none⟩ = some (.int .i64 (nd l k).f3[q].f1) ∧ W.frozen? ⟨ge, q * 2 + 1, none⟩ = false ∧ Kd.R k62 62 (W.setCell ⟨ge, q * 2 + 1, none⟩ (.int .i64 (pl l (ino (nd l k).f3[q]) : Int))) B ok (.slice (some ⟨ge, 0, none⟩) n ce) (esL l k (q + 1)) := by
 obtain ⟨h1, h2, h3⟩ := R_entry h q (by rw [esL_len]; exact hq)
 rw [esL_at hq] at h1
 have h4 := h3 (pl l (ino (nd l k).f3[q]) : Int)
 rw [esL_at hq, esL_set hq] at h4
 exact ⟨h1, h2, h4⟩
theorem ways {P Q : Prop} (h : Aside0 P → Q) (p : P) : Q := h ⟨p⟩
structure NF (w : World) (vt : Value) (l : List S52) (gp go : Nat) (vm vo : Value) (xs : List S52) (ok : Nat → Prop) (W : World) : Prop where
 t : W.heap[w.heap.size]? = some (.cells #[vt] 26 (0, 0))
 r : W.heap[w.heap.size + 1]? = some (.cells #[.slice none 0 0] 26 (0, 0))
 o : W.heap[go]? = some (.cells #[vo] 26 (0, 0))
 tb : Tb w.heap.size gp l.length l.length (plP l (mt l).length) W
 mr : W.ownsRow w.heap.size 3 1 vm (mt l).length (vals (mt l))
 s : Kd.S k52 52 W w.heap.size ok vo xs
 bel : Below w.heap.size w W
section
variable {w W W' : World} {vt vm vo : Value} {l xs : List S52} {gp go : Nat} {ok : Nat → Prop}
theorem NF.below (h : NF w vt l gp go vm vo xs ok W) (hb : Below W.heap.size W W') : NF w vt l gp go vm vo xs ok W' :=
 ⟨Qaf h.t hb, Qaf h.r hb, Qaf h.o hb, h.tb.below hb, Qch h.mr hb, Kd.S_below h.s hb, Qa h.bel hb⟩
theorem NF.bound (h : NF w vt l gp go vm vo xs ok W) : NF w vt l gp go vm vo xs (fun k => k < W.heap.size) W := ⟨h.t, h.r, h.o, h.tb, h.mr, Kd.S_mono (Kd.S_bound h.s) (fun k hk => hk.2.2.1), h.bel⟩
theorem own_ne {B n g : Nat} {v : Value} {ys : List Value} {T : TypeId} {cs : Array Value} (h : W.ownsRow B 3 1 v n ys) (hg : W.heap[g]? = some (.cells cs T (0, 0))) (hT : T ≠ 3) : v.ownBlock ≠ some g := fun e => by
 obtain ⟨cells, hc⟩ := Qcj h g e
 exact Qce hg hc hT rfl
theorem NF.set (h : NF w vt l gp go vm vo xs ok W) {g : Nat} {T : TypeId} {cs : Array Value} (hg : W.heap[g]? = some (.cells cs T (0, 0))) (hT : T ≠ 26) (hT3 : T ≠ 3) (hok : ∀ k, ok k → k ≠ g) (hB : w.heap.size ≤ g) (j : Nat) (u : Value) : NF w vt l gp go vm vo xs ok (W.setCell ⟨g, j, none⟩ u) :=
 ⟨Qam (p := ⟨g, j, none⟩) h.t (Qce h.t hg hT.symm) u, Qam (p := ⟨g, j, none⟩) h.r (Qce h.r hg hT.symm) u, Qam (p := ⟨g, j, none⟩) h.o (Qce h.o hg hT.symm) u,
  ownsRow_setCell_other (a := ⟨g, j, none⟩) h.tb (own_ne h.tb hg hT3) u, ownsRow_setCell_other (a := ⟨g, j, none⟩) h.mr (own_ne h.mr hg hT3) u, Kd.S_far (p := ⟨g, j, none⟩) h.s hok u, h.bel.setCell (p := ⟨g, j, none⟩) hB u⟩
theorem NF.kept (h : NF w vt l gp go vm vo xs ok W) {b : Nat} {cs : Array Value} {T : TypeId} (hb : W.heap[b]? = some (.cells cs T (0, 0))) (hT : T ≠ 52) (hg : W.grownBy W' vo.ownBlock) : W'.heap[b]? = some (.cells cs T (0, 0)) :=
 Qba hb hg (fun e => by
  obtain ⟨cells, hc⟩ := Kd.S_typed h.s b e.symm
  exact Qce hb hc hT rfl)
theorem NF.next (h : NF w vt l gp go vm vo xs ok W) {v5 : Value} {ys : List S52} (hgo : w.heap.size + 1 < go) (hg : W.grownBy W' vo.ownBlock) (hs : Kd.S k52 52 W' w.heap.size (fun _ => True) v5 ys) (hb : Below w.heap.size w W') : NF w vt l gp go vm v5 ys (fun _ => True) (W'.setCell ⟨go, 0, none⟩ v5) := by
 have ho := h.kept h.o zq9 hg
 have hk : ∀ {v : Value} {n : Nat} {zs : List Value}, W.ownsRow w.heap.size 3 1 v n zs → (W'.setCell ⟨go, 0, none⟩ v5).ownsRow w.heap.size 3 1 v n zs := fun {v n zs} hv => by
  have h2 : W'.ownsRow w.heap.size 3 1 v n zs := by
   cases he : v.ownBlock with
   | none => exact hv.kept hg (.inl he)
   | some g => exact hv.kept hg (.inr (fun e => by
     obtain ⟨cells, hc⟩ := Kd.S_typed h.s g (e ▸ he)
     exact own_ne hv hc zq9 he))
  exact ownsRow_setCell_other (a := ⟨go, 0, none⟩) h2 (own_ne h2 ho zq9) v5
 exact ⟨Qam (p := ⟨go, 0, none⟩) (h.kept h.t zq9 hg) (by show w.heap.size ≠ go; omega) v5, Qam (p := ⟨go, 0, none⟩) (h.kept h.r zq9 hg) (by show w.heap.size + 1 ≠ go; omega) v5, Qap ho 0 v5 rfl, hk h.tb, hk h.mr, Kd.S_set hs ho zq9 0 v5, hb.setCell (p := ⟨go, 0, none⟩) (by show w.heap.size ≤ go; omega) v5⟩
end
set_option maxHeartbeats 16000000 in
theorem rnumber (A : Option Addr) (c : Nat) (l : List S52) (w : World) (hC : Kd.C k52 w A l.length l) (hc : l.length ≤ c) (hw : Wf l) (hl : l.length ≤ 60) (h64 : ∀ k, (nd l k).f3.length ≤ 64) (hm : ∀ k, (nd l k).f2.length < 1000000000) :
  Calls Tryz.prog 30 #[.agg #[.slice A l.length c]] w fun e w' => ∃ v, e = .returned (.agg #[v]) ∧ Kd.S k52 52 w' w.heap.size (fun _ => True) v (num l) ∧ Below w.heap.size w w' := by
 have HC := am hC
 have HW := am hw
 have H64 := am h64
 have HM := am hm
 have hml := mt_len_le l
 clear hC hw h64 hm
 obtain ⟨i0, hi, hz0, hz1, hz2⟩ := info_parts info3
 have hov1 : l.length ≤ maxLen := by unfold maxLen; omega
 have hov2 : i0.bytes * l.length ≤ 281474976710656 := by rw [hz2]; omega
 have HX0 := am (Qaj (Qal w (.cells #[.slice A l.length c] 26)) (.cells #[.slice none 0 0] 26))
 have HR0 := am (rbox2 w (.cells #[.slice A l.length c] 26) (.cells #[.slice none 0 0] 26))
 have HB0 := am (Qaa (Qaa (Below.refl w.heap.size w) (.cells #[.slice A l.length c] 26)) (.cells #[.slice none 0 0] 26))
 go_enter Tryz.func30, Tryz.ntmps30
 go_wp2_with (first
  | (go_at_call 42; (with_reducible refine (rorder_root _ c l _ (Kd.C_below HC.out HB0.out) hc HW.out hl (fun k => by have := H64.out k; omega)).mono ?_); rintro e w1 ⟨vm, rfl, ho, hb⟩; have HO1 := am ho; have HB1 := am (Qa HB0.out hb); have HX1 := am (Qaf HX0.out hb); have HR1 := am (Qaf HR0.out hb); have htc1 := (Qab HX1.out 0).trans (show _ = some (Value.slice A l.length c) from rfl); have htl1 := Qai HX1.out; clear ho hb)
  | (at_make; refine wpList_make_full _ rfl _ _ 68 rfl w.heap.size 3 i0 (.int .i64 0) 1 Tryz.underlying68 hi hz0 hz1 .i64 .i64 (l.length : Int) (l.length : Int) l.length rfl rfl rfl rfl hov2 hov1 (Nat.le_of_lt htl1) ?_; intro w2 ho hg; rw [made_tabl] at ho; have hb := Qfc hg; have HT2 := am (show Tb w.heap.size w1.heap.size l.length l.length (fun _ => 0) w2 from ho); have HB2 := am (Qa HB1.out hb); have HX2 := am (Qaf HX1.out hb); have HR2 := am (Qaf HR1.out hb); have HO2 := am (Qch HO1.out hb); clear ho hb hg))
 obtain ⟨Am, cm, rfl⟩ := Qcm HO2.out
 have HNE := am (show ∀ j, (Value.slice Am (mt l).length cm).ownBlock = some j → j < w1.heap.size from Qgl HO1.out)
 generalize hgp : w1.heap.size = gp at *
 replace HNE := am (show (Value.slice Am (mt l).length cm).ownBlock ≠ some gp from fun e => by have := HNE.out _ e; omega)
 clear hgp htc1 htl1 HO1 HX1 HR1 HB1
 go_loopw [5] (fun v5 wr => ∃ i : Nat, v5 = .int .i64 i ∧ i ≤ (mt l).length ∧ Aside0 (Tb w.heap.size gp l.length l.length (plP l i) wr) ∧ Aside0 (wr.heap[w.heap.size]? = some (.cells #[.slice A l.length c] 26 (0, 0))) ∧ Aside0 (wr.heap[w.heap.size + 1]? = some (.cells #[.slice none 0 0] 26 (0, 0))) ∧ Aside0 (wr.ownsRow w.heap.size 3 1 (.slice Am (mt l).length cm) (mt l).length (vals (mt l))) ∧ Aside0 (Below w.heap.size w wr)) (fun v5 _ => (mt l).length - (intOf v5).toNat)
 case atStart => exact ⟨0, rfl, Nat.zero_le _, ⟨HT2.out.congr (fun k _ => by unfold plP; rw [List.take_zero, if_neg zq14])⟩, HX2, HR2, ⟨own_less HO2.out (by have := HB0.out.size; omega)⟩, HB2⟩
 case round =>
  obtain ⟨i, rfl, hil, HT, HX, HR, HO, HB⟩ := hrel
  by_cases hlt : i < (mt l).length
  ·
   have hii : (i : Int) < ((mt l).length : Int) := by omega
   obtain ⟨gm, cm', em, hx⟩ := own_val HO.out i hlt
   injection em with e1 e2 e3
   subst e1
   have hkl : (mt l)[i] < l.length := mt_lt (List.getElem_mem hlt)
   obtain ⟨hf0, hf⟩ := HT.out.at hkl
   have HP := am (fun (w' : World) (h : Tb w.heap.size gp l.length l.length (plP l i) w') => h.put (f' := plP l (i + 1)) (i : Int) hkl (fun k _ => plP_succ hlt k))
   clear e2 e3
   generalize (mt l)[i] = b at hx hkl hf0 hf HP
   generalize plP l i b = z at hf0
   have hbi : (b : Int) < (l.length : Int) := by omega
   go_wp2
   go_roundw
   case rel => exact ⟨i + 1, rfl, by omega, ⟨HP.out _ HT.out⟩, ⟨Qam (p := ⟨gp, b, none⟩) HX.out (HT.out.ne HX.out zq9) _⟩, ⟨Qam (p := ⟨gp, b, none⟩) HR.out (HT.out.ne HR.out zq9) _⟩, ⟨ownsRow_setCell_other HO.out (HNE.out) _⟩, ⟨HB.out.setCell (p := ⟨gp, b, none⟩) HT.out.base.1 _⟩⟩
   case measure => simp [intOf]; omega
  ·
   have hie : i = (mt l).length := by omega
   subst hie
   have hge : ¬ (((mt l).length : Int) < ((mt l).length : Int)) := Int.lt_irrefl _
   go_wp2
   have hbo := Qal wr (.cells #[.slice none 0 0] 26)
   have hbb : Below wr.heap.size wr (wr.alloc (.cells #[.slice none 0 0] 26)) := Qaa (Below.refl _ _) _
   have HN := am (show NF w (.slice A l.length c) l gp wr.heap.size (.slice Am (mt l).length cm) (.slice none 0 0) ((outR l).take 0) (fun _ => True) (wr.alloc (.cells #[.slice none 0 0] 26)) from ⟨Qaf HX.out hbb, Qaf HR.out hbb, hbo, HT.out.below hbb, Qch HO.out hbb, Kd.S_nil _ _ _ _ _, Qa HB.out hbb⟩)
   have hgo : w.heap.size ≤ wr.heap.size := HB.out.size
   have hgo2 : w.heap.size + 1 < wr.heap.size := Qai HR.out
   clear hbb hbo HT HX HR HO HB hlt
   generalize wr.heap.size = go at *
   obtain ⟨wa, rfl⟩ : ∃ wa : World, wa = wr := ⟨_, rfl⟩
   go_loopw [7] (fun v7 wr => ∃ (i : Nat) (vo : Value), v7 = .int .i64 i ∧ i ≤ (mt l).length ∧ Aside0 (NF w (.slice A l.length c) l gp go (.slice Am (mt l).length cm) vo ((outR l).take i) (fun _ => True) wr)) (fun v7 _ => (mt l).length - (intOf v7).toNat)
   case atStart => exact ⟨0, _, rfl, Nat.zero_le _, HN⟩
   case round =>
    obtain ⟨i, vo, rfl, hil, HN⟩ := hrel
    by_cases hlt : i < (mt l).length
    ·
     have hii : (i : Int) < ((mt l).length : Int) := by omega
     obtain ⟨gm, cm', em, hx⟩ := own_val HN.out.mr i hlt
     injection em with e1 e2 e3
     subst e1
     have hkm : (mt l)[i] ∈ mt l := List.getElem_mem hlt
     have hkl : (mt l)[i] < l.length := mt_lt hkm
     have HKM := am hkm
     have HND := am (show (outR l).take (i + 1) = (outR l).take i ++ [⟨(nd l (mt l)[i]).f0, (nd l (mt l)[i]).f1, (nd l (mt l)[i]).f2, (nd l (mt l)[i]).f3.map (ren (pl l))⟩] by
      rw [List.take_add_one, List.getElem?_eq_getElem (by rw [Qby]; exact hlt), Option.toList_some, ← nd_outR hlt, Qbm (by rw [Qby]; exact hlt)])
     clear e2 e3 hkm
     generalize (mt l)[i] = k at hx hkl HKM HND
     obtain ⟨ad, A2, c2, A3, c3, e3, hy0, hy1, hy2, hy3, hl2, hC2, hl3, hC3⟩ := Qaz (Kd.C_below HC.out HN.out.bel) (k : Int) zq3 zq3
     cases e3
     rw [Int.toNat_natCast] at hy0 hy1 hy2 hy3
     rw [show rd_T52 l (k : Int) = nd l k from rfl] at hy0 hy1 hy2 hy3 hl2 hC2 hl3 hC3
     have hkk : (k : Int) < (l.length : Int) := by omega
     have htc := (Qab HN.out.t 0).trans (show _ = some (Value.slice (some ad) l.length c) from rfl)
     have htl := Qai HN.out.t
     have hyl := World.block_lt_of_cell? _ _ hy0
     have hxl := World.block_lt_of_cell? _ _ hx
     go_wp2
     apply ways
     case h =>
      intro HWY
      go_region_with (fail)
      all_goals exact HWY.out
     have hbb : Below wr.heap.size wr (wr.alloc (.cells #[.int .i64 (nd l k).f0, .int .i64 (nd l k).f1, .slice A2 (nd l k).f2.length c2, .slice A3 (nd l k).f3.length c3] 52)).drew := Qad (Qaa (Below.refl _ _) _)
     have HNB1 := am (Qat (Qal wr (.cells #[.int .i64 (nd l k).f0, .int .i64 (nd l k).f1, .slice A2 (nd l k).f2.length c2, .slice A3 (nd l k).f3.length c3] 52)))
     have HN1 := am (HN.out.bound.below hbb)
     have HB1 := am hbb
     have HC2 := am hC2
     have HC3 := am hC3
     have HL2 := am hl2
     have HL3 := am hl3
     have hm2 := HM.out k
     have hm3 := H64.out k
     have hgn : w.heap.size ≤ wr.heap.size := HN.out.bel.size
     have HGO := am (Qai HN.out.o)
     have HVO := am (fun j (e : vo.ownBlock = some j) => Qai ((Kd.S_typed HN.out.s j e).choose_spec))
     clear hbb hC2 hC3 hl2 hl3 hy0 hy1 hy2 hy3 hx hxl hyl htc htl HN
     generalize (wr.alloc (.cells #[.int .i64 (nd l k).f0, .int .i64 (nd l k).f1, .slice A2 (nd l k).f2.length c2, .slice A3 (nd l k).f3.length c3] 52)).drew = w1 at *
     have hn2 := (Qab HNB1.out 2).trans (show _ = some (Value.slice A2 (nd l k).f2.length c2) from rfl)
     have hn3 := (Qab HNB1.out 3).trans (show _ = some (Value.slice A3 (nd l k).f3.length c3) from rfl)
     have hnl := Qai HNB1.out
     go_wp2_with (first
      | (go_at_call 22; (with_reducible refine (moraineref00_CopyBytes.calls A2 c2 (nd l k).f2 _ _ (Kd.C_below HC2.out HB1.out) HL2.out (rcopy_b _ zq3)).mono ?_); rintro e w2 ⟨v2, rfl, hr, hb⟩; obtain ⟨A4, c4, hv, hc4, -⟩ := Kd.R_reads hr; subst hv; have HR2 := am (Kd.R_lower (Kd.R_mono (Kd.R_bound hr) (fun k hk => show wr.heap.size < k from Nat.lt_of_lt_of_le hnl hk.2.1)) (Nat.le_trans hgn (Nat.le_of_lt hnl))); have HB2 := am (Qa HB1.out hb); have HN2 := am (HN1.out.below hb); have HNB2 := am (Qaf HNB1.out hb); clear hn2 hn3 hnl; have hn2 := (Qab HNB2.out 2).trans (show _ = some (Value.slice A2 (nd l k).f2.length c2) from rfl); have hn3 := (Qab HNB2.out 3).trans (show _ = some (Value.slice A3 (nd l k).f3.length c3) from rfl); have hnl := Qai HNB2.out; have hf2 := Qag HNB2.out 2; clear hr hb)
      | (go_at_call 23; (with_reducible refine (moraineref00_CopyEntries.calls A3 c3 (nd l k).f3 _ _ (Kd.C_below HC3.out (HB2.out.setCell (p := ⟨wr.heap.size, 2, none⟩) (Nat.le_refl _) _)) HL3.out (rcopy_e _ zq3)).mono ?_); rintro e w3 ⟨v3, rfl, hr, hb⟩; obtain ⟨A5, c5, hv, hc5, -⟩ := Kd.R_reads hr; subst hv; have HNB3 := am (show w3.heap[wr.heap.size]? = some (.cells #[.int .i64 (nd l k).f0, .int .i64 (nd l k).f1, .slice A4 (nd l k).f2.length c4, .slice A3 (nd l k).f3.length c3] 52 (0, 0)) from Qaf (Qap HNB2.out 2 _ rfl) hb); have HN3 := am ((HN2.out.set HNB2.out zq9 zq9 (fun k hk => Nat.ne_of_lt hk) hgn 2 (.slice A4 (nd l k).f2.length c4)).below hb); have HR23 := am (Kd.R_below (Kd.R_set HR2.out HNB2.out zq9 2 (.slice A4 (nd l k).f2.length c4)) hb); have hs3 := World.size_setCell w2 ⟨wr.heap.size, 2, none⟩ (.slice A4 (nd l k).f2.length c4); rw [hs3] at hr; have HR3 := am (Kd.R_lower (Kd.R_mono (Kd.R_bound hr) (fun k hk => show wr.heap.size < k from Nat.lt_of_lt_of_le hnl hk.2.1)) (Nat.le_trans hgn (Nat.le_of_lt hnl))); clear hn2 hn3 hnl hf2 hs3; have hn3 := (Qab HNB3.out 3).trans (show _ = some (Value.slice A3 (nd l k).f3.length c3) from rfl); have hnl := Qai HNB3.out; have hf3 := Qag HNB3.out 3; clear hr hb))
     have HNB4 := am (show (w3.setCell ⟨wr.heap.size, 3, none⟩ (.slice A5 (nd l k).f3.length c5)).heap[wr.heap.size]? = some (.cells #[.int .i64 (nd l k).f0, .int .i64 (nd l k).f1, .slice A4 (nd l k).f2.length c4, .slice A5 (nd l k).f3.length c5] 52 (0, 0)) from Qap HNB3.out 3 _ rfl)
     have HN4 := am (HN3.out.set HNB3.out zq9 zq9 (fun k hk => Nat.ne_of_lt hk) hgn 3 (.slice A5 (nd l k).f3.length c5))
     have HR24 := am (Kd.R_set HR23.out HNB3.out zq9 3 (.slice A5 (nd l k).f3.length c5))
     have HR34 := am (Kd.R_set HR3.out HNB3.out zq9 3 (.slice A5 (nd l k).f3.length c5))
     clear hn3 hnl hf3 HNB1 HNB2 HNB3 HN1 HN2 HN3 HR2 HR23 HR3 HB1 HB2
     generalize w3.setCell ⟨wr.heap.size, 3, none⟩ (.slice A5 (nd l k).f3.length c5) = w4 at *
     generalize wr.heap.size = gn at *
     obtain ⟨wb, rfl⟩ : ∃ wb : World, wb = wr := ⟨_, rfl⟩
     go_loopw [9] (fun v9 wr => ∃ q : Nat, v9 = .int .i64 q ∧ q ≤ (nd l k).f3.length ∧ Aside0 (NF w (.slice (some ad) l.length c) l gp go (.slice (some ⟨gm, 0, none⟩) (mt l).length cm) vo ((outR l).take i) (fun k => k < gn) wr) ∧ Aside0 (wr.heap[gn]? = some (.cells #[.int .i64 (nd l k).f0, .int .i64 (nd l k).f1, .slice A4 (nd l k).f2.length c4, .slice A5 (nd l k).f3.length c5] 52 (0, 0))) ∧ Aside0 (Kd.R (Kd.int .u8) 5 wr w.heap.size (fun k => gn < k) (.slice A4 (nd l k).f2.length c4) (nd l k).f2) ∧ Aside0 (Kd.R k62 62 wr w.heap.size (fun k => gn < k) (.slice A5 (nd l k).f3.length c5) (esL l k q))) (fun v9 _ => (nd l k).f3.length - (intOf v9).toNat)
     case atStart => exact ⟨0, rfl, Nat.zero_le _, HN4, HNB4, HR24, ⟨by rw [esL_zero]; exact HR34.out⟩⟩
     case round =>
      obtain ⟨q, rfl, hq, HN, HNB, HR2, HR3⟩ := hrel
      have hn3 := (Qab HNB.out 3).trans (show _ = some (Value.slice A5 (nd l k).f3.length c5) from rfl)
      have hnl := Qai HNB.out
      by_cases hlq : q < (nd l k).f3.length
      ·
       have hqq : (q : Int) < ((nd l k).f3.length : Int) := by omega
       obtain ⟨ge, ce, e5, hge, hgel, csE, hcsE⟩ := Kd.R_form HR3.out (by rw [esL_len]; omega)
       injection e5 with e5 e6 e7
       subst e5
       obtain ⟨hx0, hxf, hxn⟩ := R_ren HR3.out hlq
       have hmem : (nd l k).f3[q] ∈ (nd l k).f3 := List.getElem_mem hlq
       have hino := HW.out.ino_lt hmem
       have hpl := (HN.out.tb.at hino.1).1
       rw [plP_end (HW.out.mt_step HKM.out hmem)] at hpl
       rw [← hino.2.2] at hx0
       have HXN := am hxn
       have hb := hino.1
       have hxl := World.block_lt_of_cell? _ _ hx0
       have hpll := World.block_lt_of_cell? _ _ hpl
       clear hxn hino hmem e6 e7
       generalize (pl l (ino (nd l k).f3[q]) : Int) = pv at hpl HXN
       generalize ino (nd l k).f3[q] = b at hx0 hpl hb hpll
       have hbi : (b : Int) < (l.length : Int) := by omega
       go_wp2
       apply ways
       case h =>
        intro HWY
        go_region_with (fail)
        all_goals exact HWY.out
       go_wp2
       go_roundw
       case rel => exact ⟨q + 1, rfl, by omega, ⟨(HN.out.set hcsE zq9 zq9 (fun k hk => by have := HR3.out.1 ge rfl; show k ≠ ge; omega) hge (q * 2 + 1) _).below (Qad (Below.refl _ _))⟩, ⟨Qat (Qam (p := ⟨ge, q * 2 + 1, none⟩) HNB.out (Qce HNB.out hcsE zq9) _)⟩, ⟨Kd.R_drew (Kd.R_set HR2.out hcsE zq9 (q * 2 + 1) _)⟩, ⟨Kd.R_drew HXN.out⟩⟩
       case measure => simp [intOf]; omega
      ·
       have hqe : q = (nd l k).f3.length := by omega
       subst hqe
       have hge2 : ¬ (((nd l k).f3.length : Int) < ((nd l k).f3.length : Int)) := Int.lt_irrefl _
       have hr3 := HR3.out
       rw [esL_end] at hr3
       have HR4 := am hr3
       clear hr3 HR3
       have hn0 := (Qab HNB.out 0).trans (show _ = some (Value.int .i64 (nd l k).f0) from rfl)
       have hn1 := (Qab HNB.out 1).trans (show _ = some (Value.int .i64 (nd l k).f1) from rfl)
       have hn2 := (Qab HNB.out 2).trans (show _ = some (Value.slice A4 (nd l k).f2.length c4) from rfl)
       obtain ⟨Ao, co, evo⟩ := Kd.S_slice HN.out.s
       rw [List.length_take, Qby, Nat.min_eq_left hil] at evo
       subst evo
       have ho0 := (Qab HN.out.o 0).trans (show _ = some (Value.slice Ao i co) from rfl)
       have hof := Qag HN.out.o 0
       have hol := Qai HN.out.o
       have HLN := am (show (((outR l).take i).length + 1) * 64 ≤ 140737488355328 by rw [List.length_take, Qby, Nat.min_eq_left hil]; omega)
       have HS := am (Kd.S_mono HN.out.s (fun k (hk : k < gn) => show True ∧ ¬ gn < k from ⟨trivial, by omega⟩))
       have HOK := am (show ∀ k, gn < k → True ∧ some k ≠ (Value.slice Ao i co).ownBlock from fun k hk => ⟨trivial, fun e => by have := HVO.out k e.symm; omega⟩)
       have HMK := am (Qdu wr w.heap.size (fun k => gn < k) ⟨(nd l k).f0, (nd l k).f1, (nd l k).f2, (nd l k).f3.map (ren (pl l))⟩ HR2.out HR4.out)
       clear hlq
       go_wp2_with ((with_reducible refine Qas (b := .append) (xs := #[.tmp 76, .tmp 78]) rfl ?_); at_builtin; (refine Kd.S_append k52 (w0 := w) w.heap.size rfl (.tmp 76) (.tmp 78) 24 52 (.agg #[.int .i64 0, .int .i64 0, .slice none 0 0, .slice none 0 0]) 64 rfl Tryz.underlying24 info52 rfl zq9 zq3 (.slice Ao i co) ((outR l).take i) ⟨(nd l k).f0, (nd l k).f1, (nd l k).f2, (nd l k).f3.map (ren (pl l))⟩ _ (fun _ => True) (fun k => gn < k) rfl rfl HMK.out HOK.out (fun _ _ => trivial) HS.out HN.out.bel HN.out.bel.size HLN.out ?_); intro v5 w5 ho hbb hg hat; obtain ⟨A6, n6, c6, rfl⟩ := S_any ho; have HN5 := am (HN.out.next hgo2 hg ho hbb); have HO5 := am (HN.out.kept HN.out.o zq9 hg); have ho5 := (Qab HO5.out 0).trans (show _ = some (Value.slice Ao i co) from rfl); have hof5 := Qag HO5.out 0; have hol5 := Qai HO5.out; clear ho hbb hg hat)
       go_roundw
       case rel => exact ⟨i + 1, _, rfl, by omega, ⟨by rw [HND.out]; exact HN5.out⟩⟩
       case measure => simp [intOf]; omega
    ·
     have hie : i = (mt l).length := by omega
     subst hie
     have hge2 : ¬ (((mt l).length : Int) < ((mt l).length : Int)) := Int.lt_irrefl _
     have HS0 := HN.out.s
     rw [List.take_of_length_le (by rw [Qby]; exact Nat.le_refl _)] at HS0
     obtain ⟨Ao, co, evo, hco, hCo⟩ := Kd.S_reads HS0
     subst evo
     have HS := am HS0
     have HCO := am hCo
     have HO := am HN.out.o
     have HR := am HN.out.r
     have HB := am HN.out.bel
     have ho0 := (Qab HO.out 0).trans (show _ = some (Value.slice Ao (outR l).length co) from rfl)
     have hol := Qai HO.out
     have HO64 := am (show ∀ k, (nd (outR l) k).f3.length ≤ 64 from fun k => by
      rcases Nat.lt_or_ge k (mt l).length with h | h
      ·
       rw [nd_outR h]
       show (List.map _ _).length ≤ 64
       rw [List.length_map]
       exact H64.out _
      ·
       rw [Qbr (by rw [Qby]; exact h)]
       exact Nat.zero_le _)
     have hol2 : (outR l).length ≤ 60 := by rw [Qby]; omega
     have hol3 : 0 < (outR l).length := by rw [Qby]; exact List.length_pos_of_mem HW.out.zero
     clear HS0 hCo HN hlt
     go_wp2_with (go_at_call 43; (with_reducible refine (rlinks _ co (outR l) _ HCO.out hco (outR_wf HW.out) zq3 HO64.out).mono ?_); rintro e w6 ⟨g6, c6, rfl, ht, hb⟩; have HL := am ht; have HS6 := am (Kd.S_below HS.out hb); have HO6 := am (Qaf HO.out hb); have HR6 := am (Qaf HR.out hb); have HB6 := am (Qa HB.out hb); clear ht hb)
     obtain ⟨B6, hB6⟩ : ∃ B, wr.heap.size = B := ⟨_, rfl⟩
     rw [hB6] at HL
     obtain ⟨g9, c9, e9, hg9, -, -⟩ := Kd.S_form HS6.out hol3
     injection e9 with e10 e11 e12
     subst e10
     clear e11 e12 ho0 hol HS HO HR HB hB6
     obtain ⟨wb, rfl⟩ : ∃ wb : World, wb = wr := ⟨_, rfl⟩
     go_loopw [11] (fun v11 wr => ∃ q : Nat, v11 = .int .i64 q ∧ q ≤ (outR l).length ∧ Aside0 (Kd.S k52 52 wr w.heap.size (fun _ => True) (.slice (some ⟨g9, 0, none⟩) (outR l).length co) (lkL (outR l) (own (outR l)) q)) ∧ Aside0 (Tb B6 g6 (outR l).length c6 (own (outR l)) wr) ∧ Aside0 (wr.heap[go]? = some (.cells #[.slice (some ⟨g9, 0, none⟩) (outR l).length co] 26 (0, 0))) ∧ Aside0 (wr.heap[w.heap.size + 1]? = some (.cells #[.slice none 0 0] 26 (0, 0))) ∧ Aside0 (Below w.heap.size w wr)) (fun v11 _ => (outR l).length - (intOf v11).toNat)
     case atStart => exact ⟨0, rfl, Nat.zero_le _, ⟨by rw [lkL_zero]; exact HS6.out⟩, HL, HO6, HR6, HB6⟩
     case round =>
      obtain ⟨q, rfl, hq, HS, HL, HO, HR, HB⟩ := hrel
      have ho0 := (Qab HO.out 0).trans (show _ = some (Value.slice (some ⟨g9, 0, none⟩) (outR l).length co) from rfl)
      have hol := Qai HO.out
      by_cases hlq : q < (outR l).length
      ·
       have hqq : (q : Int) < ((outR l).length : Int) := by omega
       obtain ⟨hlf, hput⟩ := S_links HS.out q (by rw [Qel]; exact hlq)
       have hcl := (S_cells HS.out q (by rw [Qel]; exact hlq)).2.1
       have h9 := hput (own (outR l) q)
       rw [lkL_set hlq] at h9
       have H9 := am h9
       obtain ⟨hx0, -⟩ := HL.out.at hlq
       obtain ⟨csq, hcsq⟩ := Kd.S_typed HS.out g9 rfl
       have HCS := am hcsq
       have hxl := World.block_lt_of_cell? _ _ hx0
       have hcll := World.block_lt_of_cell? _ _ hcl
       clear hput h9 hcsq
       generalize own (outR l) q = ow at hx0 H9
       go_wp2
       apply ways
       case h =>
        intro HWY
        go_region_with (fail)
        all_goals exact HWY.out
       go_wp2
       go_roundw
       case rel => exact ⟨q + 1, rfl, by omega, ⟨Kd.S_drew H9.out⟩, ⟨(show Tb B6 g6 (outR l).length c6 (own (outR l)) _ from ownsRow_setCell_other (a := ⟨g9, q * 4 + 1, none⟩) HL.out (own_ne HL.out HCS.out zq9) _).below (Qad (Below.refl _ _))⟩, ⟨Qat (Qam (p := ⟨g9, q * 4 + 1, none⟩) HO.out (Qce HO.out HCS.out zq9) _)⟩, ⟨Qat (Qam (p := ⟨g9, q * 4 + 1, none⟩) HR.out (Qce HR.out HCS.out zq9) _)⟩, ⟨Qad (HB.out.setCell (p := ⟨g9, q * 4 + 1, none⟩) hg9 _)⟩⟩
       case measure => simp [intOf]; omega
      ·
       have hqe : q = (outR l).length := by omega
       subst hqe
       have hge3 : ¬ (((outR l).length : Int) < ((outR l).length : Int)) := Int.lt_irrefl _
       have hyr := (Qab HR.out 0).trans (show _ = some (Value.slice none 0 0) from rfl)
       have hyf := Qag HR.out 0
       have hyl := Qai HR.out
       have hs9 := HS.out
       rw [lkL_num] at hs9
       have HS10 := am hs9
       clear hs9 hlq
       go_wp2
       have HRP := am (Qap HR.out 0 (.slice (some ⟨g9, 0, none⟩) (outR l).length co) rfl)
       refine bodyPost_ret (Qds rfl _ _ (w.heap.size + 1) 26 _ (0, 0) _ rfl HRP.out Tryz.underlying26 rfl zq15) rfl ⟨_, rfl, Kd.S_set HS10.out HR.out zq9 0 _, HB.out.setCell (p := ⟨w.heap.size + 1, 0, none⟩) (Nat.le_succ _) _⟩
theorem R_new0 {α : Type} (d : Kd α) (W : World) {base : Nat} (e : TypeId) (hb : base ≤ W.heap.size) : Kd.R d e (W.alloc (.cells #[] e)) base (fun _ => True) (.slice (some ⟨W.heap.size, 0, none⟩) 0 0) [] :=
 ⟨fun _ _ => trivial, [], ⟨by simp, .inr ⟨W.heap.size, 0, #[], rfl, hb, Qal W _, Nat.le_refl _, Nat.zero_le _, by simp, by simp⟩⟩, Reps.none _ _⟩
theorem Qbp {W W' : World} {b : Nat} {cs : Array Value} {T e : TypeId} {r : Option Nat} (hb : W.heap[b]? = some (.cells cs T (0, 0))) (hT : T ≠ e) (hr : ∀ k, r = some k → ∃ cells, W.heap[k]? = some (.cells cells e (0, 0))) (hg : W.grownBy W' r) : W'.heap[b]? = some (.cells cs T (0, 0)) :=
 Qba hb hg (fun e => by
  obtain ⟨cells, hc⟩ := hr b e.symm
  exact Qce hb hc hT rfl)
section
variable {w W : World} {vt o0 o1 o2 o3 o4 o5 : Value}
theorem RG.all (h : RG w vt o0 o1 o2 o3 o4 o5 W) : W.cell? ⟨w.heap.size, 0, none⟩ = some vt ∧ w.heap.size < W.heap.size ∧ w.heap.size + 1 < W.heap.size ∧ w.heap.size + 1 + 1 < W.heap.size ∧ W.cell? ⟨w.heap.size + 1, 0, none⟩ = some o0 ∧ W.cell? ⟨w.heap.size + 1, 1, none⟩ = some o1 ∧ W.cell? ⟨w.heap.size + 1 + 1, 0, none⟩ = some (.int .i64 0) ∧ W.cell? ⟨w.heap.size + 1 + 1, 1, none⟩ = some (.slice none 0 0) ∧ W.cell? ⟨w.heap.size + 1 + 1, 2, none⟩ = some (.slice none 0 0) ∧ W.cell? ⟨w.heap.size + 1 + 1, 3, none⟩ = some (.int .i64 0) ∧ W.cell? ⟨w.heap.size + 1 + 1, 4, none⟩ = some (.int .i64 0) ∧ W.cell? ⟨w.heap.size + 1 + 1, 5, none⟩ = some (.int .i64 0) ∧ ∀ i, W.frozen? ⟨w.heap.size + 1 + 1, i, none⟩ = false :=
 ⟨h.tc, h.lt.1, h.lt.2.1, h.lt.2.2, h.oc.1, h.oc.2, h.rc.1, h.rc.2.1, h.rc.2.2.1, h.rc.2.2.2.1, h.rc.2.2.2.2.1, h.rc.2.2.2.2.2, h.fr⟩
end
set_option maxHeartbeats 1600000 in
theorem rask (A : Option Addr) (c : Nat) (l : List S52) (k0 : Int) (p q : ByteArray) (a n : Int) (Ad : Option Addr) (cd : Nat) (d : List Int) (w : World) (hC : Kd.C k52 w A l.length l) (hc : l.length ≤ c) (hrt : Rt l) (hp : p.size < 1000000) (hk0 : k0 = 10 ∨ k0 = 11 ∨ k0 = 13) :
  Calls Tryz.prog 63 #[.agg #[.slice A l.length c], .agg #[.int .i64 k0, .string p, .string q, .int .i64 a, .int .i64 n, .slice Ad d.length cd]] w fun e w' => RA w (Qbh l (workF l ⟨k0, p, q, a, n, d⟩)).2 e w' := by
 have HC := am hC
 have HT := am hrt
 have HM := am (show ∀ k, (nd l k).f3.length < 1000000000 from fun k => by have := hrt.pr.ents k; omega)
 have hl56 : l.length ≤ 56 := hrt.pr.le
 have HF0 := am (rg_start w (.slice A l.length c) (.int .i64 k0) (.string p) (.string q) (.int .i64 a) (.int .i64 n) (.slice Ad d.length cd))
 clear hC hrt
 have ho : workF l ⟨k0, p, q, a, n, d⟩ = if k0 = 10 then (match Qav l p with | .inl k => .inl (l, { res0 with f3 := (nd l k).f0, f4 := (nd l k).f1, f5 := ((nd l k).f2.length + (nd l k).f3.length : Nat) }) | .inr e => .inr e) else if k0 = 11 then (match listF l p with | .inl n => .inl (l, { res0 with f2 := n }) | .inr e => .inr e) else (match Qav l p with | .inl _ => .inl (l, res0) | .inr e => .inr e) := by
  rcases hk0 with rfl | rfl | rfl <;> rfl
 unfold listF at ho
 cases hk : Qav l p with
 | inr er =>
  have HS := am hk
  have he : (er != 0) = true := bne_iff_ne.mpr (Qcc hk)
  have hr : (Qbh l (workF l ⟨k0, p, q, a, n, d⟩)).2 = { res0 with f0 := er } := by
   rw [ho, hk]
   split
   · rfl
   · split <;> rfl
  rw [hr]
  clear hk ho hr hk0
  go_enter Tryz.func63, Tryz.ntmps63
  go_wp2_with (first
   | (go_at_call 35; (with_reducible refine (Qdd _ c l p _ (Kd.C_below HC.out HF0.out.bel) hc HT.out.pr.wf HM.out hp).mono ?_); rintro e w1 ⟨rfl, hb⟩; rw [HS.out]; dsimp only [pairR]; have HF1 := am (HF0.out.below hb); obtain ⟨h0, h1, h2, h3, h4, h5, h6, h7, h8, h9, h10, h11, h12⟩ := HF1.out.all; clear hb)
   | (go_at_call 28; (with_reducible refine (Qcp er _).mono ?_); rintro en w2 ⟨rfl, hb⟩; clear h0 h1 h2 h3 h4 h5 h6 h7 h8 h9 h10 h11 h12; have HF2 := am (HF1.out.below hb); obtain ⟨h0, h1, h2, h3, h4, h5, h6, h7, h8, h9, h10, h11, h12⟩ := HF2.out.all; clear hb))
  refine rg_end (fn := Tryz.f63) (w := w) (W := w2) (r := { res0 with f0 := er }) (A2 := none) (A3 := none) (c2 := 0) (c3 := 0) zq25 HF2.out _ ?h4 (Nat.zero_le _) (Kd.C_nil _ _) (Nat.zero_le _) (Kd.C_nil _ _) (Below.refl _ _)
  case h4 => rfl
 | inl k =>
  have HS := am hk
  have hkl : k < l.length := Qfb HT.out.pr.wf hk
  rw [hk] at ho
  have HO := am ho
  have hki : (k : Int) < (l.length : Int) := by omega
  obtain ⟨ad, A2, g2, A3, g3, e3, hy0, hy1, hy2, hy3, -, -, hl3, hC3⟩ := Qaz HC.out (k : Int) zq3 zq3
  cases e3
  rw [Int.toNat_natCast] at hy0 hy1 hy2 hy3
  rw [show rd_T52 l (k : Int) = nd l k from rfl] at hy0 hy1 hy2 hy3 hl3 hC3
  have hs2 := HT.out.pr.size k
  have hs3 := HT.out.pr.ents k
  have HC3 := am hC3
  have HL3 := am hl3
  have HK0 := am hk0
  clear hk ho hC3 hl3 hk0
  go_enter Tryz.func63, Tryz.ntmps63
  go_wp2_with (first
   | (go_at_call 35; (with_reducible refine (Qdd _ c l p _ (Kd.C_below HC.out HF0.out.bel) hc HT.out.pr.wf HM.out hp).mono ?_); rintro e w1 ⟨rfl, hb⟩; rw [HS.out]; dsimp only [pairR]; have HF1 := am (HF0.out.below hb); obtain ⟨h0, h1, h2, h3, h4, h5, h6, h7, h8, h9, h10, h11, h12⟩ := HF1.out.all; have hz0 := (HF1.out.bel.cell (World.block_lt_of_cell? w _ hy0)).trans hy0; have hz1 := (HF1.out.bel.cell (World.block_lt_of_cell? w _ hy1)).trans hy1; have hz2 := (HF1.out.bel.cell (World.block_lt_of_cell? w _ hy2)).trans hy2; have hz3 := (HF1.out.bel.cell (World.block_lt_of_cell? w _ hy3)).trans hy3; clear hb hy0 hy1 hy2 hy3)
   | (go_at_call 28; (with_reducible refine (Qcp 22 _).mono ?_); rintro en w2 ⟨rfl, hb⟩; clear hz0 hz1 hz2 hz3 h0 h1 h2 h3 h4 h5 h6 h7 h8 h9 h10 h11 h12; have HF2 := am ((HF1.out.below (Qaa (Below.refl _ _) _)).below hb); obtain ⟨h0, h1, h2, h3, h4, h5, h6, h7, h8, h9, h10, h11, h12⟩ := HF2.out.all; clear hb))
  ·
   have e0 : k0 = 10 := beq_iff_eq.1 (by assumption)
   have hr : (Qbh l (workF l ⟨k0, p, q, a, n, d⟩)).2 = { res0 with f3 := (nd l k).f0, f4 := (nd l k).f1, f5 := ((nd l k).f2.length : Int) + ((nd l k).f3.length : Int) } := by rw [HO.out, if_pos e0, Int.natCast_add]; rfl
   rw [hr]
   refine rg_end (fn := Tryz.f63) (w := w) (W := w1) (r := { res0 with f3 := (nd l k).f0, f4 := (nd l k).f1, f5 := ((nd l k).f2.length : Int) + ((nd l k).f3.length : Int) }) (A2 := none) (A3 := none) (c2 := 0) (c3 := 0) zq25 HF1.out _ ?h4 (Nat.zero_le _) (Kd.C_nil _ _) (Nat.zero_le _) (Kd.C_nil _ _) (Qaa (Below.refl _ _) (.cells #[.int .i64 (nd l k).f0, .int .i64 (nd l k).f1, .slice A2 (nd l k).f2.length g2, .slice A3 (nd l k).f3.length g3] 52))
   case h4 => rfl
  ·
   have e0 : k0 ≠ 10 := beq_eq_false_iff_ne.1 (by assumption)
   have e1 : k0 = 13 := beq_iff_eq.1 (by assumption)
   have hr : (Qbh l (workF l ⟨k0, p, q, a, n, d⟩)).2 = res0 := by rw [HO.out, if_neg e0, if_neg zq3]; rfl
   rw [hr]
   refine rg_end (fn := Tryz.f63) (w := w) (W := w1) (r := res0) (A2 := none) (A3 := none) (c2 := 0) (c3 := 0) zq25 HF1.out _ ?h4 (Nat.zero_le _) (Kd.C_nil _ _) (Nat.zero_le _) (Kd.C_nil _ _) (Qaa (Below.refl _ _) (.cells #[.int .i64 (nd l k).f0, .int .i64 (nd l k).f1, .slice A2 (nd l k).f2.length g2, .slice A3 (nd l k).f3.length g3] 52))
   case h4 => rfl
  ·
   have e0 : k0 ≠ 10 := beq_eq_false_iff_ne.1 (by assumption)
   have e1 : k0 ≠ 13 := beq_eq_false_iff_ne.1 (by assumption)
   have e2 : k0 = 11 := by have := HK0.out; omega
   have e3 : (nd l k).f0 ≠ 2 := bne_iff_ne.1 (by assumption)
   have hr : (Qbh l (workF l ⟨k0, p, q, a, n, d⟩)).2 = { res0 with f0 := 22 } := by rw [HO.out, if_neg e0, if_pos e2, if_neg e3]; rfl
   rw [hr]
   refine rg_end (fn := Tryz.f63) (w := w) (W := w2) (r := { res0 with f0 := 22 }) (A2 := none) (A3 := none) (c2 := 0) (c3 := 0) zq25 HF2.out _ ?h4 (Nat.zero_le _) (Kd.C_nil _ _) (Nat.zero_le _) (Kd.C_nil _ _) (Below.refl _ _)
   case h4 => rfl
  ·
   have e0 : k0 ≠ 10 := beq_eq_false_iff_ne.1 (by assumption)
   have e1 : k0 ≠ 13 := beq_eq_false_iff_ne.1 (by assumption)
   have e2 : k0 = 11 := by have := HK0.out; omega
   have e3 : (nd l k).f0 = 2 := bne_eq_false_iff_eq.1 (by assumption)
   have HR := am (show (Qbh l (workF l ⟨k0, p, q, a, n, d⟩)).2 = { res0 with f2 := (nd l k).f3.map (·.f0) } by rw [HO.out, if_neg e0, if_pos e2, if_pos e3]; rfl)
   have HFS := am ((HF1.out.below (Qaa (Below.refl _ _) (.cells #[.int .i64 (nd l k).f0, .int .i64 (nd l k).f1, .slice A2 (nd l k).f2.length g2, .slice A3 (nd l k).f3.length g3] 52))).below (Qaa (Below.refl _ _) (.cells #[] 9)))
   have HNB := am (Qaj (Qal w1 (.cells #[.int .i64 (nd l k).f0, .int .i64 (nd l k).f1, .slice A2 (nd l k).f2.length g2, .slice A3 (nd l k).f3.length g3] 52)) (.cells #[] 9))
   have HRS := am (R_new0 Kd.string (w1.alloc (.cells #[.int .i64 (nd l k).f0, .int .i64 (nd l k).f1, .slice A2 (nd l k).f2.length g2, .slice A3 (nd l k).f3.length g3] 52)) (base := w.heap.size) 9 (by rw [World.size_alloc]; have := HF1.out.bel.size; omega))
   rw [World.size_alloc] at HRS
   clear e0 e1 e2 e3 h0 h1 h2 h3 h4 h5 h6 h7 h8 h9 h10 h11 h12 hz0 hz1 hz2 hz3 HO
   generalize (w1.alloc (.cells #[.int .i64 (nd l k).f0, .int .i64 (nd l k).f1, .slice A2 (nd l k).f2.length g2, .slice A3 (nd l k).f3.length g3] 52)).alloc (.cells #[] 9) = w2 at *
   generalize w1.heap.size = gn at *
   go_loopw [8, 9] (fun v8 v9 wr => ∃ i : Nat, v9 = .int .i64 i ∧ i ≤ (nd l k).f3.length ∧ Aside0 (RG w (.slice (some ad) l.length c) (.int .i64 k0) (.string p) (.string q) (.int .i64 a) (.int .i64 n) (.slice Ad d.length cd) wr) ∧ Aside0 (wr.heap[gn]? = some (.cells #[.int .i64 (nd l k).f0, .int .i64 (nd l k).f1, .slice A2 (nd l k).f2.length g2, .slice A3 (nd l k).f3.length g3] 52 (0, 0))) ∧ Aside0 (Kd.R Kd.string 9 wr w.heap.size (fun _ => True) v8 (((nd l k).f3.take i).map (·.f0)))) (fun v8 v9 _ => (nd l k).f3.length - (intOf v9).toNat)
   case atStart => exact ⟨0, rfl, Nat.zero_le _, HFS, HNB, HRS⟩
   case round =>
    obtain ⟨i, rfl, hi, HF, HN, HS8⟩ := hrel
    have hn3 := (Qab HN.out 3).trans (show _ = some (Value.slice A3 (nd l k).f3.length g3) from rfl)
    have hnl := Qai HN.out
    by_cases hlt : i < (nd l k).f3.length
    ·
     have hii : (i : Int) < ((nd l k).f3.length : Int) := by omega
     obtain ⟨ad4, e4, hx0, -⟩ := Qbg (Kd.C_below HC3.out HF.out.bel) (i : Int) zq3 zq3
     cases e4
     rw [Int.toNat_natCast] at hx0
     rw [show rd_T62 (nd l k).f3 (i : Int) = (nd l k).f3[i] by simp [rd_T62, List.getD_eq_getElem?_getD, List.getElem?_eq_getElem hlt]] at hx0
     have HRD := am (show ((nd l k).f3.take (i + 1)).map (·.f0) = ((nd l k).f3.take i).map (·.f0) ++ [(nd l k).f3[i].f0] by rw [List.take_succ_eq_append_getElem hlt, List.map_append]; rfl)
     have HLL := am (show ((((nd l k).f3.take i).map (·.f0)).length + 1) * 16 ≤ 140737488355328 by rw [List.length_map, List.length_take]; omega)
     generalize (nd l k).f3[i].f0 = en at hx0 HRD
     generalize ((nd l k).f3.take i).map (·.f0) = X at *
     obtain ⟨A8, c8, e8, -, -⟩ := Kd.R_reads HS8.out
     subst e8
     go_wp2_with ((with_reducible refine Qas (b := .append) (xs := #[.tmp 57, .tmp 64]) rfl ?_); at_builtin; go_loud (refine Kd.R_append Kd.string (w0 := w) w.heap.size rfl (.tmp 57) (.tmp 64) 35 9 (.string ⟨#[]⟩) 16 rfl Tryz.underlying35 info9 rfl zq9 zq3 (.slice A8 X.length c8) X en [.string en] (fun _ => True) (fun _ => False) rfl rfl rfl (fun _ h => h.elim) (fun _ _ => trivial) HS8.out HF.out.bel HF.out.bel.size HLL.out ?_); intro v9 w9 ho hbb hg hat; have HS9 := am ho; have hty := Kd.R_typed HS8.out; have HF9 := am (show RG w (.slice (some ad) l.length c) (.int .i64 k0) (.string p) (.string q) (.int .i64 a) (.int .i64 n) (.slice Ad d.length cd) w9 from ⟨Qbp HF.out.t zq9 hty hg, Qbp HF.out.o zq9 hty hg, Qbp HF.out.rr zq9 hty hg, hbb⟩); have HN9 := am (Qbp HN.out zq9 hty hg); clear ho hbb hg hat hty)
     go_roundw
     case rel => exact ⟨i + 1, rfl, by omega, HF9, HN9, ⟨by rw [HRD.out]; exact HS9.out⟩⟩
     case measure => simp [intOf]; omega
    ·
     have hie : i = (nd l k).f3.length := by omega
     subst hie
     have hge : ¬ (((nd l k).f3.length : Int) < ((nd l k).f3.length : Int)) := Int.lt_irrefl _
     have hS8 := HS8.out
     rw [List.take_length] at hS8
     generalize (nd l k).f3.map (·.f0) = Y at hS8 HR
     obtain ⟨A8, c8, e8, hc8, hC8⟩ := Kd.R_reads hS8
     subst e8
     have HC8 := am hC8
     obtain ⟨h0, h1, h2, h3, h4, h5, h6, h7, h8, h9, h10, h11, h12⟩ := HF.out.all
     clear hC8 hlt HS8 hS8
     go_wp2
     rw [HR.out]
     refine rg_end (fn := Tryz.f63) (w := w) (W := wr) (r := { res0 with f2 := Y }) (A2 := none) (A3 := A8) (c2 := 0) (c3 := c8) zq25 HF.out _ ?h4 (Nat.zero_le _) (Kd.C_nil _ _) hc8 HC8.out (Below.refl _ _)
     case h4 => rfl
end
end Go.Proofs.YtbhjggbijkjmnaaGreatDoor.PZ
end
