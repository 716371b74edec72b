import Derived.Test.YtbhjggbijkjmnaaGreatDoorM17
import Derived.Test.YtbhjggbijkjmnaaGreatDoorM19
import Derived.Test.YtbhjggbijkjmnaaGreatDoorM05
import Derived.Test.YtbhjggbijkjmnaaGreatDoorM20
import Derived.Test.YtbhjggbijkjmnaaGreatDoorM12
import Derived.Lib.SliceRun
import Derived.Test.YtbhjggbijkjmnaaGreatDoorM18
import Derived.Test.YtbhjggbijkjmnaaGreatDoorM14
set_option linter.unusedVariables false
set_option linter.unusedSimpArgs false
section
namespace Go.Proofs.YtbhjggbijkjmnaaGreatDoor.PZ
open Go.RowKit Go.Proofs.YtbhjggbijkjmnaaGreatDoorW.PrintWords Go.Proofs.YtbhjggbijkjmnaaGreatDoorW.PrintLast Go.Proofs.YtbhjggbijkjmnaaGreatDoorW.PrintMore Go.Proofs.YtbhjggbijkjmnaaGreatDoor.B Go.Proofs.YtbhjggbijkjmnaaGreatDoor.Ord TD
set_option maxRecDepth 100000
theorem nodeN_sane {x : S52} {n : Nat} (h : nodeN x n = true) : saneN x n = true := by
 unfold nodeN at h
 unfold saneN
 by_cases h1 : x.f0 = 1
 ·
  rw [if_pos h1] at h ⊢
  simp only [Bool.and_eq_true] at h ⊢
  exact ⟨h.1.1, h.2⟩
 ·
  rw [if_neg h1] at h ⊢
  simp only [Bool.and_eq_true] at h
  rw [if_pos (of_decide_eq_true h.1.1.1), h.2, h.1.1.2, h.1.2]
  rfl
theorem rt_one {l : List S52} (h : Rt l) {k : Nat} (hk : k < l.length) (hd : (nd l k).f0 ≠ 2) : 1 ≤ (nd l k).f1 := by
 obtain ⟨ns, hn⟩ := met_wk h.pr.wf (show k ∈ mt l by rw [h.ord]; exact List.mem_range.2 hk)
 have hu : 1 ≤ ups l k := by
  rcases nil_or_snoc ns with e | ⟨q, n, e⟩
  ·
   subst e
   have h0 : (0 : Nat) = k := by injection hn
   exact absurd (h0 ▸ h.pr.wf.root) hd
  ·
   subst e
   obtain ⟨y, en, -, -, h3, h4⟩ := wk_snoc hn
   exact ups_pos (Qdg h3).1 h4
 rw [h.own k hk]
 unfold Go.Proofs.YtbhjggbijkjmnaaGreatDoor.PZ.own
 rw [if_neg hd]
 omega
theorem rt_node {l : List S52} (h : Qbd l = true) {k : Nat} (hk : k < l.length) : nodeN (nd l k) l.length = true := by
 have hr := (Qci l).1 h
 have hs : saneN (nd l k) l.length = true := by
  unfold Qbd at h
  simp only [Bool.and_eq_true] at h
  exact all_nd.1 h.1.2 k hk
 unfold saneN at hs
 unfold nodeN
 by_cases h1 : (nd l k).f0 = 1
 ·
  rw [if_pos h1] at hs ⊢
  simp only [Bool.and_eq_true] at hs ⊢
  exact ⟨⟨hs.1, decide_eq_true (rt_one hr hk zq3)⟩, hs.2⟩
 ·
  rw [if_neg h1] at hs ⊢
  by_cases h2 : (nd l k).f0 = 2
  ·
   rw [if_pos h2] at hs
   simp only [Bool.and_eq_true] at hs ⊢
   exact ⟨⟨⟨decide_eq_true h2, hs.1.2⟩, hs.2⟩, hs.1.1⟩
  · rw [if_neg h2] at hs; cases hs
theorem node_bad {l : List S52} {k : Nat} (hk : k < l.length) (h : nodeN (nd l k) l.length = false) : Qbd l = false := by
 cases hr : Qbd l with
 | false => rfl
 | true => rw [rt_node hr hk] at h; cases h
theorem right_all {l : List S52} (h1 : 1 ≤ l.length) (h2 : l.length ≤ 56) (h3 : (nd l 0).f0 = 2) (h4 : ∀ k, k < l.length → nodeN (nd l k) l.length = true) : Sn l ∧ Qbd l = (List.range l.length).all (okAt l) := by
 have h5 : l.all (fun x => saneN x l.length) = true := all_nd.2 fun k hk => nodeN_sane (h4 k hk)
 refine ⟨sn_of h1 h2 h3 h5, ?_⟩
 unfold Qbd
 rw [h5, decide_eq_true h1, decide_eq_true h2, decide_eq_true h3]
 rfl
theorem mt_order {l : List S52} (h : Wf l) : go l.length (chl l) (chl l 0) ([] ++ [0]) = mt l := by
 show _ = go l.length (chl l) [0] []
 rw [Qfm zq14 h.pos, List.append_nil]
theorem unv_le (n : Nat) (m : List Nat) : unv n m ≤ n := by
 have := List.length_filter_le (fun k => decide (k ∉ m)) (List.range n)
 rw [List.length_range] at this
 exact this
theorem Qfc {w W : World} (h : w.grownBy W none) : Below w.heap.size w W := ⟨h.os, h.tape, h.output, h.size, fun k hk => h.block k hk zq14⟩
theorem rorder_root (A : Option Addr) (c : Nat) (l : List S52) (w : World) (hC : Kd.C k52 w A l.length l) (hc : l.length ≤ c) (hw : Wf l) (hl : l.length ≤ 60) (hm : ∀ k, (nd l k).f3.length < 1000000000) :
  Calls Tryz.prog 42 #[.agg #[.slice A l.length c], .int .i64 0, .slice none 0 0, .int .i64 60] w fun e w' => ∃ v', e = .returned v' ∧ w'.ownsRow w.heap.size 3 1 v' (mt l).length (vals (mt l)) ∧ Below w.heap.size w w' := by
 refine (rorder A c l w hC hc hw zq3 hm 60 0 [] (.slice none 0 0) w (Nat.le_refl _) (Below.refl _ _) hw.pos zq14 List.nodup_nil zq14 (Nat.le_trans (unv_le _ _) hl) (World.ownsRow_nil _ _ _ _)).mono ?_
 rintro e w' ⟨v', rfl, h1, h2, -⟩
 rw [mt_order hw] at h1
 exact ⟨v', rfl, h1, Qfc h2⟩
theorem upto_succ {P : Nat → Prop} {k : Nat} (h : ∀ j, j < k → P j) (hk : P k) : ∀ j, j < k + 1 → P j := fun j hj => by
 by_cases e : j = k
 · rw [e]; exact hk
 · exact h j zq3
theorem five (b1 b2 b3 b4 b5 : Bool) : b1 = true ∨ (b1 = false ∧ b2 = true) ∨ (b1 = false ∧ b2 = false ∧ b3 = false) ∨ (b1 = false ∧ b2 = false ∧ b3 = true ∧ b4 = false) ∨ (b1 = false ∧ b2 = false ∧ b3 = true ∧ b4 = true ∧ b5 = false) ∨ (b1 = false ∧ b2 = false ∧ b3 = true ∧ b4 = true ∧ b5 = true) := by
 cases b1 <;> cases b2 <;> cases b3 <;> cases b4 <;> cases b5 <;> simp
theorem ok_at {l : List S52} {k : Nat} (h : (mt l).length = l.length) (hk : k < (mt l).length) : okAt l k = !((((mt l)[k] : Int) != (k : Int)) || (own l k != (nd l k).f1) || (((nd l k).f0 == 2) && decide (0 < k) && ((ups l k : Int) != 1))) := by
 unfold okAt
 rw [decide_eq_true h, List.getD_eq_getElem?_getD, List.getElem?_eq_getElem hk, Option.getD_some]
 by_cases h1 : (mt l)[k] = k <;> by_cases h2 : own l k = (nd l k).f1 <;> by_cases h3 : (nd l k).f0 = 2 <;> by_cases h4 : 0 < k <;> by_cases h5 : ups l k = 1 <;> simp [h1, h2, h3, h4, h5, bne] <;> omega
set_option maxHeartbeats 8000000 in
theorem rright (A : Option Addr) (c : Nat) (l : List S52) (w : World) (hC : Kd.C k52 w A l.length l) (hc : l.length ≤ c) (hn : l.length < 1000000000000) (hm : ∀ k, (nd l k).f3.length < 1000000000000) :
  Calls Tryz.prog 20 #[.agg #[.slice A l.length c]] w fun e w' => e = .returned (.bool (Qbd l)) ∧ Below w.heap.size w w' := by
 have HC := am hC
 have HM := am hm
 clear hC hm
 rcases Classical.em (1 ≤ l.length) with h1 | h1
 case inr =>
  have e : Qbd l = false := by unfold Qbd; simp [h1]
  rw [e]
  have hd1 : decide ((l.length : Int) < 1) = true := decide_eq_true zq3
  clear e
  go_enter Tryz.func20, Tryz.ntmps20
  go_wp2
  go_ret
  exact ⟨rfl, Qaa (Below.refl _ _) _⟩
 have hd1 : decide ((l.length : Int) < 1) = false := decide_eq_false zq3
 rcases Classical.em (l.length ≤ 56) with h2 | h2
 case inr =>
  have e : Qbd l = false := by unfold Qbd; simp [h2]
  rw [e]
  have hd2 : decide (56 < (l.length : Int)) = true := decide_eq_true zq3
  clear e
  go_enter Tryz.func20, Tryz.ntmps20
  go_wp2
  go_ret
  exact ⟨rfl, Qaa (Below.refl _ _) _⟩
 have hd2 : decide (56 < (l.length : Int)) = false := decide_eq_false zq3
 obtain ⟨ad, A2, c2, A3, c3, e, hx0, -, -, -, -, -, -, -⟩ := Qaz HC.out 0 zq3 zq3
 subst e
 rw [rd0] at hx0
 have hx00 : w.cell? ad = some (.int .i64 (nd l 0).f0) := by simpa [Addr.add] using hx0
 have hxl := World.block_lt_of_cell? w _ hx00
 clear hx0
 rcases Classical.em ((nd l 0).f0 = 2) with h3 | h3
 case inr =>
  have e : Qbd l = false := by unfold Qbd; simp [h3]
  rw [e]
  have hd3 : ((nd l 0).f0 != 2) = true := by simp [bne, h3]
  clear e h3
  go_enter Tryz.func20, Tryz.ntmps20
  go_wp2
  go_ret
  exact ⟨rfl, Qaa (Below.refl _ _) _⟩
 have H3 := am h3
 rw [h3] at hx00
 clear h3
 obtain ⟨i0, hi, hz0, hz1, hz2⟩ := info_parts info3
 go_enter Tryz.func20, Tryz.ntmps20
 go_wp2
 clear hx00 hxl
 go_loopw [4] (fun v4 wr => ∃ k : Nat, k ≤ l.length ∧ v4 = .int .i64 k ∧ Aside0 (∀ j, j < k → nodeN (nd l j) l.length = true) ∧ Aside0 (wr.heap[w.heap.size]? = some (.cells #[.slice (some ad) l.length c] 26 (0, 0))) ∧ Aside0 (Below w.heap.size w wr)) (fun v4 _ => l.length - (intOf v4).toNat)
 case atStart => exact ⟨0, Nat.zero_le _, rfl, ⟨fun j hj => by omega⟩, ⟨Qal _ _⟩, ⟨Qaa (Below.refl _ _) _⟩⟩
 case round =>
  obtain ⟨k, hk, rfl, HE, HX, HB⟩ := hrel
  have htc := (Qab HX.out 0).trans (show _ = some (Value.slice (some ad) l.length c) from rfl)
  have htl := Qai HX.out
  by_cases hlt : k < l.length
  ·
   have hii : (k : Int) < (l.length : Int) := by omega
   obtain ⟨ad2, B2, d2, B3, d3, e, hx0, hx1, hx2, hx3, hl2, hC2, hl3, hC3⟩ := Qaz (Kd.C_below HC.out HB.out) (k : Int) zq3 zq3
   cases e
   rw [Int.toNat_natCast] at hx0 hx1 hx2 hx3
   rw [show rd_T52 l (k : Int) = nd l k from rfl] at hx0 hx1 hx2 hx3 hl3 hC3
   have HC3 := am hC3
   have HL3 := am hl3
   have hq := HM.out k
   have HN := am (rnode (nd l k) l.length B2 d2 B3 d3 wr hn hq HC3.out HL3.out)
   clear hC3 hl3 hC2 hl2
   obtain ⟨nb, hnb⟩ : ∃ nb, nodeN (nd l k) l.length = nb := ⟨_, rfl⟩
   rw [hnb] at HN
   have HNB := am hnb
   clear hnb
   cases nb with
   | false =>
    go_wp2_with (go_at_call 41; (with_reducible refine HN.out.mono ?_); rintro e w2 ⟨rfl, hb⟩; have HB2 := am (Qa HB.out hb); clear hb)
    go_ret
    exact ⟨by rw [node_bad hlt HNB.out]; rfl, HB2.out⟩
   | true =>
    go_wp2_with (go_at_call 41; (with_reducible refine HN.out.mono ?_); rintro e w2 ⟨rfl, hb⟩; have HB2 := am (Qa HB.out hb); have HX2 := am (Qaf HX.out hb); clear hb)
    go_roundw
    case rel => exact ⟨k + 1, by omega, rfl, ⟨upto_succ HE.out HNB.out⟩, HX2, HB2⟩
    case measure => simp [intOf]; omega
  ·
   have hke : k = l.length := by omega
   subst hke
   have hge : ¬ ((l.length : Int) < (l.length : Int)) := Int.lt_irrefl _
   obtain ⟨hsn, hrt⟩ := right_all h1 h2 H3.out HE.out
   have HRT := am hrt
   have HS := am hsn
   have h64 := hsn.ents
   have HW := am hsn.wf
   have H64 := am h64
   clear hsn hrt HE hlt h64
   have hov1 : l.length ≤ maxLen := by unfold maxLen; omega
   have hov2 : i0.bytes * l.length ≤ 281474976710656 := by rw [hz2]; omega
   have hbw : w.heap.size ≤ wr.heap.size := Nat.le_of_lt htl
   go_wp2_with (at_make; refine wpList_make_full _ rfl _ _ 68 rfl w.heap.size 3 i0 (.int .i64 0) 1 Tryz.underlying68 hi hz0 hz1 .i64 .i64 (l.length : Int) (l.length : Int) l.length rfl rfl rfl rfl hov2 hov1 hbw ?_; intro w1 ho hg; rw [made_tabl] at ho; have HT1 := am (show Tb w.heap.size wr.heap.size l.length l.length (fun _ => 0) w1 from ho); have HX1 := am (Qba HX.out hg zq14); have HB1 := am (Qcu HB.out none hbw hg zq14); clear ho hg)
   generalize hgu : wr.heap.size = gu at *
   have hgw : w.heap.size < gu := htl
   clear hgu htc htl HX HB
   obtain ⟨wa, rfl⟩ : ∃ wa : World, wa = wr := ⟨_, rfl⟩
   go_loopw [6] (fun v6 wr => ∃ i : Nat, v6 = .int .i64 i ∧ i ≤ l.length ∧ Aside0 (Tb w.heap.size gu l.length l.length (fun k => (upP l i k : Int)) wr) ∧ Aside0 (wr.heap[w.heap.size]? = some (.cells #[.slice (some ad) l.length c] 26 (0, 0))) ∧ Aside0 (Below w.heap.size w wr)) (fun v6 _ => l.length - (intOf v6).toNat)
   case atStart => exact ⟨0, rfl, Nat.zero_le _, ⟨HT1.out.congr (fun k _ => rfl)⟩, HX1, HB1⟩
   case round =>
    obtain ⟨i, rfl, hil, HT, HX, HB⟩ := hrel
    by_cases hlt : i < l.length
    ·
     have hii : (i : Int) < (l.length : Int) := by omega
     go_wp2
     obtain ⟨wb, rfl⟩ : ∃ wb : World, wb = wr := ⟨_, rfl⟩
     go_loopw [7] (fun v7 wr => ∃ j : Nat, v7 = .int .i64 j ∧ j ≤ (nd l i).f3.length ∧ Aside0 (Tb w.heap.size gu l.length l.length (fun k => (upQ l i j k : Int)) wr) ∧ Aside0 (wr.heap[w.heap.size]? = some (.cells #[.slice (some ad) l.length c] 26 (0, 0))) ∧ Aside0 (Below w.heap.size w wr)) (fun v7 _ => (nd l i).f3.length - (intOf v7).toNat)
     case atStart => exact ⟨0, rfl, Nat.zero_le _, ⟨HT.out.congr (fun k _ => by rw [upQ_zero])⟩, HX, HB⟩
     case round =>
      obtain ⟨j, rfl, hj, HT, HX, HB⟩ := hrel
      have htc := (Qab HX.out 0).trans (show _ = some (Value.slice (some ad) l.length c) from rfl)
      have htl := Qai HX.out
      obtain ⟨ad2, A2, c2, A3, c3, e3, -, -, -, hy3, -, -, hl3, hC3⟩ := Qaz (Kd.C_below HC.out HB.out) (i : Int) zq3 zq3
      cases e3
      rw [Int.toNat_natCast] at hy3
      rw [show rd_T52 l (i : Int) = nd l i from rfl] at hy3 hl3 hC3
      have h64i := H64.out i
      by_cases hlj : j < (nd l i).f3.length
      ·
       have hjj : (j : Int) < ((nd l i).f3.length : Int) := by omega
       obtain ⟨ad4, e4, hw0, hw1⟩ := Qbg hC3 (j : Int) zq3 zq3
       cases e4
       rw [Int.toNat_natCast] at hw1
       have hin := HW.out.ino_lt (List.getElem_mem hlj)
       rw [show rd_T62 (nd l i).f3 (j : Int) = (nd l i).f3[j] by simp [rd_T62, List.getD_eq_getElem?_getD, List.getElem?_eq_getElem hlj], ← hin.2.2] at hw1
       have HU := am (fun k => upQ_succ l i j k hlj)
       have hb := hin.1
       clear hw0 hin hC3
       generalize ino (nd l i).f3[j] = b at hw1 HU hb
       have hbi : (b : Int) < (l.length : Int) := by omega
       obtain ⟨hg0, hgf⟩ := HT.out.at hb
       have hz := upQ_le H64.out i j b
       have HU2 := am (show ∀ k, (upQ l i (j + 1) k : Int) = if k = b then ((upQ l i j b : Nat) : Int) + 1 else (upQ l i j k : Int) from fun k => by
        rw [HU.out k]
        by_cases e : k = b
        · rw [if_pos e, if_pos e, e]; omega
        · rw [if_neg e, if_neg e])
       generalize upQ l i j b = z at hg0 hz HU2
       clear HU
       go_wp2
       go_roundw
       case rel => exact ⟨j + 1, rfl, by omega, ⟨HT.out.put _ hb (fun k _ => HU2.out k)⟩, ⟨Qam (p := ⟨gu, b, none⟩) HX.out (Nat.ne_of_lt hgw) _⟩, ⟨HB.out.setCell (p := ⟨gu, b, none⟩) (Nat.le_of_lt hgw) _⟩⟩
       case measure => simp [intOf]; omega
      ·
       have hje : j = (nd l i).f3.length := by omega
       have HT2 := am (HT.out.congr (f' := fun k => (upP l (i + 1) k : Int)) (fun k _ => by rw [hje, upQ_end]))
       subst hje
       have hge2 : ¬ (((nd l i).f3.length : Int) < ((nd l i).f3.length : Int)) := Int.lt_irrefl _
       clear HT hlj hC3
       go_wp2
       go_roundw
       case rel => exact ⟨i + 1, rfl, by omega, HT2, HX, HB⟩
       case measure => simp [intOf]; omega
    ·
     have hie : i = l.length := by omega
     have HT2 := am (HT.out.congr (f' := fun k => (ups l k : Int)) (fun k hk => by show ((upP l i k : Nat) : Int) = _; rw [hie, Qdj]; rfl))
     subst hie
     have htc := (Qab HX.out 0).trans (show _ = some (Value.slice (some ad) l.length c) from rfl)
     have htl := Qai HX.out
     clear HT hlt
     go_wp2_with (first
      | (go_at_call 42; (with_reducible refine (rorder_root _ c l _ (Kd.C_below HC.out HB.out) hc HW.out zq3 (fun k => by have := H64.out k; omega)).mono ?_); rintro e w2 ⟨vm, rfl, ho, hb⟩; have HO := am ho; have HB2 := am (Qa HB.out hb); have HX2 := am (Qaf HX.out hb); have HT3 := am (HT2.out.below hb); have htc2 := (Qab HX2.out 0).trans (show _ = some (Value.slice (some ad) l.length c) from rfl); have htl2 := Qai HX2.out; clear ho hb)
      | (go_at_call 43; (with_reducible refine (rlinks _ c l _ (Kd.C_below HC.out HB2.out) hc HW.out zq3 H64.out).mono ?_); rintro e w3 ⟨g3, c3, rfl, ho, hb⟩; have HL := am ho; have HB3 := am (Qa HB2.out hb); have HX3 := am (Qaf HX2.out hb); have HT4 := am (HT3.out.below hb); have HO3 := am (Qch HO.out hb); obtain ⟨Am, cm, rfl⟩ := Qcm HO3.out; clear ho hb))
     ·
      rename_i hA
      have BAD := am (show (List.range l.length).all (okAt l) = false from all_bad (show 0 < l.length by omega) (by unfold okAt; rw [decide_eq_false (fun e => by rw [e] at hA; simp at hA)]; rfl))
      go_ret
      exact ⟨by rw [HRT.out, BAD.out]; rfl, HB3.out⟩
     ·
      have hA : ((((mt l).length : Nat) : Int) != (l.length : Int)) = false := by assumption
      have hA1 : (mt l).length = l.length := by have := bne_eq_false_iff_eq.1 hA; omega
      have HA := am hA1
      clear hA hA1 htc htl htc2 htl2 HO HT2 HT3 HX HX2 HB HB2
      go_loopw [10] (fun v10 wr => ∃ k : Nat, k ≤ l.length ∧ v10 = .int .i64 k ∧ Aside0 (∀ j, j < k → okAt l j = true) ∧ Aside0 (Below w3.heap.size w3 wr)) (fun v10 _ => l.length - (intOf v10).toNat)
      case atStart => exact ⟨0, Nat.zero_le _, rfl, ⟨fun j hj => by omega⟩, ⟨Below.refl _ _⟩⟩
      case round =>
       obtain ⟨k, hk, rfl, HE, HB⟩ := hrel
       have HB4 := am (Qa HB3.out HB.out)
       by_cases hlt : k < l.length
       ·
        have hii : (k : Int) < (l.length : Int) := by omega
        have hkm : k < (mt l).length := by rw [HA.out]; exact hlt
        have hjj : (k : Int) < ((mt l).length : Int) := by omega
        obtain ⟨ad2, B2, d2, B3, d3, e, hx0, hx1, -, -, -, -, -, -⟩ := Qaz (Kd.C_below HC.out HB4.out) (k : Int) zq3 zq3
        cases e
        rw [Int.toNat_natCast] at hx0 hx1
        rw [show rd_T52 l (k : Int) = nd l k from rfl] at hx0 hx1
        have hX4 := Qaf HX3.out HB.out
        have htc := (Qab hX4 0).trans (show _ = some (Value.slice (some ad) l.length c) from rfl)
        have htl := Qai hX4
        obtain ⟨g4, c4, e4, hy0⟩ := own_val (Qch HO3.out HB.out) k hkm
        injection e4 with e5 e6 e7
        subst e5
        obtain ⟨hy1, -⟩ := (HL.out.below HB.out).at hlt
        obtain ⟨hy2, -⟩ := (HT4.out.below HB.out).at hlt
        have hok := ok_at HA.out hkm
        clear hX4 e6 e7
        generalize (mt l)[k] = ok at hy0 hok
        generalize own l k = ow at hy1 hok
        generalize ups l k = uk at hy2 hok
        obtain ⟨b1, hb1⟩ : ∃ b, ((ok : Int) != (k : Int)) = b := ⟨_, rfl⟩
        obtain ⟨b2, hb2⟩ : ∃ b, (ow != (nd l k).f1) = b := ⟨_, rfl⟩
        obtain ⟨b3, hb3⟩ : ∃ b, ((nd l k).f0 == 2) = b := ⟨_, rfl⟩
        obtain ⟨b4, hb4⟩ : ∃ b, decide (0 < k) = b := ⟨_, rfl⟩
        obtain ⟨b5, hb5⟩ : ∃ b, ((uk : Int) != 1) = b := ⟨_, rfl⟩
        have hb4' : decide ((0 : Int) < (k : Int)) = b4 := by rw [← hb4]; exact decide_eq_decide.2 zq3
        rw [hb1, hb2, hb3, hb4, hb5] at hok
        have HOK := am hok
        clear hok
        rcases five b1 b2 b3 b4 b5 with rfl | ⟨rfl, rfl⟩ | ⟨rfl, rfl, rfl⟩ | ⟨rfl, rfl, rfl, rfl⟩ | ⟨rfl, rfl, rfl, rfl, rfl⟩ | ⟨rfl, rfl, rfl, rfl, rfl⟩
        all_goals
         go_wp2
         go_quiet (fail)
         go_wp2
        all_goals first
         | (go_ret; exact ⟨by rw [HRT.out, all_bad hlt HOK.out]; rfl, Qac HB4.out _⟩)
         | (go_roundw; (case rel => exact ⟨k + 1, by omega, rfl, ⟨upto_succ HE.out HOK.out⟩, ⟨Qac HB.out _⟩⟩); (case measure => simp [intOf]; omega))
       ·
        have hke : k = l.length := by omega
        subst hke
        have HALL := am (show (List.range l.length).all (okAt l) = true from List.all_eq_true.2 fun j hj => HE.out j (List.mem_range.1 hj))
        go_wp2
        go_ret
        exact ⟨by rw [HRT.out, HALL.out]; rfl, HB4.out⟩
def kH (w0 : World) : Kd (S52 × Bool) where
 sz := 4
 E := k52.E
 K := fun w x cs => match x.2 with | true => k52.K w x.1 cs | false => k52.K w0 x.1 cs
 M := fun w base ok x cs => match x.2 with | true => k52.M w base ok x.1 cs | false => k52.K w0 x.1 cs
 K_len := by rintro w ⟨x, b⟩ cs h; cases b <;> exact k52.K_len h
 K_one := by rintro w ⟨x, b⟩ cs h; cases b <;> exact k52.K_one h
 K_below := by rintro w w1 ⟨x, b⟩ cs hb h; cases b; exact h; exact k52.K_below hb h
 K_of_M := by rintro w base ok ⟨x, b⟩ cs h; cases b; exact h; exact k52.K_of_M h
 M_mono := by rintro w base ok ok' ⟨x, b⟩ cs hk h; cases b; exact h; exact k52.M_mono hk h
 M_bound := by rintro w base ok ⟨x, b⟩ cs h; cases b; exact h; exact k52.M_bound h
 M_move := by rintro w w1 base ok ⟨x, b⟩ cs hk h; cases b; exact h; exact k52.M_move hk h
 M_lower := by rintro w base base' ok ⟨x, b⟩ cs hk h; cases b; exact h; exact k52.M_lower hk h
theorem readsRow_map {α β : Type} {R : α → List Value → Prop} {R' : β → List Value → Prop} {size : Nat} {w w1 : World} {A : Option Addr} {n : Nat} {ps : List α} (h : Qbs R size w A n ps) (hb : Below w.heap.size w w1) (f : α → β) (hR : ∀ p c, R p c → R' (f p) c) : Qbs R' size w1 A n (ps.map f) := by
 obtain ⟨h1, h2, h3⟩ := Qbs.imp_ h hb (fun p c hp => hp)
 refine ⟨by rw [List.length_map]; exact h1, h2, fun hn => ?_⟩
 obtain ⟨ad, e, hc⟩ := h3 hn
 refine ⟨ad, e, fun j p hj => ?_⟩
 rw [List.getElem?_map] at hj
 obtain ⟨q, hq, rfl⟩ := Option.map_eq_some_iff.1 hj
 obtain ⟨c, hs, hr, hcell⟩ := hc j q hq
 exact ⟨c, hs, hR _ _ hr, hcell⟩
theorem S_map {α β : Type} {d : Kd α} {d' : Kd β} {e : Nat} {w : World} {base : Nat} {ok : Nat → Prop} {v : Value} {xs : List α} (h : Kd.S d e w base ok v xs) (hs : d'.sz = d.sz) (f : α → β) (hM : ∀ (ok : Nat → Prop) (x : α) cs, x ∈ xs → d.M w base ok x cs → d'.M w base ok (f x) cs) : Kd.S d' e w base ok v (xs.map f) := by
 obtain ⟨g, h0, inner, ho, hr⟩ := h
 refine ⟨g, h0, inner, ?_, ?_, fun j p hj => ?_⟩
 ·
  rw [List.length_zipIdx, List.length_map, ← List.length_zipIdx (l := xs)]
  show w.ownsRow base e d'.sz v _ inner
  rw [hs]
  exact ho
 ·
  show inner.length = _ * d'.sz
  rw [List.length_zipIdx, List.length_map, hs]
  have := hr.1
  rw [List.length_zipIdx] at this
  exact this
 ·
  rw [List.getElem?_zipIdx, Nat.zero_add, List.getElem?_map] at hj
  cases hx : xs[j]? with
  | none => rw [hx] at hj; cases hj
  | some x =>
   rw [hx] at hj
   injection hj with hj
   subst hj
   have h2 := hr.2 j (x, j) (Kd.zip_at hx)
   show d'.M w base _ (f x) ((inner.drop (j * d'.sz)).take d'.sz)
   rw [hs]
   exact hM _ x _ (List.mem_of_getElem? hx) h2
theorem half_done {w0 w : World} {e base : Nat} {ok : Nat → Prop} {v : Value} {l : List S52} (h : Kd.S (kH w0) e w base ok v (l.map (·, true))) : Kd.S k52 e w base ok v l := by
 have h2 := S_map (d' := k52) h rfl (fun x => x.1) (fun ok x cs hx hm => by
  obtain ⟨y, -, rfl⟩ := List.mem_map.1 hx
  exact hm)
 rw [List.map_map] at h2
 have e : l.map ((fun x : S52 × Bool => x.1) ∘ (·, true)) = l := by
  rw [show ((fun x : S52 × Bool => x.1) ∘ (·, true)) = id from rfl, List.map_id]
 rw [e] at h2
 exact h2
theorem half_node {w0 W : World} {B g n cap : Nat} {xs : List (S52 × Bool)} (h : Kd.S (kH w0) 52 W B (fun _ => True) (.slice (some ⟨g, 0, none⟩) n cap) xs) (i : Nat) (x : S52) (hi : xs[i]? = some (x, false)) (hBW : B ≤ W.heap.size) :
  ∃ A2 c2 A3 c3, W.cell? ⟨g, i * 4 + 2, none⟩ = some (.slice A2 x.f2.length c2) ∧ W.cell? ⟨g, i * 4 + 3, none⟩ = some (.slice A3 x.f3.length c3) ∧ x.f2.length ≤ c2 ∧ (Kd.int .u8).C w0 A2 x.f2.length x.f2 ∧ x.f3.length ≤ c3 ∧ k62.C w0 A3 x.f3.length x.f3 ∧ (∀ j, W.frozen? ⟨g, i * 4 + j, none⟩ = false) ∧ g < W.heap.size ∧
   (∀ (w1 : World) (u2 u3 : Value), Below W.heap.size W w1 → Kd.R (Kd.int .u8) 5 w1 W.heap.size (fun _ => True) u2 x.f2 → Kd.R k62 62 w1 W.heap.size (fun _ => True) u3 x.f3 →
    Kd.S (kH w0) 52 ((w1.setCell ⟨g, i * 4 + 2, none⟩ u2).setCell ⟨g, i * 4 + 3, none⟩ u3) B (fun _ => True) (.slice (some ⟨g, 0, none⟩) n cap) (xs.set i (x, true))) := by
 have hn := (Kd.S_reads' h).1
 have hil := (List.getElem?_eq_some_iff.1 hi).1
 obtain ⟨oki, c, hcl, hM, hcc, hfr, hoki, hH⟩ := Kd.S_elem h (x, false) (i : Int) zq3 zq3
 have hx : xs.getD (i : Int).toNat (x, false) = (x, false) := by rw [Int.toNat_natCast, List.getD_eq_getElem?_getD, hi]; rfl
 rw [hx] at hM
 obtain ⟨A2, c2, A3, c3, rfl, hl2, hC2, hl3, hC3⟩ := k52_open (show k52.K w0 x c from hM)
 rw [Int.toNat_natCast] at hcc hfr
 have hgl : g < W.heap.size := World.block_lt_of_cell? _ _ (hcc 0 _ rfl)
 refine ⟨A2, c2, A3, c3, hcc 2 _ rfl, hcc 3 _ rfl, hl2, hC2, hl3, hC3, hfr, hgl, ?_⟩
 intro w1 u2 u3 hbw hr2 hr3
 have hH2 := Kd.H_widen hH
 obtain ⟨h2, h3⟩ := Kd.H_seg (seg := [u2, u3]) (j := 2) (Kd.H_below hH2 hbw) zq3 zq3 (Nat.le_refl 4) (by
  intro q hq
  rcases List.mem_cons.1 hq with rfl | hq
  · exact (Kd.R_val hr2).2
  ·
   rw [List.mem_singleton] at hq
   subst hq
   exact (Kd.R_val hr3).2)
 have hM' : (kH w0).M (w1.setCells g (i * 4 + 2) [u2, u3]) B (fun k => oki k ∨ True ∧ W.heap.size ≤ k) (x, true) [.int .i64 x.f0, .int .i64 x.f1, u2, u3] :=
  Qdu _ _ _ x
   (Kd.R_lower (Kd.R_mono (Kd.R_step (Kd.R_bound hr2) (fun k hk hlt => h3.block k hlt (fun he => by injection he with he; have := hk.2.1; omega))) (fun k hk => .inr ⟨trivial, hk.2.1⟩)) hBW)
   (Kd.R_lower (Kd.R_mono (Kd.R_step (Kd.R_bound hr3) (fun k hk hlt => h3.block k hlt (fun he => by injection he with he; have := hk.2.1; omega))) (fun k hk => .inr ⟨trivial, hk.2.1⟩)) hBW)
 have h4 := Kd.H_back (okp := fun k => oki k ∨ True ∧ W.heap.size ≤ k) h2 (x' := (x, true)) hM' (fun k hk => hk)
 rw [Int.toNat_natCast] at h4
 exact h4
theorem clonen_walk (ad : Addr) (c0 : Nat) (l0 : List S52) (w : World) (hr0 : Kd.C k52 w (some ad) l0.length l0) (hc0 : l0.length ≤ c0) (hn : l0.length < 1000000000000) :
  Calls Tryz.prog 44 #[.slice (some ad) l0.length c0] w fun e w' => ∃ v0_ : Value, e = .returned v0_ ∧ Kd.S (kH w) 52 w' w.heap.size (fun _ => True) v0_ (l0.map (·, false)) ∧ Below w.heap.size w w' := by
 have HR0 := am hr0
 clear hr0
 have hnil : ∀ W, (binOp .eql 24 (.slice (some ad) l0.length c0) (.slice none 0 0)).run Tryz.prog W = .ok (.bool false) W := fun W => Lib.run_eql_slice_nil (P := Tryz.prog) W 24 52 (some ad) l0.length c0 0 0 Tryz.underlying24
 have HB := am (Below.refl w.heap.size w)
 go_enter Tryz.func44, Tryz.ntmps44
 go_wp2_with (first | ((with_reducible refine Qbx (N := 5) rfl ?_); refine Kd.R_lit (Kd.bare (kH w)) _ 52 ?hg (N := 5) ?hd (xs := ([] : List (S52 × Bool))) (inner := []) (ok := fun _ => True) (okp := fun _ => True) ?hr ?hp (fun _ hk => hk) trivial (Below.refl _ _) (Nat.le_refl _) zq14 ?_; (case hd => rfl); (case hg => rfl); (case hr => first | (go_simp; done) | (go_simp; rfl)); (case hp => exact (Reps.none _ _)); intro v1 w1 ho hb hg_ hnew_; clear hg_ hnew_; have HO := am ho; have HB1 := am hb; clear hb ho) | ((with_reducible refine Qas (b := .append) (xs := #[.tmp 5, .tmp 6]) rfl ?_); at_builtin; refine Kd.R_append_rows (Kd.bare (kH w)) (Rr := fun (x : S52 × Bool) cs => x.2 = false ∧ k52.K w x.1 cs) (w0 := w) w.heap.size rfl (.tmp 5) (.tmp 6) 24 52 _ 64 rfl Tryz.underlying24 info52 rfl (show 0 < 4 by decide) zq3 v1 [] (l0.map (·, false)) _ _ _ (fun _ => True) (fun _ => False) rfl rfl ?aO ?aR ?aM (fun _ h => h.elim) (fun _ _ => trivial) ?aB ?aS ?aL ?_; (case aR => exact readsRow_map HR0.out HB1.out _ (fun p c hp => ⟨rfl, hp⟩)); (case aM => rintro ⟨x, b⟩ cs ⟨h, hk⟩; cases h; exact hk); (case aB => exact HB1.out); (case aO => exact HO.out); (case aS => exact HB1.out.size); (case aL => simp; omega); intro v2 w2 ho hb hg hat; have HO2 := am ho; have HB2 := am hb; clear ho hb hg hat))
 go_ret
 exact ⟨_, rfl, Kd.S_bare HO2.out, HB2.out⟩
def placeD {H : Type} (xs : List Nat) : DataW H := xs.zipIdx.foldl (fun D (p : Nat × Nat) => D.put (.int .i64 (p.1 : Int)) (.lit (.int .i64 (p.2 : Int)))) (.map [])
theorem placeD_snoc {H : Type} (xs : List Nat) (x : Nat) : placeD (H := H) (xs ++ [x]) = (placeD xs).put (.int .i64 (x : Int)) (.lit (.int .i64 (xs.length : Int))) := by simp [placeD, List.zipIdx_append]
theorem placeD_isMap {H : Type} (xs : List Nat) : Go.Maps.IsMap (placeD (H := H) xs) := by
 have key : ∀ (xs : List (Nat × Nat)) (D : DataW H), Go.Maps.IsMap D → Go.Maps.IsMap (xs.foldl (fun D (p : Nat × Nat) => D.put (.int .i64 (p.1 : Int)) (.lit (.int .i64 (p.2 : Int)))) D) := by
  intro xs
  induction xs with
  | nil => intro D h; exact h
  | cons x r ih => intro D h; exact ih _ (h.put _ _)
 exact key _ _ Go.Maps.isMap_empty
theorem placeD_at {H : Type} (k : Nat) : ∀ (m : Nat) (xs : List Nat), xs.length = m → xs.Nodup → k ∈ xs → (placeD (H := H) xs).atKey (.int .i64 (k : Int)) (.lit (.int .i64 0)) = .lit (.int .i64 (xs.idxOf k : Int)) := by
 intro m
 induction m with
 | zero => intro xs hm hn hk; obtain rfl := List.eq_nil_of_length_eq_zero hm; cases hk
 | succ m ih =>
  intro xs hm hn hk
  rcases List.eq_nil_or_concat xs with h | ⟨r, x, h⟩
  · subst h; simp at hm
  ·
   rw [List.concat_eq_append] at h
   subst h
   obtain ⟨h1, h2, h3⟩ := List.nodup_append.1 hn
   rw [placeD_snoc]
   by_cases e : x = k
   ·
    subst e
    have hx : x ∉ r := fun h => h3 x h x zq14 rfl
    rw [Go.Maps.atKey_put_same (placeD_isMap r) (by trivial), List.idxOf_append, if_neg hx]
    simp
   ·
    have hk' : k ∈ r := by
     rcases List.mem_append.1 hk with h | h
     · exact h
     · simp at h; exact absurd h.symm e
    rw [Go.Maps.atKey_put_other (by intro h2; injection h2 with _ h2; exact e zq3), ih r (by simp at hm; exact hm) h1 hk', List.idxOf_append, if_pos hk']
theorem plainElem_int_inv {H : Type} {P : Program} {e : TypeId} {k : IntKind} (he : P.underlying e = some (.int k)) {v : Value} {z : DataW H × List MemPlace} {n : Int} (h : plainElem P e v = some z) (hz : z.1 = .lit (.int k n)) : v = .int k n := by
 unfold plainElem at h
 rw [he] at h
 cases v <;> simp at h
 all_goals
  obtain ⟨h1, rfl⟩ := h
  obtain ⟨rfl, -⟩ := h1
  simp at hz
  rw [hz]
theorem lookup_run {P : Program} {W : World} {t k e : TypeId} {b n : Nat} {kd : IntKind} {D : DataW Unit} (K : Go.Maps.Keyed P k) (ht : P.underlying t = some (.map k e)) (he : P.underlying e = some (.int kd)) (hz : (zeroValue e).run P W = .ok (.int kd 0) W) (hzw : (Lit.int kd 0).wf = true)
  (hown : W.ownsMap P k (plainElem P e) b n D) (key : Value) (kl : Lit) (hkey : keyOf P k key = some kl) (r : Int) (hr : D.atKey kl (.lit (.int kd 0)) = .lit (.int kd r)) :
  (Instr.lookup t (.map (some b)) key false).run P W = .ok (.int kd r) W := by
 obtain ⟨v, ps, hrun, hv⟩ := hown.lookup K ht hz (plainElem_int he hzw) hkey
 have := plainElem_int_inv he hv hr
 subst this
 exact hrun
theorem S_entry {W : World} {B g n cap : Nat} {ok : Nat → Prop} {l : List S52} (h : Kd.S k52 52 W B ok (.slice (some ⟨g, 0, none⟩) n cap) l) (k : Nat) (hk : k < l.length) (j : Nat) (hj : j < (nd l k).f3.length) :
  ∃ ge ce, W.cell? ⟨g, k * 4 + 3, none⟩ = some (.slice (some ⟨ge, 0, none⟩) (nd l k).f3.length ce) ∧ (nd l k).f3.length ≤ ce ∧ W.cell? ⟨ge, j * 2 + 1, none⟩ = some (.int .i64 (nd l k).f3[j].f1) ∧ W.frozen? ⟨ge, j * 2 + 1, none⟩ = false ∧ B ≤ ge ∧ ge ≠ g ∧ (∃ cells, W.heap[ge]? = some (.cells cells 62 (0, 0))) ∧
   ∀ v : Int, Kd.S k52 52 (W.setCell ⟨ge, j * 2 + 1, none⟩ (.int .i64 v)) B ok (.slice (some ⟨g, 0, none⟩) n cap) (setE l k ((nd l k).f3.set j ⟨(nd l k).f3[j].f0, v⟩)) := by
 have hn := (Kd.S_reads' h).1
 obtain ⟨oki, c, hcl, hM, hcc, hoki, hput⟩ := Kd.S_borrow h ⟨0, 0, [], []⟩ (k : Int) zq3 zq3
 rw [Qhd] at hM
 rw [Int.toNat_natCast] at hcc
 obtain ⟨v2, v3, rfl, hd2, hd3⟩ := Qfo hM
 obtain ⟨ge, ce, hv3, hBe, hel, hty⟩ := Kd.R_form hd3 zq3
 subst hv3
 have hce := (Kd.R_reads' hd3).2.1
 obtain ⟨c3, hc3, hM3, hcc3, hf3⟩ := Kd.R_elem hd3 ⟨⟨#[]⟩, 0⟩ (j : Int) zq3 zq3
 rw [Int.toNat_natCast] at hcc3 hf3 hM3
 have hgj : (nd l k).f3.getD j ⟨⟨#[]⟩, 0⟩ = (nd l k).f3[j] := by rw [List.getD_eq_getElem?_getD, List.getElem?_eq_getElem hj]; rfl
 rw [hgj] at hM3
 have hcs3 : c3 = [.string (nd l k).f3[j].f0, .int .i64 (nd l k).f3[j].f1] := k62_openM hM3
 subst hcs3
 have hge : oki ge := hd3.1 ge zq24
 have hne : ge ≠ g := fun e => (hoki ge hge).2 (by rw [e]; simp [Value.ownBlock])
 have hc3x := hcc 3 _ rfl
 rw [Qbl] at hc3x
 refine ⟨ge, ce, hc3x, hce, hcc3 1 _ rfl, hf3 1, hBe, hne, hty, fun v => ?_⟩
 obtain ⟨h2, h3⟩ := Kd.R_seg hd3 (j : Int) zq3 zq3 (c := [.string (nd l k).f3[j].f0, .int .i64 (nd l k).f3[j].f1]) (seg := [.int .i64 v]) (j := 1) (x' := ⟨(nd l k).f3[j].f0, v⟩) (okp := fun _ => False) rfl (by rw [Int.toNat_natCast]; exact hcc3) (Nat.le_refl 2) (k62_mkM _ _ _ ⟨(nd l k).f3[j].f0, v⟩) (fun _ h => h.elim)
 rw [Int.toNat_natCast] at h2 h3
 have h4 := hput (x' := ⟨(nd l k).f0, (nd l k).f1, (nd l k).f2, (nd l k).f3.set j ⟨(nd l k).f3[j].f0, v⟩⟩) h3 (fun q hq => by injection hq with hq; rw [← hq]; exact hge)
  (Qdu _ _ _ ⟨(nd l k).f0, (nd l k).f1, (nd l k).f2, (nd l k).f3.set j ⟨(nd l k).f3[j].f0, v⟩⟩ (Kd.R_mono (Kd.R_over' (v := .slice (some ⟨ge, 0, none⟩) (nd l k).f3.length ce) hd2 (by rintro q hq; simp [Value.ownBlock] at hq; rw [← hq]; exact hty) zq9 (by simpa [Value.ownBlock] using h3)) (fun _ hk => hk)) h2)
 rw [Int.toNat_natCast] at h4
 exact h4
def Qbu (w : World) (g k : Nat) : List Value := [(w.cell? ⟨g, k * 4, none⟩).getD undef, (w.cell? ⟨g, k * 4 + 1, none⟩).getD undef, (w.cell? ⟨g, k * 4 + 2, none⟩).getD undef, (w.cell? ⟨g, k * 4 + 3, none⟩).getD undef]
theorem S_cells {W : World} {B g n cap : Nat} {ok : Nat → Prop} {l : List S52} (h : Kd.S k52 52 W B ok (.slice (some ⟨g, 0, none⟩) n cap) l) (k : Nat) (hk : k < l.length) :
  W.cell? ⟨g, k * 4, none⟩ = some (.int .i64 (nd l k).f0) ∧ W.cell? ⟨g, k * 4 + 1, none⟩ = some (.int .i64 (nd l k).f1) ∧ (∃ A2 c2, W.cell? ⟨g, k * 4 + 2, none⟩ = some (.slice A2 (nd l k).f2.length c2)) ∧ (∃ A3 c3, W.cell? ⟨g, k * 4 + 3, none⟩ = some (.slice A3 (nd l k).f3.length c3)) := by
 have hn := (Kd.S_reads' h).1
 obtain ⟨oki, c, hcl, hM, hcc, hfr, hoki, hH⟩ := Kd.S_elem h ⟨0, 0, [], []⟩ (k : Int) zq3 zq3
 rw [Qhd] at hM
 rw [Int.toNat_natCast] at hcc
 obtain ⟨v2, v3, rfl, hd2, hd3⟩ := Qfo hM
 obtain ⟨A2, c2, rfl⟩ := Kd.R_slice hd2
 obtain ⟨A3, c3, rfl⟩ := Kd.R_slice hd3
 exact ⟨hcc 0 _ rfl, hcc 1 _ rfl, ⟨A2, c2, hcc 2 _ rfl⟩, ⟨A3, c3, hcc 3 _ rfl⟩⟩
theorem S_pick {W : World} {B B' g n cap : Nat} {ok ok' : Nat → Prop} {l : List S52} (h : Kd.S k52 52 W B ok (.slice (some ⟨g, 0, none⟩) n cap) l) {vo : Value} {m : List Nat} (hm : m.Nodup) (hlt : ∀ k ∈ m, k < l.length)
  (hr : Kd.R (Kd.raw 4) 52 W B' ok' vo (m.map (Qbu W g))) (hB : B ≤ B') : Kd.S k52 52 W B (fun k => ok k ∨ ok' k) vo (m.map (nd l)) := by
 have hn := (Kd.S_reads' h).1
 obtain ⟨h0, inner, ho, hi⟩ := hr
 have hS := h
 obtain ⟨f, hf⟩ := hS
 have hty := Qcj ho
 refine ⟨fun b => m.idxOf (f b), fun k hk => .inr (h0 k hk), inner, ?_, ?_, fun j p hj => ?_⟩
 ·
  rw [List.length_zipIdx, List.length_map]
  rw [List.length_map] at ho
  exact own_less ho hB
 ·
  rw [List.length_zipIdx, List.length_map]
  have := hi.1
  rw [List.length_map] at this
  exact this
 ·
  rw [List.getElem?_zipIdx, Nat.zero_add, List.getElem?_map] at hj
  cases hx : m[j]? with
  | none => rw [hx] at hj; cases hj
  | some k =>
   rw [hx] at hj
   injection hj with hj
   subst hj
   have hkm := List.mem_of_getElem? hx
   have hkl := hlt k hkm
   have hc := hi.2 j (Qbu W g k) (by rw [List.getElem?_map, hx]; rfl)
   obtain ⟨c, hcl, hM, hcc, -⟩ := Kd.R_elem hf ((⟨0, 0, [], []⟩ : S52), k) (k : Int) zq3 zq3
   rw [Int.toNat_natCast] at hM hcc
   have hz : l.zipIdx.getD k ((⟨0, 0, [], []⟩ : S52), k) = (nd l k, k) := by
    rw [List.getD_eq_getElem?_getD, List.getElem?_zipIdx, List.getElem?_eq_getElem hkl, Qbm hkl]
    simp
   rw [hz] at hM
   have hcs : (inner.drop (j * 4)).take 4 = c := by
    have e1 : (inner.drop (j * 4)).take 4 = Qbu W g k := hc.1
    rw [e1]
    obtain ⟨a0, a1, a2, a3, rfl⟩ : ∃ a0 a1 a2 a3, c = [a0, a1, a2, a3] := by
     match c, hcl with
     | [a0, a1, a2, a3], _ => exact ⟨_, _, _, _, rfl⟩
    have q0 : W.cell? ⟨g, k * 4, none⟩ = some a0 := hcc 0 _ rfl
    have q1 : W.cell? ⟨g, k * 4 + 1, none⟩ = some a1 := hcc 1 _ rfl
    have q2 : W.cell? ⟨g, k * 4 + 2, none⟩ = some a2 := hcc 2 _ rfl
    have q3 : W.cell? ⟨g, k * 4 + 3, none⟩ = some a3 := hcc 3 _ rfl
    unfold Qbu
    rw [q0, q1, q2, q3]
    rfl
   show k52.M W B _ (nd l k) ((inner.drop (j * 4)).take 4)
   rw [hcs]
   have hM2 := k52.M_bound (show k52.M W B _ (nd l k) c from hM)
   refine k52.M_mono (fun b hb => ?_) hM2
   obtain ⟨⟨⟨hb1, hb2⟩, hb3⟩, hb4, hb5, q, hq, cells, hcells⟩ := hb
   refine ⟨⟨.inl hb1, fun he => ?_⟩, ?_⟩
   ·
    obtain ⟨cells', hc'⟩ := hty b he.symm
    rw [hcells] at hc'
    injection hc' with hc'
    injection hc' with _ hc' _
    subst hc'
    exact absurd hq zq9
   ·
    show m.idxOf (f b) = j
    rw [show f b = k from hb3]
    have hje := (List.getElem?_eq_some_iff.1 hx).2
    have h1 := List.getElem_idxOf (List.idxOf_lt_length_of_mem hkm)
    exact (List.getElem_inj hm).1 (h1.trans hje.symm)
theorem S_links {W : World} {B g n cap : Nat} {ok : Nat → Prop} {l : List S52} (h : Kd.S k52 52 W B ok (.slice (some ⟨g, 0, none⟩) n cap) l) (k : Nat) (hk : k < l.length) :
  W.frozen? ⟨g, k * 4 + 1, none⟩ = false ∧ ∀ v : Int, Kd.S k52 52 (W.setCell ⟨g, k * 4 + 1, none⟩ (.int .i64 v)) B ok (.slice (some ⟨g, 0, none⟩) n cap) (l.set k ⟨(nd l k).f0, v, (nd l k).f2, (nd l k).f3⟩) := by
 have hn := (Kd.S_reads' h).1
 obtain ⟨oki, c, hcl, hM, hcc, hfr, hoki, hH⟩ := Kd.S_elem h ⟨0, 0, [], []⟩ (k : Int) zq3 zq3
 rw [Qhd] at hM
 rw [Int.toNat_natCast] at hcc hfr
 obtain ⟨v2, v3, rfl, hd2, hd3⟩ := Qfo hM
 refine ⟨hfr 1, fun v => ?_⟩
 obtain ⟨h2, h3⟩ := Kd.H_seg (seg := [.int .i64 v]) (j := 1) hH zq3 zq3 (Nat.le_of_ble_eq_true rfl) (by intro q hq; rw [List.mem_singleton] at hq; subst hq; rfl)
 rw [Int.toNat_natCast] at h2 h3
 have h4 := Kd.H_back (okp := oki) h2 (x' := ⟨(nd l k).f0, v, (nd l k).f2, (nd l k).f3⟩) (Qdu _ _ _ ⟨(nd l k).f0, v, (nd l k).f2, (nd l k).f3⟩ (Kd.R_step hd2 (fun b hb hlt => h3.block b hlt (fun he => (hoki b hb).2 (by injection he)))) (Kd.R_step hd3 (fun b hb hlt => h3.block b hlt (fun he => (hoki b hb).2 (by injection he))))) (fun _ hk => hk)
 rw [Int.toNat_natCast] at h4
 exact h4
section
attribute [local go_sem ↓] Go.wp_at_zero Go.wp_at_succ
set_option maxHeartbeats 4000000 in
theorem Qbq (B b : Nat) (l : List S52) (x : Value) (p : ByteArray) (rs : List Value) (g cap : Nat) (w : World) (hBb : B ≤ b) (hw : Wk w b (.slice (some ⟨g, 0, none⟩) l.length cap) (x :: .string p :: rs)) (hS : Kd.S k52 52 w B (fun k => k ≠ b) (.slice (some ⟨g, 0, none⟩) l.length cap) l) (ho : Ok l) (hp : p.size < 10000000) :
  Calls Tryz.prog 79 #[.pointer (some ⟨b, 0, none⟩)] w fun en w' => (match fileF l p with | .inl k => en = .returned (.pointer (some ⟨g, k * 4, none⟩)) | .inr n => en = .panicked (wrong n)) ∧ Below w.heap.size w w' := by
 have hst : St B b l (x :: .string p :: rs) w := ⟨hBb, _, hw, hS⟩
 have hbl : b < w.heap.size := Qai hw
 have hBw : w.heap.size ≤ w.heap.size := Nat.le_refl _
 have hk2 : w.cell? ⟨b, 2, none⟩ = some (.string p) := (Qab hw 2).trans rfl
 have hk0 : w.cell? ⟨b, 0, none⟩ = some (.slice (some ⟨g, 0, none⟩) l.length cap) := (Qab hw 0).trans rfl
 have HST := am hst
 have HO := am ho
 have HB := am (Below.refl w.heap.size w)
 clear hst ho hw hS
 unfold fileF Qav
 by_cases h0 : (Qah p).2 = 0
 ·
  rw [if_pos h0]
  cases hk : wk l (Qah p).1 0 with
  | inr n =>
   dsimp only
   have HK := am hk
   clear hk
   go_enter Tryz.func79, Tryz.ntmps79
   go_wp2_with (first
    | (go_at_call 34; (with_reducible refine (Qak p _ hp).mono ?_); rintro e w1 ⟨h1, hb⟩; rw [if_pos h0] at h1; obtain ⟨An, cn, rfl, hcn, hCn⟩ := h1; have HCN := am hCn; clear hCn; have n0_ := am (Qa zq0 hb); clear HB hb; have HB := n0_; clear n0_; have hk2_ := (HB.out.cell (p := ⟨b, 2, none⟩) hbl).trans hk2)
    | (go_at_call 33; (with_reducible refine (Qaq B b l _ An cn p _ (St.below HST.out zq0) HO.out HCN.out hcn).mono ?_); rintro e w2 ⟨h1, hb⟩; rw [HK.out] at h1; subst h1; have n0_ := am (Qa zq0 hb); clear HB hb; have HB := n0_; clear n0_; have hk2_ := (HB.out.cell (p := ⟨b, 2, none⟩) hbl).trans hk2; exact ⟨rfl, rfl, Below.mono zq0 hBw⟩))
  | inl k =>
   dsimp only
   have hkl : k < l.length := wk_lt HO.out.wf HO.out.wf.pos hk
   have HK := am hk
   clear hk
   cases hd : ((nd l k).f0 == 2) with
   | true =>
    rw [if_pos (beq_iff_eq.1 hd)]
    dsimp only
    go_enter Tryz.func79, Tryz.ntmps79
    go_wp2_with (first
     | (go_at_call 34; (with_reducible refine (Qak p _ hp).mono ?_); rintro e w1 ⟨h1, hb⟩; rw [if_pos h0] at h1; obtain ⟨An, cn, rfl, hcn, hCn⟩ := h1; have HCN := am hCn; clear hCn; have n0_ := am (Qa zq0 hb); clear HB hb; have HB := n0_; clear n0_; have hk2_ := (HB.out.cell (p := ⟨b, 2, none⟩) hbl).trans hk2)
     | (go_at_call 33; (with_reducible refine (Qaq B b l _ An cn p _ (St.below HST.out zq0) HO.out HCN.out hcn).mono ?_); rintro e w2 ⟨h1, hb⟩; rw [HK.out] at h1; subst h1; have n0_ := am (Qa zq0 hb); clear HB hb; have HB := n0_; clear n0_; have hk2_ := (HB.out.cell (p := ⟨b, 2, none⟩) hbl).trans hk2)
     | (go_at_call 65; (with_reducible refine (Qan B b l _ k _ hkl (St.below HST.out zq0) hd).mono ?_); rintro e w9 ⟨rfl, h9⟩; subst w9)
     | (go_at_call 64; (with_reducible refine (Qaw 23 _).mono ?_); rintro e w9 ⟨rfl, h9⟩; subst w9; exact ⟨rfl, rfl, Below.mono zq0 hBw⟩))
   | false =>
    rw [if_neg (beq_eq_false_iff_ne.1 hd)]
    dsimp only
    have hz0 : (0 : Int) ≤ (k : Int) := by omega
    have hz1 : (k : Int) < (l.length : Int) := by omega
    go_enter Tryz.func79, Tryz.ntmps79
    go_wp2_with (first
     | (go_at_call 34; (with_reducible refine (Qak p _ hp).mono ?_); rintro e w1 ⟨h1, hb⟩; rw [if_pos h0] at h1; obtain ⟨An, cn, rfl, hcn, hCn⟩ := h1; have HCN := am hCn; clear hCn; have n0_ := am (Qa zq0 hb); clear HB hb; have HB := n0_; clear n0_; have hk2_ := (HB.out.cell (p := ⟨b, 2, none⟩) hbl).trans hk2)
     | (go_at_call 33; (with_reducible refine (Qaq B b l _ An cn p _ (St.below HST.out zq0) HO.out HCN.out hcn).mono ?_); rintro e w2 ⟨h1, hb⟩; rw [HK.out] at h1; subst h1; have n0_ := am (Qa zq0 hb); clear HB hb; have HB := n0_; clear n0_; have hk2_ := (HB.out.cell (p := ⟨b, 2, none⟩) hbl).trans hk2; have hk0_ := (HB.out.cell (p := ⟨b, 0, none⟩) hbl).trans hk0)
     | (go_at_call 65; (with_reducible refine (Qan B b l _ k _ hkl (St.below HST.out zq0) hd).mono ?_); rintro e w9 ⟨rfl, h9⟩; subst w9)
     | (go_at_call 64; (with_reducible refine (Qau _ _).mono ?_); rintro e w9 ⟨rfl, h9⟩; subst w9))
    go_ret
    exact ⟨rfl, HB.out⟩
 ·
  rw [if_neg h0]
  dsimp only
  go_enter Tryz.func79, Tryz.ntmps79
  go_wp2_with (first
   | (go_at_call 34; (with_reducible refine (Qak p _ hp).mono ?_); rintro e w1 ⟨h1, hb⟩; rw [if_neg h0] at h1; subst h1; have n0_ := am (Qa zq0 hb); clear HB hb; have HB := n0_; clear n0_; have hk2_ := (HB.out.cell (p := ⟨b, 2, none⟩) hbl).trans hk2; exact ⟨rfl, rfl, Below.mono zq0 hBw⟩))
theorem sized_take (b : List Int) (n : Nat) : b.take (min b.length (List.replicate n (0 : Int)).length) ++ (List.replicate n (0 : Int)).drop (min b.length (List.replicate n (0 : Int)).length) = Qcq b n := by
 unfold Qcq
 rw [List.length_replicate, List.drop_replicate]
 rcases Nat.le_total b.length n with h | h
 · rw [Nat.min_eq_left h, List.take_of_length_le (Nat.le_refl _), List.take_of_length_le h]
 · rw [Nat.min_eq_right h, Nat.sub_self, Nat.sub_eq_zero_of_le h]
theorem info5s : (Tryz.prog.info? 5).map (·.size) = some 1 := by kernel_rfl
theorem sized_walk (A : Option Addr) (c : Nat) (bs : List Int) (n : Nat) (w : World) (hC : Kd.C (Kd.int .u8) w A bs.length bs) (hc : bs.length ≤ c) (hn : n < 1000000000) :
  Calls Tryz.prog 80 #[.slice A bs.length c, .int .i64 n] w fun e w' => ∃ v, e = .returned v ∧ Kd.R (Kd.int .u8) 5 w' w.heap.size (fun _ => True) v (Qcq bs n) ∧ Below w.heap.size w w' := by
 have HC := am hC
 clear hC
 go_enter Tryz.func80, Tryz.ntmps80
 have hz0 : (0 : Int) ≤ (n : Int) := by omega
 have hzl : (n : Int).toNat * 1 ≤ 281474976710656 := by omega
 go_wp2_with (first
  | ((with_reducible refine Qbx (N := 7) rfl ?_); go_loud (refine Kd.R_make (Kd.int .u8) (w0 := w) w.heap.size 5 rfl (N := 7) rfl 29 _ _ rfl (n : Int) rfl rfl Tryz.underlying29 (.int .u8 0) 1 info5 rfl zq9 zq3 (0 : Int) (ok := fun _ => True) (okp := fun _ => True) rfl (fun _ hk => hk) trivial hz0 hzl (Below.refl _ _) (Nat.le_refl _) ?_); intro v1 w1 ho hb hg hnew; clear hg hnew; rw [Int.toNat_natCast] at ho; have HO := am ho; have HB := am hb; clear ho hb)
  | ((with_reducible refine Qas (b := .copy) (xs := #[.tmp 8, .tmp 9]) rfl ?_); go_loud (refine Kd.R_copy (0 : Int) (enc := fun x => .int .u8 x) (w0 := w) w.heap.size rfl _ _ 29 29 5 rfl Tryz.underlying29 info5s _ (List.replicate n (0 : Int)) bs A bs.length c (fun _ => True) rfl rfl HO.out (Kd.C_below HC.out HB.out) HB.out HB.out.size ?_); intro w2 hr hb hg; have HR := am hr; have HB2 := am hb; clear hr hb hg))
 go_ret
 refine ⟨_, rfl, ?_, HB2.out⟩
 rw [← sized_take]
 exact HR.out
end
end Go.Proofs.YtbhjggbijkjmnaaGreatDoor.PZ
end
