import Derived.Test.YtbhjggbijkjmnaaGreatDoorM15
import Derived.Test.YtbhjggbijkjmnaaGreatDoorM13
import Derived.Deep.RegionWith
import Derived.Test.YtbhjggbijkjmnaaGreatDoorM05
import Derived.Test.YtbhjggbijkjmnaaGreatDoorM02
import Derived.Test.YtbhjggbijkjmnaaGreatDoorM11
import Derived.BigQuiet
import Derived.Deep.QuietTactic
set_option linter.unusedVariables false
set_option linter.unusedSimpArgs false
section
namespace Go.Proofs.YtbhjggbijkjmnaaGreatDoor.PZ
open Go.RowKit Go.Proofs.YtbhjggbijkjmnaaGreatDoorW.PrintWords Go.Proofs.YtbhjggbijkjmnaaGreatDoorW.PrintLast Go.Proofs.YtbhjggbijkjmnaaGreatDoorW.PrintMore Go.Proofs.YtbhjggbijkjmnaaGreatDoor.B Go.Proofs.YtbhjggbijkjmnaaGreatDoor.Ord TD
set_option maxRecDepth 100000
section
attribute [local go_sem ↓] Go.wp_at_zero Go.wp_at_succ
theorem place_root {l : List S52} : Qav l rootP = .inl 0 := by
 have h : Qah rootP = ([], 0) := by decide +kernel
 unfold Qav
 rw [h, if_pos rfl]
 rfl
set_option maxHeartbeats 8000000 in
theorem runlink (A : Option Addr) (c : Nat) (l : List S52) (p q : ByteArray) (a n : Int) (Ad : Option Addr) (cd : Nat) (d : List Int) (w : World) (hC : Kd.C k52 w A l.length l) (hc : l.length ≤ c) (hrt : Rt l) (hp : p.size < 1000000) (hq : q.size < 1000000) :
  Calls Tryz.prog 60 #[.agg #[.slice A l.length c], .agg #[.int .i64 4, .string p, .string q, .int .i64 a, .int .i64 n, .slice Ad d.length cd]] w fun e w' => RQ w (Qbh l (plain (Qek l p))) e w' := by
 have HC := am hC
 have HT := am hrt
 have HM := am (show ∀ k, (nd l k).f3.length < 1000000000 from fun k => by have := hrt.pr.ents k; omega)
 have hl56 : l.length ≤ 56 := hrt.pr.le
 have HF0 := am (Qco w (.slice A l.length c) (.int .i64 4) (.string p) (.string q) (.int .i64 a) (.int .i64 n) (.slice Ad d.length cd))
 clear hC hrt
 have HNE : Aside0 (p ≠ rootP → (Qah p).2 = 0 → (Qah p).1 ≠ []) := am (fun hr h0 h2 => hr (Qcn h0 h2))
 unfold Qek
 cases hk : Qav l p with
 | inr e =>
  have HS := am hk
  have he : (e != 0) = true := bne_iff_ne.mpr (Qcc hk)
  clear hk
  dsimp only [plain, Qbh]
  go_enter Tryz.func60, Tryz.ntmps60
  go_wp2_with (go_at_call 35; (with_reducible refine (Qdd _ c l p _ (Kd.C_below HC.out HF0.out.bel) hc HT.out.pr.wf HM.out hp).mono ?_); rintro e w1 ⟨rfl, hb⟩; rw [HS.out]; dsimp only [pairR]; have HF1 := am (HF0.out.below hb); obtain ⟨ho0, ho1, ho2, ho3, ho4, ho5⟩ := HF1.out.oc; have htc := HF1.out.tc; obtain ⟨hl0, hl1, hl2, hl3⟩ := HF1.out.lt; clear hb)
  go_region_with (go_at_call 28; (with_reducible refine (Qcp e _).mono ?_); rintro en w2 ⟨rfl, hb⟩; have HF2 := am (HF1.out.below (Qa zq1 hb)); have k1 := HF2.out.tc; obtain ⟨m0, m1, m2, m3⟩ := HF2.out.lt; obtain ⟨c0, c1, c2, c3, c4, c5, c6⟩ := HF2.out.rc; obtain ⟨f1, f2⟩ := HF2.out.fr; clear hb)
  all_goals (go_wp2; exact Qbe (l := l) (r := { res0 with f0 := e }) rfl HF2.out _ rfl rfl hc (Kd.C_below HC.out HF2.out.bel) (Nat.zero_le _) (Kd.C_nil _ _) (Nat.zero_le _) (Kd.C_nil _ _))
 | inl k =>
  have HS := am hk
  have hkl : k < l.length := Qfb HT.out.pr.wf hk
  obtain ⟨ad, A2, g2, A3, g3, e3, hy0, hy1, -, hy3, -, -, hl3, hC3⟩ := Qaz HC.out (k : Int) zq3 zq3
  cases e3
  rw [Int.toNat_natCast, show rd_T52 l (k : Int) = nd l k from rfl] at hy0 hy1 hy3
  have hki : (k : Int) < (l.length : Int) := by omega
  clear hl3 hC3
  by_cases hd : (nd l k).f0 = 2
  ·
   have hkb : ((nd l k).f0 == 2) = true := beq_iff_eq.mpr hd
   dsimp only
   rw [if_pos hd]
   clear hd hk
   dsimp only [plain, Qbh]
   go_enter Tryz.func60, Tryz.ntmps60
   go_wp2_with (go_at_call 35; (with_reducible refine (Qdd _ c l p _ (Kd.C_below HC.out HF0.out.bel) hc HT.out.pr.wf HM.out hp).mono ?_); rintro e w1 ⟨rfl, hb⟩; rw [HS.out]; dsimp only [pairR]; have HF1 := am (HF0.out.below hb); obtain ⟨ho0, ho1, ho2, ho3, ho4, ho5⟩ := HF1.out.oc; have htc := HF1.out.tc; obtain ⟨hl0, hl1, hl2, hl3⟩ := HF1.out.lt; have hz0 := (HF1.out.bel.cell (World.block_lt_of_cell? w _ hy0)).trans hy0; have hz1 := (HF1.out.bel.cell (World.block_lt_of_cell? w _ hy1)).trans hy1; have hz3 := (HF1.out.bel.cell (World.block_lt_of_cell? w _ hy3)).trans hy3; clear hb)
   go_region_with (go_at_call 28; (with_reducible refine (Qcp 23 _).mono ?_); rintro en w2 ⟨rfl, hb⟩; have HF2 := am (HF1.out.below (Qa zq1 hb)); have k1 := HF2.out.tc; obtain ⟨m0, m1, m2, m3⟩ := HF2.out.lt; obtain ⟨c0, c1, c2, c3, c4, c5, c6⟩ := HF2.out.rc; obtain ⟨f1, f2⟩ := HF2.out.fr; clear hb)
   all_goals (go_wp2; exact Qbe (l := l) (r := { res0 with f0 := 23 }) rfl HF2.out _ rfl rfl hc (Kd.C_below HC.out HF2.out.bel) (Nat.zero_le _) (Kd.C_nil _ _) (Nat.zero_le _) (Kd.C_nil _ _))
  ·
   have hkb : ((nd l k).f0 == 2) = false := beq_eq_false_iff_ne.mpr hd
   have hr : p ≠ rootP := fun h => by
    rw [h, place_root] at hk
    cases hk
    exact hd HT.out.pr.wf.root
   dsimp only
   rw [if_neg hd]
   clear hd
   obtain ⟨d0, nm, hs⟩ := place_spot hk hr
   have HSP := am hs
   have hdl : d0 < l.length := (Qbb hs).choose_spec.2.2.2.2.1
   rw [hs]
   dsimp only [plain, Qbh]
   obtain ⟨X, hX⟩ : ∃ X, cutT l d0 nm = X := ⟨_, rfl⟩
   rw [hX]
   have HX := am hX
   have HNR := am (HNE.out hr)
   have HM2 := am (show ∀ k, (nd l k).f2.length < 1000000000 ∧ (nd l k).f3.length < 1000000000 from fun k => ⟨by have := HT.out.pr.size k; omega, HM.out k⟩)
   clear hX hs hr hk
   go_enter Tryz.func60, Tryz.ntmps60
   go_wp2_with (first
    | (go_at_call 35; (with_reducible refine (Qdd _ c l p _ (Kd.C_below HC.out HF0.out.bel) hc HT.out.pr.wf HM.out hp).mono ?_); rintro e w1 ⟨rfl, hb⟩; rw [HS.out]; dsimp only [pairR]; have HF1 := am (HF0.out.below hb); obtain ⟨ho0, ho1, ho2, ho3, ho4, ho5⟩ := HF1.out.oc; have htc := HF1.out.tc; obtain ⟨hl0, hl1, hl2, hl3⟩ := HF1.out.lt; have hz0 := (HF1.out.bel.cell (World.block_lt_of_cell? w _ hy0)).trans hy0; have hz1 := (HF1.out.bel.cell (World.block_lt_of_cell? w _ hy1)).trans hy1; have hz3 := (HF1.out.bel.cell (World.block_lt_of_cell? w _ hy3)).trans hy3; clear hb)
    | (go_at_call 81; (with_reducible refine (rto _ c l p _ (Kd.C_below HC.out zq28) hc HT.out.pr.wf HM.out hp HNR.out).mono ?_); rintro e w2 ⟨rfl, hb⟩; rw [HSP.out]; dsimp only [spotR, nodeV]; have HF2 := am (HF1.out.below (Qa zq1 hb)); clear ho0 ho1 ho2 ho3 ho4 ho5 htc hl0 hl1 hl2 hl3; obtain ⟨ho0, ho1, ho2, ho3, ho4, ho5⟩ := HF2.out.oc; have htc := HF2.out.tc; obtain ⟨hl0, hl1, hl2, hl3⟩ := HF2.out.lt; clear hb)
    | (go_at_call 83; (with_reducible refine (rcut _ c l d0 nm _ (Kd.C_below HC.out zq29) hc zq3 HM2.out hdl).mono ?_); rintro e w3 ⟨u, rfl, hs, hb⟩; rw [HX.out] at hs; clear ho0 ho1 ho2 ho3 ho4 ho5 htc hl0 hl1 hl2 hl3; have HF3 := am (HF2.out.below (Qa zq1 hb)); obtain ⟨A4, c4, hu, hc4, hC4⟩ := Kd.S_reads hs; subst hu; have HC4 := am hC4; have HD4 := am hc4; obtain ⟨c0, c1, c2, c3, c4', c5, c6⟩ := HF3.out.rc; obtain ⟨f1, f2⟩ := HF3.out.fr; obtain ⟨m0, m1, m2, m3⟩ := HF3.out.lt; clear hb hs hc4 hC4))
   refine Qbe (fn := Tryz.f60) (w := w) (W := w3) (l := X) (r := res0) (A1 := A4) (A2 := none) (A3 := none) (c1 := c4) (c2 := 0) (c3 := 0) zq25 HF3.out _ ?h4 ?h5 HD4.out HC4.out (Nat.zero_le _) (Kd.C_nil _ _) (Nat.zero_le _) (Kd.C_nil _ _)
   case h4 => rfl
   case h5 => rfl
set_option maxHeartbeats 8000000 in
theorem rrmdir (A : Option Addr) (c : Nat) (l : List S52) (p q : ByteArray) (a n : Int) (Ad : Option Addr) (cd : Nat) (d : List Int) (w : World) (hC : Kd.C k52 w A l.length l) (hc : l.length ≤ c) (hrt : Rt l) (hp : p.size < 1000000) (hq : q.size < 1000000) :
  Calls Tryz.prog 60 #[.agg #[.slice A l.length c], .agg #[.int .i64 5, .string p, .string q, .int .i64 a, .int .i64 n, .slice Ad d.length cd]] w fun e w' => RQ w (Qbh l (plain (Qgq l p))) e w' := by
 have HC := am hC
 have HT := am hrt
 have HM := am (show ∀ k, (nd l k).f3.length < 1000000000 from fun k => by have := hrt.pr.ents k; omega)
 have hl56 : l.length ≤ 56 := hrt.pr.le
 have HF0 := am (Qco w (.slice A l.length c) (.int .i64 5) (.string p) (.string q) (.int .i64 a) (.int .i64 n) (.slice Ad d.length cd))
 clear hC hrt
 have HNE : Aside0 (p ≠ rootP → (Qah p).2 = 0 → (Qah p).1 ≠ []) := am (fun hr h0 h2 => hr (Qcn h0 h2))
 unfold Qgq
 cases hk : Qav l p with
 | inr e =>
  have HS := am hk
  have he : (e != 0) = true := bne_iff_ne.mpr (Qcc hk)
  clear hk
  dsimp only [plain, Qbh]
  go_enter Tryz.func60, Tryz.ntmps60
  go_wp2_with (go_at_call 35; (with_reducible refine (Qdd _ c l p _ (Kd.C_below HC.out HF0.out.bel) hc HT.out.pr.wf HM.out hp).mono ?_); rintro e w1 ⟨rfl, hb⟩; rw [HS.out]; dsimp only [pairR]; have HF1 := am (HF0.out.below hb); obtain ⟨ho0, ho1, ho2, ho3, ho4, ho5⟩ := HF1.out.oc; have htc := HF1.out.tc; obtain ⟨hl0, hl1, hl2, hl3⟩ := HF1.out.lt; clear hb)
  go_region_with (go_at_call 28; (with_reducible refine (Qcp e _).mono ?_); rintro en w2 ⟨rfl, hb⟩; have HF2 := am (HF1.out.below (Qa zq1 hb)); have k1 := HF2.out.tc; obtain ⟨m0, m1, m2, m3⟩ := HF2.out.lt; obtain ⟨c0, c1, c2, c3, c4, c5, c6⟩ := HF2.out.rc; obtain ⟨f1, f2⟩ := HF2.out.fr; clear hb)
  all_goals (go_wp2; exact Qbe (l := l) (r := { res0 with f0 := e }) rfl HF2.out _ rfl rfl hc (Kd.C_below HC.out HF2.out.bel) (Nat.zero_le _) (Kd.C_nil _ _) (Nat.zero_le _) (Kd.C_nil _ _))
 | inl k =>
  have HS := am hk
  have hkl : k < l.length := Qfb HT.out.pr.wf hk
  obtain ⟨ad, A2, g2, A3, g3, e3, hy0, hy1, -, hy3, -, -, hl3, hC3⟩ := Qaz HC.out (k : Int) zq3 zq3
  cases e3
  rw [Int.toNat_natCast, show rd_T52 l (k : Int) = nd l k from rfl] at hy0 hy1 hy3
  have hki : (k : Int) < (l.length : Int) := by omega
  clear hl3 hC3
  by_cases hd : (nd l k).f0 = 2
  ·
   have hkb : ((nd l k).f0 == 2) = true := beq_iff_eq.mpr hd
   dsimp only
   rw [if_pos hd]
   clear hd
   by_cases h0 : k = 0
   ·
    have hk0 : ((k : Int) == 0) = true := beq_iff_eq.mpr zq3
    rw [if_pos (Or.inl h0)]
    clear h0 hk
    dsimp only [plain, Qbh]
    go_enter Tryz.func60, Tryz.ntmps60
    go_wp2_with (go_at_call 35; (with_reducible refine (Qdd _ c l p _ (Kd.C_below HC.out HF0.out.bel) hc HT.out.pr.wf HM.out hp).mono ?_); rintro e w1 ⟨rfl, hb⟩; rw [HS.out]; dsimp only [pairR]; have HF1 := am (HF0.out.below hb); obtain ⟨ho0, ho1, ho2, ho3, ho4, ho5⟩ := HF1.out.oc; have htc := HF1.out.tc; obtain ⟨hl0, hl1, hl2, hl3⟩ := HF1.out.lt; have hz0 := (HF1.out.bel.cell (World.block_lt_of_cell? w _ hy0)).trans hy0; have hz1 := (HF1.out.bel.cell (World.block_lt_of_cell? w _ hy1)).trans hy1; have hz3 := (HF1.out.bel.cell (World.block_lt_of_cell? w _ hy3)).trans hy3; clear hb)
    go_region_with (go_at_call 28; (with_reducible refine (Qcp 25 _).mono ?_); rintro en w2 ⟨rfl, hb⟩; have HF2 := am (HF1.out.below (Qa zq1 hb)); have k1 := HF2.out.tc; obtain ⟨m0, m1, m2, m3⟩ := HF2.out.lt; obtain ⟨c0, c1, c2, c3, c4, c5, c6⟩ := HF2.out.rc; obtain ⟨f1, f2⟩ := HF2.out.fr; clear hb)
    all_goals (go_wp2; exact Qbe (l := l) (r := { res0 with f0 := 25 }) rfl HF2.out _ rfl rfl hc (Kd.C_below HC.out HF2.out.bel) (Nat.zero_le _) (Kd.C_nil _ _) (Nat.zero_le _) (Kd.C_nil _ _))
   ·
    have hk0 : ((k : Int) == 0) = false := beq_eq_false_iff_ne.mpr zq3
    by_cases hn : (nd l k).f3 = []
    ·
     have hgt : ¬ 0 < (nd l k).f3.length := by rw [hn]; decide
     have hr : p ≠ rootP := fun h => by
      rw [h, place_root] at hk
      cases hk
      exact h0 rfl
     rw [if_neg (fun h => h.elim h0 (fun h2 => h2 hn))]
     clear h0 hn
     obtain ⟨d0, nm, hs⟩ := place_spot hk hr
     have HSP := am hs
     have hdl : d0 < l.length := (Qbb hs).choose_spec.2.2.2.2.1
     rw [hs]
     dsimp only [plain, Qbh]
     obtain ⟨X, hX⟩ : ∃ X, cutT l d0 nm = X := ⟨_, rfl⟩
     rw [hX]
     have HX := am hX
     have HNR := am (HNE.out hr)
     have HM2 := am (show ∀ k, (nd l k).f2.length < 1000000000 ∧ (nd l k).f3.length < 1000000000 from fun k => ⟨by have := HT.out.pr.size k; omega, HM.out k⟩)
     clear hX hs hr hk
     go_enter Tryz.func60, Tryz.ntmps60
     go_wp2_with (first
      | (go_at_call 35; (with_reducible refine (Qdd _ c l p _ (Kd.C_below HC.out HF0.out.bel) hc HT.out.pr.wf HM.out hp).mono ?_); rintro e w1 ⟨rfl, hb⟩; rw [HS.out]; dsimp only [pairR]; have HF1 := am (HF0.out.below hb); obtain ⟨ho0, ho1, ho2, ho3, ho4, ho5⟩ := HF1.out.oc; have htc := HF1.out.tc; obtain ⟨hl0, hl1, hl2, hl3⟩ := HF1.out.lt; have hz0 := (HF1.out.bel.cell (World.block_lt_of_cell? w _ hy0)).trans hy0; have hz1 := (HF1.out.bel.cell (World.block_lt_of_cell? w _ hy1)).trans hy1; have hz3 := (HF1.out.bel.cell (World.block_lt_of_cell? w _ hy3)).trans hy3; clear hb)
      | (go_at_call 81; (with_reducible refine (rto _ c l p _ (Kd.C_below HC.out zq28) hc HT.out.pr.wf HM.out hp HNR.out).mono ?_); rintro e w2 ⟨rfl, hb⟩; rw [HSP.out]; dsimp only [spotR, nodeV]; have HF2 := am (HF1.out.below (Qa zq1 hb)); clear ho0 ho1 ho2 ho3 ho4 ho5 htc hl0 hl1 hl2 hl3; obtain ⟨ho0, ho1, ho2, ho3, ho4, ho5⟩ := HF2.out.oc; have htc := HF2.out.tc; obtain ⟨hl0, hl1, hl2, hl3⟩ := HF2.out.lt; clear hb)
      | (go_at_call 83; (with_reducible refine (rcut _ c l d0 nm _ (Kd.C_below HC.out zq29) hc zq3 HM2.out hdl).mono ?_); rintro e w3 ⟨u, rfl, hs, hb⟩; rw [HX.out] at hs; clear ho0 ho1 ho2 ho3 ho4 ho5 htc hl0 hl1 hl2 hl3; have HF3 := am (HF2.out.below (Qa zq1 hb)); obtain ⟨A4, c4, hu, hc4, hC4⟩ := Kd.S_reads hs; subst hu; have HC4 := am hC4; have HD4 := am hc4; obtain ⟨c0, c1, c2, c3, c4', c5, c6⟩ := HF3.out.rc; obtain ⟨f1, f2⟩ := HF3.out.fr; obtain ⟨m0, m1, m2, m3⟩ := HF3.out.lt; clear hb hs hc4 hC4))
     refine Qbe (fn := Tryz.f60) (w := w) (W := w3) (l := X) (r := res0) (A1 := A4) (A2 := none) (A3 := none) (c1 := c4) (c2 := 0) (c3 := 0) zq25 HF3.out _ ?h4 ?h5 HD4.out HC4.out (Nat.zero_le _) (Kd.C_nil _ _) (Nat.zero_le _) (Kd.C_nil _ _)
     case h4 => rfl
     case h5 => rfl
    ·
     have hgt : 0 < (nd l k).f3.length := List.length_pos_iff.mpr hn
     rw [if_pos (Or.inr hn)]
     clear h0 hn hk
     dsimp only [plain, Qbh]
     go_enter Tryz.func60, Tryz.ntmps60
     go_wp2_with (go_at_call 35; (with_reducible refine (Qdd _ c l p _ (Kd.C_below HC.out HF0.out.bel) hc HT.out.pr.wf HM.out hp).mono ?_); rintro e w1 ⟨rfl, hb⟩; rw [HS.out]; dsimp only [pairR]; have HF1 := am (HF0.out.below hb); obtain ⟨ho0, ho1, ho2, ho3, ho4, ho5⟩ := HF1.out.oc; have htc := HF1.out.tc; obtain ⟨hl0, hl1, hl2, hl3⟩ := HF1.out.lt; have hz0 := (HF1.out.bel.cell (World.block_lt_of_cell? w _ hy0)).trans hy0; have hz1 := (HF1.out.bel.cell (World.block_lt_of_cell? w _ hy1)).trans hy1; have hz3 := (HF1.out.bel.cell (World.block_lt_of_cell? w _ hy3)).trans hy3; clear hb)
     go_region_with (go_at_call 28; (with_reducible refine (Qcp 25 _).mono ?_); rintro en w2 ⟨rfl, hb⟩; have HF2 := am (HF1.out.below (Qa zq1 hb)); have k1 := HF2.out.tc; obtain ⟨m0, m1, m2, m3⟩ := HF2.out.lt; obtain ⟨c0, c1, c2, c3, c4, c5, c6⟩ := HF2.out.rc; obtain ⟨f1, f2⟩ := HF2.out.fr; clear hb)
     all_goals (go_wp2; exact Qbe (l := l) (r := { res0 with f0 := 25 }) rfl HF2.out _ rfl rfl hc (Kd.C_below HC.out HF2.out.bel) (Nat.zero_le _) (Kd.C_nil _ _) (Nat.zero_le _) (Kd.C_nil _ _))
  ·
   have hkb : ((nd l k).f0 == 2) = false := beq_eq_false_iff_ne.mpr hd
   dsimp only
   rw [if_neg hd]
   clear hd hk
   dsimp only [plain, Qbh]
   go_enter Tryz.func60, Tryz.ntmps60
   go_wp2_with (go_at_call 35; (with_reducible refine (Qdd _ c l p _ (Kd.C_below HC.out HF0.out.bel) hc HT.out.pr.wf HM.out hp).mono ?_); rintro e w1 ⟨rfl, hb⟩; rw [HS.out]; dsimp only [pairR]; have HF1 := am (HF0.out.below hb); obtain ⟨ho0, ho1, ho2, ho3, ho4, ho5⟩ := HF1.out.oc; have htc := HF1.out.tc; obtain ⟨hl0, hl1, hl2, hl3⟩ := HF1.out.lt; have hz0 := (HF1.out.bel.cell (World.block_lt_of_cell? w _ hy0)).trans hy0; have hz1 := (HF1.out.bel.cell (World.block_lt_of_cell? w _ hy1)).trans hy1; have hz3 := (HF1.out.bel.cell (World.block_lt_of_cell? w _ hy3)).trans hy3; clear hb)
   go_region_with (go_at_call 28; (with_reducible refine (Qcp 22 _).mono ?_); rintro en w2 ⟨rfl, hb⟩; have HF2 := am (HF1.out.below (Qa zq1 hb)); have k1 := HF2.out.tc; obtain ⟨m0, m1, m2, m3⟩ := HF2.out.lt; obtain ⟨c0, c1, c2, c3, c4, c5, c6⟩ := HF2.out.rc; obtain ⟨f1, f2⟩ := HF2.out.fr; clear hb)
   all_goals (go_wp2; exact Qbe (l := l) (r := { res0 with f0 := 22 }) rfl HF2.out _ rfl rfl hc (Kd.C_below HC.out HF2.out.bel) (Nat.zero_le _) (Kd.C_nil _ _) (Nat.zero_le _) (Kd.C_nil _ _))
end
def okE (n : Nat) (e : S62) : Bool := nameB e.f0 && decide (1 ≤ e.f1) && decide (e.f1 < n)
def okP (p : Option ByteArray) (e : S62) : Bool := match p with
 | none => true
 | some q => lts q e.f0
def sanE (n : Nat) : List S62 → Option ByteArray → Bool
 | [], _ => true
 | e :: r, p => okE n e && okP p e && sanE n r (some e.f0)
def saneN (x : S52) (n : Nat) : Bool :=
 if x.f0 = 1 then decide (x.f3.length = 0) && decide (x.f2.length ≤ 46368) && decide (x.f1 ≤ 200)
 else if x.f0 = 2 then sanE n x.f3 none && decide (x.f2.length = 0) && decide (x.f3.length ≤ 64) else false
def prevE (es : List S62) (i : Nat) : Option ByteArray := if i = 0 then none else some (rd_T62 es ((i - 1 : Nat) : Int)).f0
theorem rdE (es : List S62) (i : Nat) (h : i < es.length) : rd_T62 es (i : Int) = es[i] := by simp [rd_T62, List.getD_eq_getElem?_getD, List.getElem?_eq_getElem h]
theorem sanE_iff (n : Nat) : ∀ (es : List S62) (p : Option ByteArray), sanE n es p = true ↔ (∀ e ∈ es, okE n e = true) ∧ Srt es ∧ (∀ q, p = some q → ∀ e ∈ es, lts q e.f0 = true)
 | [], p => by simp [sanE, Srt]
 | e :: r, p => by
  rw [sanE, Bool.and_eq_true, Bool.and_eq_true, sanE_iff n r (some e.f0)]
  constructor
  ·
   rintro ⟨⟨h1, h2⟩, h3, h4, h5⟩
   refine ⟨fun x hx => ?_, List.pairwise_cons.2 ⟨fun x hx => h5 _ rfl x hx, h4⟩, fun q hq x hx => ?_⟩
   ·
    rcases List.mem_cons.1 hx with rfl | hx
    · exact h1
    · exact h3 x hx
   ·
    subst hq
    rcases List.mem_cons.1 hx with rfl | hx
    · exact h2
    · exact less_trans h2 (h5 _ rfl x hx)
  ·
   rintro ⟨h1, h2, h3⟩
   obtain ⟨h4, h5⟩ := List.pairwise_cons.1 h2
   refine ⟨⟨h1 e List.mem_cons_self, ?_⟩, fun x hx => h1 x (List.mem_cons_of_mem _ hx), h5, fun q hq x hx => ?_⟩
   ·
    cases p with
    | none => rfl
    | some q => exact h3 q rfl e List.mem_cons_self
   ·
    injection hq with hq
    subst hq
    exact h4 x hx
def okAt (l : List S52) (k : Nat) : Bool :=
 decide ((mt l).length = l.length) && decide ((mt l).getD k 0 = k) && decide (own l k = (nd l k).f1) && !(decide (0 < k) && decide ((nd l k).f0 = 2) && !decide (ups l k = 1))
def Qbd (l : List S52) : Bool :=
 decide (1 ≤ l.length) && decide (l.length ≤ 56) && decide ((nd l 0).f0 = 2) && l.all (fun x => saneN x l.length) && (List.range l.length).all (okAt l)
theorem Qdm {x : S52} {n : Nat} (h : saneN x n = true) (h1 : x.f0 = 1) : x.f3 = [] ∧ x.f2.length ≤ 46368 ∧ x.f1 ≤ 200 := by
 unfold saneN at h
 rw [if_pos h1] at h
 simp only [Bool.and_eq_true, decide_eq_true_eq] at h
 exact ⟨List.eq_nil_of_length_eq_zero h.1.1, h.1.2, h.2⟩
theorem Qem {x : S52} {n : Nat} (h : saneN x n = true) (h1 : x.f0 = 2) : (∀ e ∈ x.f3, okE n e = true) ∧ Srt x.f3 ∧ x.f2 = [] ∧ x.f3.length ≤ 64 := by
 unfold saneN at h
 rw [if_neg zq3, if_pos h1] at h
 simp only [Bool.and_eq_true, decide_eq_true_eq] at h
 obtain ⟨h2, h3, _⟩ := (sanE_iff n _ none).1 h.1.1
 exact ⟨h2, h3, List.eq_nil_of_length_eq_zero h.1.2, h.2⟩
theorem saneN_kind {x : S52} {n : Nat} (h : saneN x n = true) : x.f0 = 1 ∨ x.f0 = 2 := by
 unfold saneN at h
 by_cases h1 : x.f0 = 1
 · exact .inl h1
 ·
  by_cases h2 : x.f0 = 2
  · exact .inr h2
  · rw [if_neg h1, if_neg h2] at h; cases h
structure Sn (l : List S52) : Prop where
 pos : 1 ≤ l.length
 le : l.length ≤ 56
 root : (nd l 0).f0 = 2
 sane : ∀ k, k < l.length → saneN (nd l k) l.length = true
theorem Sn.key {l : List S52} (h : Sn l) (k : Nat) : (nd l k = dN) ∨ (k < l.length ∧ saneN (nd l k) l.length = true) := by
 rcases Nat.lt_or_ge k l.length with hk | hk
 · exact .inr ⟨hk, h.sane k hk⟩
 · exact .inl (Qbr hk)
theorem Sn.wf {l : List S52} (h : Sn l) : Wf l := by
 refine ⟨h.pos, h.root, fun k hk => ?_, fun k => ?_, fun k e he => ?_⟩
 ·
  rcases h.key k with h1 | ⟨h1, h2⟩
  · rw [h1]; rfl
  ·
   rcases saneN_kind h2 with h3 | h3
   · exact (Qdm h2 h3).1
   · exact absurd h3 hk
 ·
  rcases h.key k with h1 | ⟨h1, h2⟩
  · rw [h1]; exact List.Pairwise.nil
  ·
   rcases saneN_kind h2 with h3 | h3
   · rw [(Qdm h2 h3).1]; exact List.Pairwise.nil
   · exact (Qem h2 h3).2.1
 ·
  rcases h.key k with h1 | ⟨h1, h2⟩
  · rw [h1] at he; cases he
  ·
   rcases saneN_kind h2 with h3 | h3
   · rw [(Qdm h2 h3).1] at he; cases he
   ·
    have := (Qem h2 h3).1 e he
    unfold okE at this
    simp only [Bool.and_eq_true, decide_eq_true_eq] at this
    exact ⟨this.1.2, this.2⟩
theorem Sn.ents {l : List S52} (h : Sn l) (k : Nat) : (nd l k).f3.length ≤ 64 := by
 rcases h.key k with h1 | ⟨h1, h2⟩
 · rw [h1]; simp [z52]
 ·
  rcases saneN_kind h2 with h3 | h3
  · rw [(Qdm h2 h3).1]; simp
  · exact (Qem h2 h3).2.2.2
theorem all_nd {l : List S52} {p : S52 → Bool} : l.all p = true ↔ ∀ k, k < l.length → p (nd l k) = true := by
 rw [List.all_eq_true]
 constructor
 · intro h k hk; rw [Qbm hk]; exact h _ (List.getElem_mem hk)
 ·
  intro h x hx
  obtain ⟨k, hk, rfl⟩ := List.getElem_of_mem hx
  have := h k hk
  rwa [Qbm hk] at this
theorem sn_of {l : List S52} (h1 : 1 ≤ l.length) (h2 : l.length ≤ 56) (h3 : (nd l 0).f0 = 2) (h4 : l.all (fun x => saneN x l.length) = true) : Sn l := ⟨h1, h2, h3, all_nd.1 h4⟩
theorem Qci (l : List S52) : Qbd l = true ↔ Rt l := by
 constructor
 ·
  intro h
  unfold Qbd at h
  simp only [Bool.and_eq_true, decide_eq_true_eq] at h
  obtain ⟨⟨⟨⟨h1, h2⟩, h3⟩, h4⟩, h5⟩ := h
  have hs := sn_of h1 h2 h3 h4
  have hat : ∀ k, k < l.length → (mt l).length = l.length ∧ (mt l).getD k 0 = k ∧ own l k = (nd l k).f1 ∧ (0 < k → (nd l k).f0 = 2 → ups l k = 1) := fun k hk => by
   have := List.all_eq_true.1 h5 k (List.mem_range.2 hk)
   unfold okAt at this
   simp only [Bool.and_eq_true, decide_eq_true_eq, Bool.not_eq_true', Bool.and_eq_false_iff, decide_eq_false_iff_not] at this
   obtain ⟨⟨⟨a, b⟩, c⟩, d⟩ := this
   refine ⟨a, b, c, fun h6 h7 => ?_⟩
   rcases d with (d | d) | d
   · omega
   · exact absurd h7 d
   · simpa using d
  have hlen := (hat 0 zq3).1
  have hord : mt l = List.range l.length := by
   apply List.ext_getElem
   · rw [hlen, List.length_range]
   ·
    intro i h6 h7
    have h8 := (hat i zq3).2.1
    rw [List.getElem_range]
    rw [List.getD_eq_getElem?_getD, List.getElem?_eq_getElem h6] at h8
    exact h8
  refine ⟨⟨hs.wf, h2, fun k hk => saneN_kind (hs.sane k hk), fun k e he => ?_, hs.ents, fun k => ?_, fun k hk => ?_, fun k hk => ?_, fun k hk => ?_⟩, hord, fun k hk => (hat k hk).2.2.1.symm⟩
  ·
   rcases hs.key k with h6 | ⟨h6, h7⟩
   · rw [h6] at he; cases he
   ·
    rcases saneN_kind h7 with h8 | h8
    · rw [(Qdm h7 h8).1] at he; cases he
    ·
     have := (Qem h7 h8).1 e he
     unfold okE at this
     simp only [Bool.and_eq_true, decide_eq_true_eq] at this
     exact this.1.1
  ·
   rcases hs.key k with h6 | ⟨h6, h7⟩
   · rw [h6]; simp [z52]
   ·
    rcases saneN_kind h7 with h8 | h8
    · exact (Qdm h7 h8).2.1
    · rw [(Qem h7 h8).2.2.1]; simp
  ·
   rcases hs.key k with h6 | ⟨h6, h7⟩
   · rw [h6] at hk; simp [z52] at hk
   · exact (Qem h7 hk).2.2.1
  ·
   rcases hs.key k with h6 | ⟨h6, h7⟩
   · rw [h6] at hk; simp [z52] at hk
   ·
    have h8 := (Qdm h7 hk).2.2
    have h9 := (hat k h6).2.2.1
    unfold own at h9
    rw [if_neg zq3] at h9
    omega
  ·
   rcases hs.key k with h6 | ⟨h6, h7⟩
   · rw [h6] at hk; simp [z52] at hk
   ·
    by_cases h0 : 0 < k
    · exact Nat.le_of_eq ((hat k h6).2.2.2 h0 hk)
    ·
     have h0' : k = 0 := by omega
     subst h0'
     rw [Qdj]
     have : ∀ m : List Nat, (m.map (fun x => cnt l x 0)).sum = 0 := by
      intro m
      induction m with
      | nil => rfl
      | cons x m ih =>
       rw [List.map_cons, List.sum_cons, ih]
       have : cnt l x 0 = 0 := by
        unfold cnt
        rw [List.countP_eq_zero]
        intro e he
        have := hs.wf.ino_lt he
        simp; omega
       omega
     rw [this]; omega
 ·
  intro h
  have hw := h.pr.wf
  unfold Qbd
  simp only [Bool.and_eq_true, decide_eq_true_eq]
  refine ⟨⟨⟨⟨hw.pos, h.pr.le⟩, hw.root⟩, all_nd.2 fun k hk => ?_⟩, List.all_eq_true.2 fun k hk => ?_⟩
  ·
   unfold saneN
   rcases h.pr.kind k hk with h1 | h1
   ·
    rw [if_pos h1]
    simp only [Bool.and_eq_true, decide_eq_true_eq]
    refine ⟨⟨by rw [hw.file k zq3]; rfl, h.pr.size k⟩, ?_⟩
    rw [h.own k hk]
    unfold own
    rw [if_neg zq3]
    have := h.pr.links k h1
    omega
   ·
    rw [if_neg zq3, if_pos h1]
    simp only [Bool.and_eq_true, decide_eq_true_eq]
    refine ⟨⟨(sanE_iff _ _ none).2 ⟨fun e he => ?_, hw.srt k, fun q hq => by cases hq⟩, by rw [h.pr.ddata k h1]; rfl⟩, h.pr.ents k⟩
    unfold okE
    simp only [Bool.and_eq_true, decide_eq_true_eq]
    exact ⟨⟨h.pr.names k e he, (hw.rng k e he).1⟩, (hw.rng k e he).2⟩
  ·
   have hk' := List.mem_range.1 hk
   unfold okAt
   simp only [Bool.and_eq_true, decide_eq_true_eq, Bool.not_eq_true', Bool.and_eq_false_iff, decide_eq_false_iff_not]
   refine ⟨⟨⟨by rw [h.ord, List.length_range], by rw [h.ord]; simp [List.getD_eq_getElem?_getD, hk']⟩, (h.own k hk').symm⟩, ?_⟩
   by_cases h0 : 0 < k
   ·
    by_cases h2 : (nd l k).f0 = 2
    ·
     refine .inr ?_
     simp only [Bool.not_eq_false', decide_eq_true_eq]
     refine Nat.le_antisymm (h.pr.up k h2) ?_
     obtain ⟨p, hp⟩ := met_wk hw (by rw [h.ord]; exact hk : k ∈ mt l)
     rcases List.eq_nil_or_concat p with h3 | ⟨q, m, h3⟩
     · subst h3; cases hp; omega
     ·
      rw [List.concat_eq_append] at h3
      subst h3
      rw [wk_append] at hp
      split at hp
      ·
       rename_i y hy
       simp only [wk] at hp
       split at hp
       ·
        split at hp
        ·
         rename_i e he
         cases hp
         exact ups_pos (Qdg he).1 rfl
        · cases hp
       · cases hp
      · cases hp
    · exact .inl (.inr h2)
   · exact .inl (.inl h0)
theorem sanE_step {n : Nat} {es : List S62} {i : Nat} (h : i < es.length) : sanE n (es.drop i) (prevE es i) = (okE n (rd_T62 es i) && okP (prevE es i) (rd_T62 es i) && sanE n (es.drop (i + 1)) (prevE es (i + 1))) := by
 rw [List.drop_eq_getElem_cons h, rdE es i h]
 have hp : prevE es (i + 1) = some es[i].f0 := by
  unfold prevE
  rw [if_neg zq3, Nat.add_sub_cancel, rdE es i h]
 rw [hp]
 rfl
def boxN (w : World) (x1 : Int) (A2 : Option Addr) (n2 c2 : Nat) (A3 : Option Addr) (n3 c3 : Nat) : World := w.alloc (.cells #[.int .i64 2, .int .i64 x1, .slice A2 n2 c2, .slice A3 n3 c3] 52)
theorem boxN_cell {w W : World} {x1 : Int} {A2 A3 : Option Addr} {n2 c2 n3 c3 : Nat} (h : Below (boxN w x1 A2 n2 c2 A3 n3 c3).heap.size (boxN w x1 A2 n2 c2 A3 n3 c3) W) :
  W.cell? ⟨w.heap.size, 2, none⟩ = some (.slice A2 n2 c2) ∧ W.cell? ⟨w.heap.size, 3, none⟩ = some (.slice A3 n3 c3) ∧ w.heap.size < W.heap.size ∧ Below w.heap.size w W := by
 have hk := Qaf (Qal w (.cells #[.int .i64 2, .int .i64 x1, .slice A2 n2 c2, .slice A3 n3 c3] 52)) h
 exact ⟨(Qab hk 2).trans rfl, (Qab hk 3).trans rfl, Qai hk, Qa (Qaa (Below.refl _ _) _) h⟩
set_option maxHeartbeats 4000000 in
theorem sane_walk (x : S52) (n : Nat) (A2 : Option Addr) (c2 : Nat) (A3 : Option Addr) (c3 : Nat) (w : World) (hn : n < 1000000000000) (hl : x.f3.length < 1000000000000) (hr3 : Kd.C k62 w A3 x.f3.length x.f3) (hc3 : x.f3.length ≤ c3) :
  Calls Tryz.prog 38 #[.agg #[.int .i64 x.f0, .int .i64 x.f1, .slice A2 x.f2.length c2, .slice A3 x.f3.length c3], .int .i64 n] w fun e w' => e = .returned (.bool (saneN x n)) ∧ Below w.heap.size w w' := by
 have HR := am hr3
 clear hr3
 obtain ⟨x0, x1, x2, x3⟩ := x
 dsimp only at *
 by_cases k1 : x0 = 1
 ·
  subst k1
  by_cases p1 : x3.length = 0
  ·
   have b1 : ((x3.length : Int) == 0) = true := beq_iff_eq.2 zq3
   by_cases p2 : x2.length ≤ 46368
   ·
    have b2 : decide ((x2.length : Int) ≤ 46368) = true := decide_eq_true zq3
    have b2' : decide (x2.length ≤ 46368) = true := decide_eq_true p2
    have HS := am (show saneN ⟨1, x1, x2, x3⟩ n = decide (x1 ≤ 200) by show (decide (x3.length = 0) && decide (x2.length ≤ 46368) && decide (x1 ≤ 200)) = _; rw [decide_eq_true p1, b2']; rfl)
    clear p1 p2
    go_enter Tryz.func38, Tryz.ntmps38
    go_wp2
    go_ret
    exact ⟨by rw [HS.out]; rfl, Qaa (Below.refl _ _) _⟩
   ·
    have b2 : decide ((x2.length : Int) ≤ 46368) = false := decide_eq_false zq3
    have b2' : decide (x2.length ≤ 46368) = false := decide_eq_false p2
    have HS := am (show saneN ⟨1, x1, x2, x3⟩ n = false by show (decide (x3.length = 0) && decide (x2.length ≤ 46368) && decide (x1 ≤ 200)) = _; rw [b2', Bool.and_false]; rfl)
    clear p1 p2
    go_enter Tryz.func38, Tryz.ntmps38
    go_wp2
    go_ret
    exact ⟨by rw [HS.out]; rfl, Qaa (Below.refl _ _) _⟩
  ·
   have b1 : ((x3.length : Int) == 0) = false := beq_eq_false_iff_ne.2 zq3
   have HS := am (show saneN ⟨1, x1, x2, x3⟩ n = false by show (decide (x3.length = 0) && decide (x2.length ≤ 46368) && decide (x1 ≤ 200)) = _; rw [decide_eq_false p1]; rfl)
   have b1' : ¬ x3 = [] := fun h => p1 (by rw [h]; rfl)
   clear p1
   go_enter Tryz.func38, Tryz.ntmps38
   go_wp2
   go_ret
   exact ⟨by rw [HS.out]; rfl, Qaa (Below.refl _ _) _⟩
 ·
  have b0 : (x0 == 1) = false := beq_eq_false_iff_ne.2 k1
  by_cases k2 : x0 = 2
  ·
   subst k2
   clear k1
   have HSN := am (show saneN ⟨2, x1, x2, x3⟩ n = (sanE n x3 none && decide (x2.length = 0) && decide (x3.length ≤ 64)) from rfl)
   go_enter Tryz.func38, Tryz.ntmps38
   go_wp2
   go_loopw [31] (fun v31 wr => ∃ k : Nat, k ≤ x3.length ∧ v31 = .int .i64 k ∧ Aside0 (sanE n (x3.drop k) (prevE x3 k) = sanE n x3 none) ∧ Aside0 (Below (boxN w x1 A2 x2.length c2 A3 x3.length c3).heap.size (boxN w x1 A2 x2.length c2 A3 x3.length c3) wr)) (fun v31 _ => x3.length - (intOf v31).toNat)
   case atStart => exact ⟨0, Nat.zero_le _, rfl, ⟨rfl⟩, ⟨Below.refl _ _⟩⟩
   case round =>
    obtain ⟨k, hk, rfl, HE, HB⟩ := hrel
    obtain ⟨hb2, hb3, hbl, hbw⟩ := boxN_cell HB.out
    have HBW := am hbw
    clear hbw
    by_cases hlt : k < x3.length
    ·
     have hki : (k : Int) < (x3.length : Int) := by omega
     have HE2 := am (HE.out.symm.trans (sanE_step hlt))
     obtain ⟨ad, rfl, hx0, hx1⟩ := Qbg HR.out (k : Int) zq3 zq3
     rw [Int.toNat_natCast] at hx0 hx1
     replace hx0 := (HBW.out.cell (World.block_lt_of_cell? w _ hx0)).trans hx0
     replace hx1 := (HBW.out.cell (World.block_lt_of_cell? w _ hx1)).trans hx1
     obtain ⟨e, he⟩ : ∃ e, rd_T62 x3 (k : Int) = e := ⟨_, rfl⟩
     rw [he] at hx0 hx1 HE2
     cases hnb : nameB e.f0 with
     | false =>
      have HS := am (HE2.out.trans (by unfold okE; rw [hnb]; rfl : _ = false))
      go_wp2
      go_quiet ((go_at_call 71; exact Calls.quiet_of_same (Qec _ _)))
      go_wp2
      go_ret
      exact ⟨by rw [HSN.out, HS.out]; rfl, by repeat (first | exact HBW.out | with_reducible apply Qac | with_reducible apply Qad | with_reducible apply Qaa)⟩
     | true =>
      by_cases q1 : e.f1 < 1
      ·
       have q1b : decide (e.f1 < 1) = true := decide_eq_true q1
       have q1c : decide (1 ≤ e.f1) = false := decide_eq_false zq3
       have HS := am (HE2.out.trans (by unfold okE; rw [hnb, q1c]; rfl : _ = false))
       go_wp2
       go_quiet ((go_at_call 71; exact Calls.quiet_of_same (Qec _ _)))
       go_wp2
       go_ret
       exact ⟨by rw [HSN.out, HS.out]; rfl, by repeat (first | exact HBW.out | with_reducible apply Qac | with_reducible apply Qad | with_reducible apply Qaa)⟩
      ·
       have q1b : decide (e.f1 < 1) = false := decide_eq_false q1
       have q1c : decide (1 ≤ e.f1) = true := decide_eq_true zq3
       by_cases q2 : (n : Int) ≤ e.f1
       ·
        have q2b : decide ((n : Int) ≤ e.f1) = true := decide_eq_true q2
        have q2c : decide (e.f1 < (n : Int)) = false := decide_eq_false zq3
        have HS := am (HE2.out.trans (by unfold okE; rw [hnb, q1c, q2c]; rfl : _ = false))
        go_wp2
        go_quiet ((go_at_call 71; exact Calls.quiet_of_same (Qec _ _)))
        go_wp2
        go_ret
        exact ⟨by rw [HSN.out, HS.out]; rfl, by repeat (first | exact HBW.out | with_reducible apply Qac | with_reducible apply Qad | with_reducible apply Qaa)⟩
       ·
        have q2b : decide ((n : Int) ≤ e.f1) = false := decide_eq_false q2
        have q2c : decide (e.f1 < (n : Int)) = true := decide_eq_true zq3
        rcases Nat.eq_zero_or_pos k with k0 | k0
        ·
         have k0b : decide (0 < (k : Int)) = false := decide_eq_false zq3
         have k0c : decide (0 < k) = false := decide_eq_false zq3
         have hpv : prevE x3 k = none := by unfold prevE; rw [if_pos k0]
         rw [hpv] at HE2
         clear hpv k0
         have HS := am (HE2.out.trans (by unfold okE; rw [hnb, q1c, q2c]; rfl : _ = sanE n (x3.drop (k + 1)) (prevE x3 (k + 1))))
         go_wp2
         go_quiet ((go_at_call 71; exact Calls.quiet_of_same (Qec _ _)))
         go_wp2
         go_roundw
         case rel => exact ⟨k + 1, by omega, rfl, ⟨HS.out.symm⟩, ⟨by repeat (first | exact HB.out | with_reducible apply Qac | with_reducible apply Qad | with_reducible apply Qaa)⟩⟩
         case measure => simp [intOf]; omega
        ·
         have k0b : decide (0 < (k : Int)) = true := decide_eq_true zq3
         have k0c : decide (0 < k) = true := decide_eq_true k0
         have k1n : (k : Int) - 1 = ((k - 1 : Nat) : Int) := by omega
         have k1l : ((k - 1 : Nat) : Int) < (x3.length : Int) := by omega
         obtain ⟨ad', e', hy0, hy1⟩ := Qbg HR.out ((k - 1 : Nat) : Int) zq3 zq3
         cases e'
         rw [Int.toNat_natCast] at hy0 hy1
         replace hy0 := (HBW.out.cell (World.block_lt_of_cell? w _ hy0)).trans hy0
         have hyl : (ad.add ((k - 1) * 2)).block < wr.heap.size := World.block_lt_of_cell? wr _ hy0
         have hpv : prevE x3 k = some (rd_T62 x3 ((k - 1 : Nat) : Int)).f0 := by unfold prevE; rw [if_neg zq3]
         rw [hpv] at HE2
         clear hpv hy1
         generalize (rd_T62 x3 ((k - 1 : Nat) : Int)).f0 = pv at hy0 HE2
         cases hlb : Op.bytesLess pv.toList e.f0.toList with
         | false =>
          have HS := am (HE2.out.trans (by unfold okE okP; rw [hnb, q1c, q2c]; show (true && lts pv e.f0 && _) = false; unfold lts; rw [hlb]; rfl : _ = false))
          go_wp2
          go_quiet ((go_at_call 71; exact Calls.quiet_of_same (Qec _ _)))
          go_wp2
          go_ret
          exact ⟨by rw [HSN.out, HS.out]; rfl, by repeat (first | exact HBW.out | with_reducible apply Qac | with_reducible apply Qad | with_reducible apply Qaa)⟩
         | true =>
          have HS := am (HE2.out.trans (by unfold okE okP; rw [hnb, q1c, q2c]; show (true && lts pv e.f0 && _) = _; unfold lts; rw [hlb]; rfl : _ = sanE n (x3.drop (k + 1)) (prevE x3 (k + 1))))
          go_wp2
          go_quiet ((go_at_call 71; exact Calls.quiet_of_same (Qec _ _)))
          go_wp2
          go_roundw
          case rel => exact ⟨k + 1, by omega, rfl, ⟨HS.out.symm⟩, ⟨by repeat (first | exact HB.out | with_reducible apply Qac | with_reducible apply Qad | with_reducible apply Qaa)⟩⟩
          case measure => simp [intOf]; omega
    ·
     have hke : k = x3.length := by omega
     subst hke
     have HS := am (HE.out.symm.trans (by rw [List.drop_length]; rfl : _ = true))
     by_cases p1 : x2.length = 0
     ·
      have b1 : ((x2.length : Int) == 0) = true := beq_iff_eq.2 zq3
      by_cases p2 : x3.length ≤ 64
      ·
       have b2 : decide ((x3.length : Int) ≤ 64) = true := decide_eq_true zq3
       have b2' : decide (x3.length ≤ 64) = true := decide_eq_true p2
       have b1' : decide (x2.length = 0) = true := decide_eq_true p1
       clear p1 p2
       go_wp2
       go_ret
       exact ⟨by rw [HSN.out, HS.out, b1', b2']; rfl, by repeat (first | exact HBW.out | with_reducible apply Qac | with_reducible apply Qad | with_reducible apply Qaa)⟩
      ·
       have b2 : decide ((x3.length : Int) ≤ 64) = false := decide_eq_false zq3
       have b2' : decide (x3.length ≤ 64) = false := decide_eq_false p2
       clear p1 p2
       go_wp2
       go_ret
       exact ⟨by rw [HSN.out, b2', Bool.and_false]; rfl, by repeat (first | exact HBW.out | with_reducible apply Qac | with_reducible apply Qad | with_reducible apply Qaa)⟩
     ·
      have b1 : ((x2.length : Int) == 0) = false := beq_eq_false_iff_ne.2 zq3
      have b1' : decide (x2.length = 0) = false := decide_eq_false p1
      have b1n : ¬ x2 = [] := fun h => p1 (by rw [h]; rfl)
      clear p1
      go_wp2
      go_ret
      exact ⟨by rw [HSN.out, b1', Bool.and_false]; rfl, by repeat (first | exact HBW.out | with_reducible apply Qac | with_reducible apply Qad | with_reducible apply Qaa)⟩
  ·
   have b0' : (x0 == 2) = false := beq_eq_false_iff_ne.2 k2
   have HS := am (show saneN ⟨x0, x1, x2, x3⟩ n = false by unfold saneN; rw [if_neg k1, if_neg k2])
   clear k1 k2
   go_enter Tryz.func38, Tryz.ntmps38
   go_wp2
   go_ret
   exact ⟨by rw [HS.out]; rfl, Qaa (Below.refl _ _) _⟩
end Go.Proofs.YtbhjggbijkjmnaaGreatDoor.PZ
end
