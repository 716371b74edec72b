import Derived.Test.YtllfjmmdackgdaaDoorM36
import Derived.Test.YtllfjmmdackgdaaDoorM35
import Derived.Test.YtllfjmmdackgdaaDoorM37
import Derived.StillTailTactics
import Derived.Test.YtllfjmmdackgdaaDoorM16
import Derived.Test.YtllfjmmdackgdaaDoorM19
import Derived.Test.YtllfjmmdackgdaaDoorM32
import Derived.Test.YtllfjmmdackgdaaDoorM34
set_option linter.unusedVariables false
set_option linter.unusedSimpArgs false
/-! GWeigh -/
section
namespace Go.Proofs.YtllfjmmdackgdaaDoor.PZ
open Go.RowKit Go.Proofs.YtllfjmmdackgdaaDoorW.PrintWords Go.Proofs.YtllfjmmdackgdaaDoorW.PrintLast Go.Proofs.YtllfjmmdackgdaaDoorW.PrintMore Go.Proofs.YtllfjmmdackgdaaDoor.B Go.Proofs.YtllfjmmdackgdaaDoor.Ord TD
set_option maxRecDepth 100000
set_option linter.unusedVariables false
set_option linter.unusedSimpArgs false
/-- A tree, laid. -/
def box1 (w : World) (A0 : Option Addr) (n0 c0 : Nat) : World := w.alloc (.cells #[.slice A0 n0 c0] 42)
set_option maxHeartbeats 2000000 in
theorem weigh_walk (A : Option Addr) (c : Nat) (l : List S58) (most : Int) (w : World) (hr : Kd.C k58 w A l.length l) (hc : l.length ≤ c) (hn : l.length < 1000000000000) (hm : ∀ k, (nd l k).f2.length < 1000000000000 ∧ (nd l k).f3.length < 1000000000000) :
    Calls Tryd.prog 43 #[.agg #[.slice A l.length c], .int .i64 most] w fun e w' => (∃ n, e = .returned (.int .i64 n)) ∧ Below w.heap.size w w' := by
  have HR := Aside0.mk hr
  have HM := Aside0.mk hm
  have hbx : (box1 w A l.length c).cell? ⟨w.heap.size, 0, none⟩ = some (.slice A l.length c) := (blk_cell (blk_new w (.cells #[.slice A l.length c] 42)) 0).trans rfl
  have HB := Aside0.mk (show Below w.heap.size w (box1 w A l.length c) from below_alloc (Below.refl _ _) _)
  clear hr hm
  go_enter Tryd.func43, Tryd.ntmps43
  go_wp2
  go_loopw [5, 6] (fun v5 v6 wr => wr = box1 w A l.length c ∧ ∃ (n : Int) (i : Nat), i ≤ l.length ∧ v5 = .int .i64 n ∧ v6 = .int .i64 i) (fun _ v6 _ => l.length - (intOf v6).toNat)
  case atStart => exact ⟨rfl, 0, 0, Nat.zero_le _, rfl, rfl⟩
  case round =>
    obtain ⟨rfl, n, i, hi, rfl, rfl⟩ := hrel
    by_cases hlt : i < l.length
    · have hii : (i : Int) < (l.length : Int) := by omega
      cases hbn : decide (n ≤ most) with
      | false =>
        go_wp2
        go_ret
        exact ⟨⟨_, rfl⟩, HB.out⟩
      | true =>
        obtain ⟨ad, A2, c2, A3, c3, rfl, hx0, hx1, hx2, hx3, hl2, hC2, hl3, hC3⟩ := at_T58 HR.out (i : Int) (by omega) (by omega)
        rw [Int.toNat_natCast] at hx0 hx1 hx2 hx3
        have hmk := HM.out i
        rw [show nd l i = rd_T58 l (i : Int) from rfl] at hmk
        generalize rd_T58 l (i : Int) = x at hx0 hx1 hx2 hx3 hl2 hC2 hl3 hC3 hmk
        replace hx2 := (HB.out.cell (World.block_lt_of_cell? w _ hx2)).trans hx2
        replace hx3 := (HB.out.cell (World.block_lt_of_cell? w _ hx3)).trans hx3
        have HC3 := Aside0.mk (Kd.C_below hC3 HB.out)
        have HMK := Aside0.mk hmk
        have hq3 := hmk.2
        clear hx0 hx1 hC2 hC3 hl2 hmk
        go_wp2
        go_loopw [5, 7] (fun v5 v7 wq => wq = box1 w (some ad) l.length c ∧ ∃ (m : Int) (k : Nat), k ≤ x.f3.length ∧ v5 = .int .i64 m ∧ v7 = .int .i64 k) (fun _ v7 _ => x.f3.length - (intOf v7).toNat)
        case atStart => exact ⟨rfl, _, 0, Nat.zero_le _, rfl, rfl⟩
        case round =>
          obtain ⟨rfl, m, k, hk, rfl, rfl⟩ := hrel
          by_cases hkt : k < x.f3.length
          · have hkk : (k : Int) < (x.f3.length : Int) := by omega
            cases hbm : decide (m ≤ most) with
            | false =>
              go_wp2
              go_roundw
              case rel => exact ⟨trivial, m, i + 1, by omega, rfl, rfl⟩
              case measure => simp [intOf]; omega
            | true =>
              obtain ⟨ed, rfl, hy0, hy1⟩ := at_T102 HC3.out (k : Int) (by omega) (by omega)
              rw [Int.toNat_natCast] at hy0 hy1
              generalize rd_T102 x.f3 (k : Int) = y at hy0 hy1
              clear hy1
              go_wp2
              go_roundw
              case rel => exact ⟨trivial, _, k + 1, by omega, rfl, rfl⟩
              case measure => simp [intOf]; omega
          · have hke : k = x.f3.length := by omega
            subst hke
            go_wp2
            go_roundw
            case rel => exact ⟨trivial, m, i + 1, by omega, rfl, rfl⟩
            case measure => simp [intOf]; omega
    · have hie : i = l.length := by omega
      subst hie
      go_wp2
      go_ret
      exact ⟨⟨_, rfl⟩, HB.out⟩
end Go.Proofs.YtllfjmmdackgdaaDoor.PZ
end
/-! GMade -/
section
namespace Go.Proofs.YtllfjmmdackgdaaDoor.PZ
open Go.RowKit Go.Proofs.YtllfjmmdackgdaaDoorW.PrintWords Go.Proofs.YtllfjmmdackgdaaDoorW.PrintLast Go.Proofs.YtllfjmmdackgdaaDoorW.PrintMore Go.Proofs.YtllfjmmdackgdaaDoor.B Go.Proofs.YtllfjmmdackgdaaDoor.Ord TD
set_option maxRecDepth 100000
set_option linter.unusedVariables false
set_option linter.unusedSimpArgs false
/-- A tree in a variable. -/
structure Hold (g : Nat) (l : List S58) (A : Option Addr) (c : Nat) (w : World) : Prop where
  blk : w.heap[g]? = some (.cells #[.slice A l.length c] 42 (0, 0))
  cap : l.length ≤ c
  rows : Kd.C k58 w A l.length l
theorem Hold.below {g : Nat} {l : List S58} {A : Option Addr} {c : Nat} {w W : World} (h : Hold g l A c w) (hb : Below w.heap.size w W) : Hold g l A c W := ⟨blk_below h.blk hb, h.cap, Kd.C_below h.rows hb⟩
theorem Hold.cell {g : Nat} {l : List S58} {A : Option Addr} {c : Nat} {w : World} (h : Hold g l A c w) : w.cell? ⟨g, 0, none⟩ = some (.slice A l.length c) := (blk_cell h.blk 0).trans rfl
theorem rt_small {l : List S58} (h : Rt l) : l.length < 1000000000000 ∧ ∀ k, (nd l k).f2.length < 1000000000000 ∧ (nd l k).f3.length < 1000000000000 := by
  have h1 : l.length ≤ 56 := h.pr.le
  have h2 : ∀ k, (nd l k).f3.length ≤ 64 := h.pr.ents
  have h3 : ∀ k, (nd l k).f2.length ≤ 46368 := h.pr.size
  exact ⟨by omega, fun k => ⟨by have := h3 k; omega, by have := h2 k; omega⟩⟩
/-- A store of a tree into a variable. -/
theorem hold_store {g : Nat} {l : List S58} {A B : Option Addr} {n d T : Nat} {w : World} {f : Nat × Nat} (hg : w.heap[g]? = some (.cells #[.slice B n d] T f)) (hr : Kd.C k58 w A l.length l) (v : Value) : Kd.C k58 (w.setCell ⟨g, 0, none⟩ v) A l.length l :=
  C_box hg (fun k hk => Below.heap_setCell w ⟨g, 0, none⟩ v k hk) hr
/-- What made hands back. -/
def MadeQ (w : World) (e : Ending) (w' : World) : Prop := ∃ (l : List S58) (Al : Option Addr) (cl : Nat) (b : Bool), e = .returned (.tuple #[.agg #[.slice Al l.length cl], .bool b]) ∧ Rt l ∧ l.length ≤ cl ∧ Kd.C k58 w' Al l.length l ∧ Below w.heap.size w w'
theorem made_ret {w W : World} {l : List S58} {Al : Option Addr} {cl : Nat} {b : Bool} {tmps : Array Value} (h2 : W.heap[w.heap.size]? = some (.cells #[.slice Al l.length cl] 42 (0, 0))) (hC : Kd.C k58 W Al l.length l) (hc : l.length ≤ cl) (ht : Rt l) (hB : Below w.heap.size w W) (hp : tmps.getD 2 undef = .pointer (some ⟨w.heap.size, 0, none⟩)) (hb : tmps.getD 3 undef = .bool b) :
    bodyPost Tryd.prog Tryd.f27 (fun e w' => MadeQ w e w') .ret { tmps := tmps, defers := [] } W :=
  bodyPost_ret (results_ct rfl _ _ w.heap.size 42 #[.slice Al l.length cl] (0, 0) _ hp h2 Tryd.underlying42 rfl (by kernel_rfl)) rfl ⟨l, Al, cl, b, by rw [hb], ht, hc, hC, hB⟩
set_option maxHeartbeats 4000000 in
theorem made_walk (A : Option Addr) (c : Nat) (ops : List S39) (w : World) (hr : Kd.C k39 w A ops.length ops) (hc : ops.length ≤ c) :
    Calls Tryd.prog 27 #[.slice A ops.length c] w fun e w' => MadeQ w e w' := by
  have HR := Aside0.mk hr
  clear hr
  by_cases hlen : 100 < ops.length
  · have hlb : decide (100 < (ops.length : Int)) = true := decide_eq_true (by omega)
    clear hlen
    go_enter Tryd.func27, Tryd.ntmps27
    go_wp2_with (go_at_call 42; (with_reducible refine (new_walk _).mono ?_); rintro e w1 ⟨v, rfl, hs, hb⟩; obtain ⟨An, cn, hv, hcn, hC⟩ := Kd.S_reads hs; subst hv; have HN := Aside0.mk hC; have HCN := Aside0.mk hcn; have HB := Aside0.mk (below_step (w := w) (below_alloc (Below.refl _ _) _) hb); have HT2 := Aside0.mk (blk_below (blk_new w (.cells #[.slice none 0 0] 42)) hb); have h2c := (blk_cell HT2.out 0).trans (show _ = some (Value.slice none 0 0) from rfl); have h2l := blk_lt HT2.out; have h2f := blk_frozen HT2.out 0; clear hs hb hC hcn)
    refine made_ret (l := al0) (b := false) (blk_alloc (blk_put (cs := #[.slice none 0 0]) HT2.out 0 _ rfl) _) (Kd.C_alloc (hold_store (l := al0) HT2.out HN.out _) _) HCN.out rt_root (below_alloc (HB.out.setCell (p := ⟨w.heap.size, 0, none⟩) (Nat.le_refl _) _) _) ?_ ?_ <;> rfl
  · have hlb : decide (100 < (ops.length : Int)) = false := decide_eq_false (by omega)
    have h100 : ops.length ≤ 100 := by omega
    clear hlen
    go_enter Tryd.func27, Tryd.ntmps27
    go_wp2_with (go_at_call 42; (with_reducible refine (new_walk _).mono ?_); rintro e w1 ⟨v, rfl, hs, hb⟩; obtain ⟨An, cn, hv, hcn, hC⟩ := Kd.S_reads hs; subst hv; have HN := Aside0.mk hC; have HCN := Aside0.mk hcn; have HB := Aside0.mk (below_step (w := w) (below_alloc (Below.refl _ _) _) hb); have HT2 := Aside0.mk (blk_below (blk_new w (.cells #[.slice none 0 0] 42)) hb); have HNE := Aside0.mk (blk_lt HT2.out); clear hs hb hC hcn)
    go_loopw [5] (fun v5 wr => ∃ (k : Nat) (l : List S58) (Al : Option Addr) (cl : Nat), k ≤ ops.length ∧ v5 = .int .i64 k ∧ Aside0 (Rt l) ∧ Aside0 (Hold w1.heap.size l Al cl wr) ∧ Aside0 (wr.heap[w.heap.size]? = some (.cells #[.slice none 0 0] 42 (0, 0))) ∧ Aside0 (Below w.heap.size w wr)) (fun v5 _ => ops.length - (intOf v5).toNat)
    case atStart => exact ⟨0, al0, An, cn, Nat.zero_le _, rfl, ⟨rt_root⟩, ⟨⟨blk_new w1 (.cells #[.slice An 1 cn] 42), HCN.out, Kd.C_alloc HN.out _⟩⟩, ⟨blk_alloc HT2.out _⟩, ⟨below_alloc HB.out _⟩⟩
    case round =>
      obtain ⟨k, l, Al, cl, hk, rfl, HT, HH, H2, HBR⟩ := hrel
      by_cases hlt : k < ops.length
      · obtain ⟨ad, A5, c5, rfl, hx0, hx1, hx2, hx3, hx4, hx5, hl5, hC5⟩ := at_T39 HR.out (k : Int) (by omega) (by omega)
        have hkk : (k : Int) < (ops.length : Int) := by omega
        rw [Int.toNat_natCast] at hx0 hx1 hx2 hx3 hx4 hx5
        generalize rd_T39 ops (k : Int) = o at hx0 hx1 hx2 hx3 hx4 hx5 hl5 hC5
        have HX := Aside0.mk (And.intro hx0 (And.intro hx1 (And.intro hx2 (And.intro hx3 (And.intro hx4 hx5)))))
        have HXL := Aside0.mk (World.block_lt_of_cell? w _ hx0)
        replace hx0 := (HBR.out.cell (World.block_lt_of_cell? w _ hx0)).trans hx0
        replace hx1 := (HBR.out.cell (World.block_lt_of_cell? w _ hx1)).trans hx1
        replace hx2 := (HBR.out.cell (World.block_lt_of_cell? w _ hx2)).trans hx2
        replace hx3 := (HBR.out.cell (World.block_lt_of_cell? w _ hx3)).trans hx3
        replace hx4 := (HBR.out.cell (World.block_lt_of_cell? w _ hx4)).trans hx4
        replace hx5 := (HBR.out.cell (World.block_lt_of_cell? w _ hx5)).trans hx5
        have HC5 := Aside0.mk hC5
        have HL5 := Aside0.mk hl5
        clear hC5 hl5
        have h4 := HH.out.cell
        have h4l := blk_lt HH.out.blk
        have h2c := (blk_cell H2.out 0).trans (show _ = some (Value.slice none 0 0) from rfl)
        have h2l := blk_lt H2.out
        have h2f := blk_frozen H2.out 0
        go_wp2_with (first
          | (go_at_call 28; (with_reducible refine (long_walk o A5 c5 _).mono ?_); rintro e w2 ⟨⟨r, rfl, hr⟩, hb⟩; have HL := Aside0.mk hr; have HB2 := Aside0.mk hb; have HH2 := Aside0.mk (HH.out.below hb); have H22 := Aside0.mk (blk_below H2.out hb); have h42 := HH2.out.cell; have h22c := (blk_cell H22.out 0).trans (show _ = some (Value.slice none 0 0) from rfl); have h22l := blk_lt H22.out; have h22f := blk_frozen H22.out 0; clear hr hb; cases r))
        · replace hx0 := (HB2.out.cell (World.block_lt_of_cell? _ _ hx0)).trans hx0
          replace hx1 := (HB2.out.cell (World.block_lt_of_cell? _ _ hx1)).trans hx1
          replace hx2 := (HB2.out.cell (World.block_lt_of_cell? _ _ hx2)).trans hx2
          replace hx3 := (HB2.out.cell (World.block_lt_of_cell? _ _ hx3)).trans hx3
          replace hx4 := (HB2.out.cell (World.block_lt_of_cell? _ _ hx4)).trans hx4
          replace hx5 := (HB2.out.cell (World.block_lt_of_cell? _ _ hx5)).trans hx5
          clear h4 h4l h2c h2l h2f
          have h42l := blk_lt HH2.out.blk
          have HBW2 := Aside0.mk (below_step HBR.out HB2.out)
          go_region_with (go_at_call 29; (with_reducible refine (do_ok Al cl l o A5 c5 _ (Kd.C_below HH2.out.rows (by repeat (first | exact Below.refl _ _ | with_reducible apply below_drew1))) HH2.out.cap (Kd.C_below HC5.out (by repeat (first | exact HBW2.out | with_reducible apply below_drew1))) HL5.out HT.out (by have := HL.out (by trivial); omega) (by have := HL.out (by trivial); omega)).mono ?_); rintro e w3 ⟨A1, c1, A2, c2, A3, c3, rfl, hc1, hC1, hc2, hC2, hc3, hC3, hb⟩; have HB3 := Aside0.mk (below_step (w := w2) (by repeat (first | exact Below.refl _ _ | with_reducible apply below_drew1)) hb); have HC1 := Aside0.mk (And.intro hc1 hC1); have HH3 := Aside0.mk (HH2.out.below HB3.out); have H23 := Aside0.mk (blk_below H22.out HB3.out); have h43 := HH3.out.cell; have h43l := blk_lt HH3.out.blk; have h43f := blk_frozen HH3.out.blk 0; clear hc1 hC1 hc2 hC2 hc3 hC3 hb)
          all_goals (
            have HT4 := Aside0.mk (do_rt HT.out o)
            have HH4 := Aside0.mk (show Hold w1.heap.size (doF l o).1 A1 c1 (w3.setCell ⟨w1.heap.size, 0, none⟩ (.slice A1 (doF l o).1.length c1)) from ⟨blk_put (cs := #[.slice Al l.length cl]) HH3.out.blk 0 _ rfl, HC1.out.1, hold_store HH3.out.blk HC1.out.2 _⟩)
            have H24 := Aside0.mk (show (w3.setCell ⟨w1.heap.size, 0, none⟩ (.slice A1 (doF l o).1.length c1)).heap[w.heap.size]? = some (.cells #[.slice none 0 0] 42 (0, 0)) from blk_far (p := ⟨w1.heap.size, 0, none⟩) H23.out (Nat.ne_of_lt HNE.out) _)
            have HB4 := Aside0.mk (show Below w.heap.size w (w3.setCell ⟨w1.heap.size, 0, none⟩ (.slice A1 (doF l o).1.length c1)) from (below_step HBW2.out HB3.out).setCell (p := ⟨w1.heap.size, 0, none⟩) (Nat.le_of_lt HNE.out) _)
            clear h43 h43l h43f h42 h42l h22c h22l h22f hx0 hx1 hx2 hx3 hx4 hx5
            generalize w3.setCell ⟨w1.heap.size, 0, none⟩ (.slice A1 (doF l o).1.length c1) = W4 at HH4 H24 HB4 ⊢
            generalize (doF l o).1 = l4 at HT4 HH4 HC1 ⊢
            have h44 := HH4.out.cell
            go_wp2_with (first
              | (go_at_call 43; (with_reducible refine (weigh_walk A1 c1 l4 10000 _ HH4.out.rows HH4.out.cap (rt_small HT4.out).1 (rt_small HT4.out).2).mono ?_); rintro e w5 ⟨⟨n, rfl⟩, hb⟩; have HH5 := Aside0.mk (HH4.out.below hb); have H25 := Aside0.mk (blk_below H24.out hb); have HB5 := Aside0.mk (below_step HB4.out hb); have h45 := HH5.out.cell; have h25c := (blk_cell H25.out 0).trans (show _ = some (Value.slice none 0 0) from rfl); have h25l := blk_lt H25.out; have h25f := blk_frozen H25.out 0; clear hb; cases hn : decide (10000 < n)))
            · go_roundw
              case rel => exact ⟨k + 1, l4, A1, c1, by omega, rfl, HT4, HH5, H25, HB5⟩
              case measure => simp [intOf]; omega
            · refine made_ret (b := false) (blk_put (cs := #[.slice none 0 0]) H25.out 0 _ rfl) (hold_store H25.out HH5.out.rows _) HH5.out.cap HT4.out (HB5.out.setCell (p := ⟨w.heap.size, 0, none⟩) (Nat.le_refl _) _) ?_ ?_ <;> rfl)
        · refine made_ret (b := false) (blk_put (cs := #[.slice none 0 0]) H22.out 0 _ rfl) (hold_store H22.out HH2.out.rows _) HH2.out.cap HT.out ((below_step HBR.out HB2.out).setCell (p := ⟨w.heap.size, 0, none⟩) (Nat.le_refl _) _) ?_ ?_ <;> rfl
      · have hke : k = ops.length := by omega
        subst hke
        have h4 := HH.out.cell
        have h2c := (blk_cell H2.out 0).trans (show _ = some (Value.slice none 0 0) from rfl)
        have h2l := blk_lt H2.out
        have h2f := blk_frozen H2.out 0
        go_wp2
        refine made_ret (b := true) (blk_put (cs := #[.slice none 0 0]) H2.out 0 _ rfl) (hold_store H2.out HH.out.rows _) HH.out.cap HT.out (HBR.out.setCell (p := ⟨w.heap.size, 0, none⟩) (Nat.le_refl _) _) ?_ ?_ <;> rfl
end Go.Proofs.YtllfjmmdackgdaaDoor.PZ
end
/-! GTFind -/
section
namespace Go.Proofs.YtllfjmmdackgdaaDoor.PZ
open Go.RowKit Go.Proofs.YtllfjmmdackgdaaDoorW.PrintWords Go.Proofs.YtllfjmmdackgdaaDoorW.PrintLast Go.Proofs.YtllfjmmdackgdaaDoorW.PrintMore TD
attribute [local go_sem ↓] Go.wp_at_zero Go.wp_at_succ
set_option maxRecDepth 100000
set_option linter.unusedVariables false
set_option linter.unusedSimpArgs false
/-- caught at Find's closure. -/
theorem caughtf_ok (ps : Array Value) (w : World) (Q : World → Prop)
    (hrun : Calls Tryd.prog 54 ps (inner0 w) fun en w' => en = .returned (.tuple #[]) ∧ w'.cell? ⟨w.heap.size, 0, none⟩ = some (.int .i64 0) ∧ w'.frozen? ⟨w.heap.size, 0, none⟩ = false ∧ Q w') :
    Calls Tryd.prog 45 #[.func (.func 54) #[] ps] w fun en w' => en = .returned (.int .i64 0) ∧ ∃ w1, Q w1 ∧ w' = w1.setCell ⟨w.heap.size, 0, none⟩ (.int .i64 0) := by
  have hmf : ∀ (fn : Fn) (first cap : Array Value) (w : World), (Instr.makeFunc fn first cap).run Tryd.prog w = .ok (.func fn first cap) w := fun _ _ _ _ => rfl
  unfold inner0 at hrun
  go_enter_defers Tryd.func45, Tryd.ntmps45
  go_wp2_with (go_at_call 54; refine hrun.mono ?_; rintro e w1 ⟨rfl, hc, hz, hq⟩)
  refine leaves_cons (f := 68) (args := #[.pointer (some ⟨w.heap.size, 0, none⟩)]) (by simp) (by simp [go_sem]) ?_
  refine (catch_idle ⟨w.heap.size, 0, none⟩ _).mono ?_
  rintro e u' w'' ⟨rfl, rfl, rfl⟩
  have hs : (w1.setCell ⟨w.heap.size, 0, none⟩ (.int .i64 0)).cell? ⟨w.heap.size, 0, none⟩ = some (.int .i64 0) := World.cell?_setCell_same _ _ _ hc
  simp [Leaves, settle, results, Tryd.results45, go_sem]
  rw [hs]
  exact ⟨_, rfl, rfl, w1, hq, rfl⟩
theorem caughtf_bad (ps : Array Value) (n : Int) (w : World) (Q : World → Prop)
    (hrun : Calls Tryd.prog 54 ps (inner0 w) fun en w' => en = .panicked (wrong n) ∧ w'.cell? ⟨w.heap.size, 0, none⟩ = some (.int .i64 0) ∧ w'.frozen? ⟨w.heap.size, 0, none⟩ = false ∧ Q w') :
    Calls Tryd.prog 45 #[.func (.func 54) #[] ps] w fun en w' => en = .returned (.int .i64 n) ∧ ∃ w1, Q w1 ∧ w' = w1.setCell ⟨w.heap.size, 0, none⟩ (.int .i64 n) := by
  have hmf : ∀ (fn : Fn) (first cap : Array Value) (w : World), (Instr.makeFunc fn first cap).run Tryd.prog w = .ok (.func fn first cap) w := fun _ _ _ _ => rfl
  unfold inner0 at hrun
  go_enter_defers Tryd.func45, Tryd.ntmps45
  go_wp2_with (go_at_call 54; refine hrun.mono ?_; rintro e w1 ⟨rfl, hc, hz, hq⟩)
  refine leaves_cons (f := 68) (args := #[.pointer (some ⟨w.heap.size, 0, none⟩)]) (by simp) (by simp [go_sem]) ?_
  refine (catch_wrong ⟨w.heap.size, 0, none⟩ 0 n [] _ hc hz).mono ?_
  rintro e u' w'' ⟨rfl, rfl, rfl⟩
  have hs : (w1.setCell ⟨w.heap.size, 0, none⟩ (.int .i64 n)).cell? ⟨w.heap.size, 0, none⟩ = some (.int .i64 n) := World.cell?_setCell_same _ _ _ hc
  simp [Leaves, settle, results, Tryd.results45, go_sem]
  rw [hs]
  exact ⟨_, rfl, rfl, w1, hq, rfl⟩
/-- The closure's world: the worker's pointer, the path, the place. -/
structure FindS (b bw bp bk cap : Nat) (A : Option Addr) (rest : List Value) (l : List S58) (p : ByteArray) (W : World) : Prop where
  wk : Wk W b (.slice A l.length cap) rest
  nodes : Kd.C k58 W A l.length l
  pw : W.heap[bw]? = some (.cells #[.pointer (some ⟨b, 0, none⟩)] 75 (0, 0))
  pp : W.heap[bp]? = some (.cells #[.string p] 9 (0, 0))
  pk : W.heap[bk]? = some (.cells #[.int .i64 0] 3 (0, 0))
theorem FindS.below {b bw bp bk cap : Nat} {A : Option Addr} {rest : List Value} {l : List S58} {p : ByteArray} {W W1 : World} (h : FindS b bw bp bk cap A rest l p W) (hb : Below W.heap.size W W1) : FindS b bw bp bk cap A rest l p W1 :=
  ⟨blk_below h.wk hb, Kd.C_below h.nodes hb, blk_below h.pw hb, blk_below h.pp hb, blk_below h.pk hb⟩
theorem findc_walk (b bw bp bk cap : Nat) (A : Option Addr) (rest : List Value) (l : List S58) (p : ByteArray) (W : World) (h : FindS b bw bp bk cap A rest l p W) (ho : Ok l) (hp : p.size < 10000000) :
    Calls Tryd.prog 54 #[.pointer (some ⟨bw, 0, none⟩), .pointer (some ⟨bp, 0, none⟩), .pointer (some ⟨bk, 0, none⟩)] W fun en w' => match placeF l p with
      | .inl k => en = .returned (.tuple #[]) ∧ ∃ w1, Below W.heap.size W w1 ∧ w' = w1.setCell ⟨bk, 0, none⟩ (.int .i64 k)
      | .inr n => en = .panicked (wrong n) ∧ Below W.heap.size W w' := by
  have H := Aside0.mk h
  have HO := Aside0.mk ho
  have hy1 := (blk_cell h.pw 0).trans (show _ = some (Value.pointer (some ⟨b, 0, none⟩)) from rfl)
  have hy2 := (blk_cell h.pp 0).trans (show _ = some (Value.string p) from rfl)
  clear h ho
  have hlen : (splitA p).1.length < 1000000000 := by have := splitA_length p; omega
  unfold placeF
  by_cases h0 : (splitA p).2 = 0
  · rw [if_pos h0]
    cases hk : wk l (splitA p).1 0 with
    | inl k =>
      dsimp only
      have HK := Aside0.mk hk
      clear hk
      go_enter Tryd.func54, Tryd.ntmps54
      go_wp2
      go_region_with (first
        | (go_at_call 56; (with_reducible refine (names_walk p _ hp).mono ?_); rintro e w1 ⟨h1, hb⟩; rw [if_pos h0] at h1; obtain ⟨An, cn, rfl, hcn, hCn⟩ := h1; have HCN := Aside0.mk hCn; have HB := Aside0.mk (below_step (below_drew1 (Below.refl W.heap.size W)) hb); have H1 := Aside0.mk (H.out.below HB.out); have hz1 := (blk_cell H1.out.pw 0).trans (show _ = some (Value.pointer (some ⟨b, 0, none⟩)) from rfl); clear hCn hb)
        | (go_at_call 55; (with_reducible refine (walk_st b A cap l rest An cn (splitA p).1 k _ H1.out.wk H1.out.nodes HCN.out hcn hlen HO.out HK.out).mono ?_); rintro e w2 ⟨rfl, hb⟩; have HB2 := Aside0.mk (below_step HB.out hb); have H2 := Aside0.mk (H.out.below HB2.out); have hz3 := (blk_cell H2.out.pk 0).trans (show _ = some (Value.int .i64 0) from rfl); have hzf := blk_frozen H2.out.pk 0; clear hb))
      all_goals go_wp2
      all_goals go_end0
      all_goals exact ⟨rfl, _, HB2.out, rfl⟩
    | inr n =>
      dsimp only
      have HK := Aside0.mk hk
      clear hk
      go_enter Tryd.func54, Tryd.ntmps54
      go_wp2
      have hyk := (blk_cell H.out.pk 0).trans (show _ = some (Value.int .i64 0) from rfl)
      go_region_with (first
        | (go_at_call 56; (with_reducible refine (names_walk p _ hp).mono ?_); rintro e w1 ⟨h1, hb⟩; rw [if_pos h0] at h1; obtain ⟨An, cn, rfl, hcn, hCn⟩ := h1; have HCN := Aside0.mk hCn; have HB := Aside0.mk (below_step (below_drew1 (Below.refl W.heap.size W)) hb); have H1 := Aside0.mk (H.out.below HB.out); have hz1 := (blk_cell H1.out.pw 0).trans (show _ = some (Value.pointer (some ⟨b, 0, none⟩)) from rfl); have hz3 := (blk_cell H1.out.pk 0).trans (show _ = some (Value.int .i64 0) from rfl); have hzf := blk_frozen H1.out.pk 0; clear hCn hb)
        | (go_at_call 55; (with_reducible refine calls_dead (v := .int .i64 0) ((walk_out b A cap l rest An cn (splitA p).1 n _ H1.out.wk H1.out.nodes HCN.out hcn hlen HO.out HK.out).mono ?_) ?_); (rintro e w2 ⟨rfl, hb⟩; exact ⟨rfl, rfl, below_step HB.out hb⟩); (intro hF0; have hF := Aside0.mk hF0; clear hF0; dsimp only)))
      all_goals exact hF.out.elim
  · rw [if_neg h0]
    dsimp only
    have hyk := (blk_cell H.out.pk 0).trans (show _ = some (Value.int .i64 0) from rfl)
    have hykf := blk_frozen H.out.pk 0
    go_enter Tryd.func54, Tryd.ntmps54
    go_wp2
    go_region_with (first
      | (go_at_call 56; (with_reducible refine calls_dead (v := .slice none 0 0) ((names_walk p _ hp).mono ?_) ?_); (rintro e w1 ⟨h1, hb⟩; rw [if_neg h0] at h1; subst h1; exact ⟨rfl, rfl, below_step (below_drew1 (Below.refl W.heap.size W)) hb⟩); (intro hF0; have hF := Aside0.mk hF0; clear hF0; dsimp only))
      | (go_at_call 55; (with_reducible refine calls_dead (v := .int .i64 0) hF.out.elim ?_); intro hF1; clear hF1; dsimp only))
    all_goals exact hF.out.elim
theorem new3 (w : World) (a b c : Obj) : (((w.alloc a).alloc b).alloc c).heap[w.heap.size]? = some a ∧ (((w.alloc a).alloc b).alloc c).heap[w.heap.size + 1]? = some b ∧ (((w.alloc a).alloc b).alloc c).heap[w.heap.size + 1 + 1]? = some c := by
  have h1 := blk_new w a
  have h2 := blk_new (w.alloc a) b
  have h3 := blk_new ((w.alloc a).alloc b) c
  rw [World.size_alloc] at h2 h3
  rw [World.size_alloc] at h3
  exact ⟨blk_alloc (blk_alloc h1 _) _, blk_alloc h2 _, h3⟩
/-- The world in which Find's closure is caught. -/
def find0 (w1 : World) (A : Option Addr) (n c : Nat) : World := ((w1.alloc (.cells #[.slice A n c, .int .i64 0, .string ⟨#[]⟩, .string ⟨#[]⟩, .int .i64 0, .int .i64 0, .slice none 0 0, .int .i64 0, .slice none 0 0, .slice none 0 0, .int .i64 0, .int .i64 0, .int .i64 0] 78)).alloc (.cells #[.pointer (some ⟨w1.heap.size, 0, none⟩)] 75)).alloc (.cells #[.int .i64 0] 3)
theorem find0_size (w1 : World) (A : Option Addr) (n c : Nat) : (find0 w1 A n c).heap.size = w1.heap.size + 1 + 1 + 1 := by simp [find0]
theorem find0_s (w1 : World) (A : Option Addr) (c bp : Nat) (l : List S58) (p : ByteArray) (hC : Kd.C k58 w1 A l.length l) (hpp : w1.heap[bp]? = some (.cells #[.string p] 9 (0, 0))) :
    FindS w1.heap.size (w1.heap.size + 1) bp (w1.heap.size + 1 + 1) c A [.int .i64 0, .string ⟨#[]⟩, .string ⟨#[]⟩, .int .i64 0, .int .i64 0, .slice none 0 0, .int .i64 0, .slice none 0 0, .slice none 0 0, .int .i64 0, .int .i64 0, .int .i64 0] l p (inner0 (find0 w1 A l.length c)) ∧
      (inner0 (find0 w1 A l.length c)).heap[w1.heap.size + 1 + 1 + 1]? = some (.cells #[.int .i64 0] 24 (0, 0)) ∧ Below w1.heap.size w1 (inner0 (find0 w1 A l.length c)) := by
  obtain ⟨h1, h2, h3⟩ := new3 w1 (.cells #[.slice A l.length c, .int .i64 0, .string ⟨#[]⟩, .string ⟨#[]⟩, .int .i64 0, .int .i64 0, .slice none 0 0, .int .i64 0, .slice none 0 0, .slice none 0 0, .int .i64 0, .int .i64 0, .int .i64 0] 78) (.cells #[.pointer (some ⟨w1.heap.size, 0, none⟩)] 75) (.cells #[.int .i64 0] 3)
  have hb : Below w1.heap.size w1 (inner0 (find0 w1 A l.length c)) := below_alloc (below_alloc (below_alloc (below_alloc (Below.refl _ _) _) _) _) _
  have he := blk_new (find0 w1 A l.length c) (.cells #[.int .i64 0] 24)
  rw [find0_size] at he
  exact ⟨⟨blk_alloc h1 _, Kd.C_below hC hb, blk_alloc h2 _, blk_below hpp hb, blk_alloc h3 _⟩, he, hb⟩
/-- What the caught closure leaves. -/
def FindQ (w1 : World) (k : Nat) (w' : World) : Prop := ∃ w2, Below w1.heap.size w1 w2 ∧ w2.heap[w1.heap.size + 1 + 1]? = some (.cells #[.int .i64 0] 3 (0, 0)) ∧ w' = w2.setCell ⟨w1.heap.size + 1 + 1, 0, none⟩ (.int .i64 k)
theorem find_run_ok (w1 : World) (A : Option Addr) (c bp k : Nat) (l : List S58) (p : ByteArray) (hC : Kd.C k58 w1 A l.length l) (hpp : w1.heap[bp]? = some (.cells #[.string p] 9 (0, 0))) (ho : Ok l) (hp : p.size < 10000000) (hpf : placeF l p = .inl k) :
    Calls Tryd.prog 54 #[.pointer (some ⟨w1.heap.size + 1, 0, none⟩), .pointer (some ⟨bp, 0, none⟩), .pointer (some ⟨w1.heap.size + 1 + 1, 0, none⟩)] (inner0 (find0 w1 A l.length c)) fun en w' => en = .returned (.tuple #[]) ∧ w'.cell? ⟨(find0 w1 A l.length c).heap.size, 0, none⟩ = some (.int .i64 0) ∧ w'.frozen? ⟨(find0 w1 A l.length c).heap.size, 0, none⟩ = false ∧ FindQ w1 k w' := by
  obtain ⟨hs, he, hb⟩ := find0_s w1 A c bp l p hC hpp
  refine (findc_walk _ _ _ _ _ _ _ l p _ hs ho hp).mono fun en w' h => ?_
  rw [hpf] at h
  obtain ⟨h1, w2, h2, rfl⟩ := h
  rw [find0_size]
  have h3 := blk_far (p := ⟨w1.heap.size + 1 + 1, 0, none⟩) (blk_below he h2) (show w1.heap.size + 1 + 1 + 1 ≠ w1.heap.size + 1 + 1 by omega) (.int .i64 k)
  exact ⟨h1, blk_cell h3 0, blk_frozen h3 0, w2, below_step hb h2, blk_below hs.pk h2, rfl⟩
theorem find_run_bad (w1 : World) (A : Option Addr) (c bp : Nat) (n : Int) (l : List S58) (p : ByteArray) (hC : Kd.C k58 w1 A l.length l) (hpp : w1.heap[bp]? = some (.cells #[.string p] 9 (0, 0))) (ho : Ok l) (hp : p.size < 10000000) (hpf : placeF l p = .inr n) :
    Calls Tryd.prog 54 #[.pointer (some ⟨w1.heap.size + 1, 0, none⟩), .pointer (some ⟨bp, 0, none⟩), .pointer (some ⟨w1.heap.size + 1 + 1, 0, none⟩)] (inner0 (find0 w1 A l.length c)) fun en w' => en = .panicked (wrong n) ∧ w'.cell? ⟨(find0 w1 A l.length c).heap.size, 0, none⟩ = some (.int .i64 0) ∧ w'.frozen? ⟨(find0 w1 A l.length c).heap.size, 0, none⟩ = false ∧ (Below w1.heap.size w1 w' ∧ w'.heap[w1.heap.size + 1 + 1]? = some (.cells #[.int .i64 0] 3 (0, 0))) := by
  obtain ⟨hs, he, hb⟩ := find0_s w1 A c bp l p hC hpp
  refine (findc_walk _ _ _ _ _ _ _ l p _ hs ho hp).mono fun en w' h => ?_
  rw [hpf] at h
  obtain ⟨h1, h2⟩ := h
  rw [find0_size]
  have h3 := blk_below he h2
  exact ⟨h1, blk_cell h3 0, blk_frozen h3 0, below_step hb h2, blk_below hs.pk h2⟩
set_option maxHeartbeats 4000000 in
theorem find_ok (A : Option Addr) (c : Nat) (l : List S58) (p : ByteArray) (w : World) (hr : Kd.C k58 w A l.length l) (hc : l.length ≤ c) (ht : Rt l) (hp : p.size < 10000000) :
    Calls Tryd.prog 32 #[.agg #[.slice A l.length c], .string p] w fun e w' => e = .returned (.tuple #[.int .i64 (findF l p).1, .int .i64 (findF l p).2]) ∧ Below w.heap.size w w' := by
  have HC := Aside0.mk hr
  have HT := Aside0.mk ht
  have hb := (right_iff l).2 ht
  have hl56 : l.length ≤ 56 := ht.pr.le
  have HM : Aside0 (∀ k, (nd l k).f3.length < 1000000000000) := ⟨fun k => by have := ht.pr.ents k; omega⟩
  clear hr ht
  have HPP : Aside0 (((w.alloc (.cells #[.slice A l.length c] 42)).alloc (.cells #[.string p] 9)).heap[w.heap.size + 1]? = some (.cells #[.string p] 9 (0, 0))) := ⟨blk_new2 w _ _⟩
  unfold findF
  cases hpf : placeF l p with
  | inl k =>
    dsimp only
    have HPF := Aside0.mk hpf
    clear hpf
    go_enter Tryd.func32, Tryd.ntmps32
    go_wp2_with (first
      | (go_at_call 30; (with_reducible refine (right_walk A c l _ hc (Kd.C_below HC.out (by repeat (first | with_reducible exact Below.refl _ _ | with_reducible apply below_drew1 | with_reducible apply below_alloc))) (by omega) HM.out).mono ?_); rintro e w1 ⟨rfl, hb1⟩; rw [hb]; have HBW := Aside0.mk (below_step (below_alloc (below_alloc (Below.refl w.heap.size w) _) _) hb1); have HP1 := Aside0.mk (blk_below HPP.out hb1); obtain ⟨hbc, hbf⟩ := bcell hb1; have hsz := hb1.size; (try simp at hsz); clear hb1)
      | (go_at_call 45; (with_reducible refine (caughtf_ok _ _ (FindQ w1 k) ?hrun).mono ?_); (case hrun => exact find_run_ok w1 A c _ k l p (Kd.C_below HC.out HBW.out) HP1.out HT.out.ok hp HPF.out); rintro e w5 ⟨rfl, w4, ⟨w2, hb2, hk2, h4⟩, h5⟩; subst h4; have HB2 := Aside0.mk hb2; have hk3 := (blk_cell (blk_put hk2 0 (.int .i64 k) rfl) 0).trans (show _ = some (Value.int .i64 k) from rfl); have hk5 : w5.cell? ⟨w1.heap.size + 1 + 1, 0, none⟩ = some (.int .i64 k) := (h5 ▸ (cell_far (p := ⟨(find0 w1 A l.length c).heap.size, 0, none⟩) (a := ⟨w1.heap.size + 1 + 1, 0, none⟩) (by show w1.heap.size + 1 + 1 ≠ (find0 w1 A l.length c).heap.size; rw [find0_size]; omega) _).trans hk3); have HB5 := Aside0.mk (show Below w.heap.size w w5 from h5 ▸ ((below_step HBW.out hb2).setCell (p := ⟨w1.heap.size + 1 + 1, 0, none⟩) (by show w.heap.size ≤ w1.heap.size + 1 + 1; omega) _).setCell (p := ⟨(find0 w1 A l.length c).heap.size, 0, none⟩) (by show w.heap.size ≤ (find0 w1 A l.length c).heap.size; rw [find0_size]; omega) _); clear hb2 hk2 h5 hk3))
    go_ret2
    exact ⟨rfl, HB5.out⟩
  | inr n =>
    dsimp only
    have HPF := Aside0.mk hpf
    clear hpf
    go_enter Tryd.func32, Tryd.ntmps32
    go_wp2_with (first
      | (go_at_call 30; (with_reducible refine (right_walk A c l _ hc (Kd.C_below HC.out (by repeat (first | with_reducible exact Below.refl _ _ | with_reducible apply below_drew1 | with_reducible apply below_alloc))) (by omega) HM.out).mono ?_); rintro e w1 ⟨rfl, hb1⟩; rw [hb]; have HBW := Aside0.mk (below_step (below_alloc (below_alloc (Below.refl w.heap.size w) _) _) hb1); have HP1 := Aside0.mk (blk_below HPP.out hb1); obtain ⟨hbc, hbf⟩ := bcell hb1; have hsz := hb1.size; (try simp at hsz); clear hb1)
      | (go_at_call 45; (with_reducible refine (caughtf_bad _ n _ (fun w' => Below w1.heap.size w1 w' ∧ w'.heap[w1.heap.size + 1 + 1]? = some (.cells #[.int .i64 0] 3 (0, 0))) ?hrun2).mono ?_); (case hrun2 => exact find_run_bad w1 A c _ n l p (Kd.C_below HC.out HBW.out) HP1.out HT.out.ok hp HPF.out); rintro e w5 ⟨rfl, w4, ⟨hb2, hk2⟩, h5⟩; have hk3 := (blk_cell hk2 0).trans (show _ = some (Value.int .i64 0) from rfl); have hk5 : w5.cell? ⟨w1.heap.size + 1 + 1, 0, none⟩ = some (.int .i64 0) := (h5 ▸ (cell_far (p := ⟨(find0 w1 A l.length c).heap.size, 0, none⟩) (a := ⟨w1.heap.size + 1 + 1, 0, none⟩) (by show w1.heap.size + 1 + 1 ≠ (find0 w1 A l.length c).heap.size; rw [find0_size]; omega) _).trans hk3); have HB5 := Aside0.mk (show Below w.heap.size w w5 from h5 ▸ (below_step HBW.out hb2).setCell (p := ⟨(find0 w1 A l.length c).heap.size, 0, none⟩) (by show w.heap.size ≤ (find0 w1 A l.length c).heap.size; rw [find0_size]; omega) _); clear hb2 hk2 h5 hk3))
    go_ret2
    exact ⟨rfl, HB5.out⟩
end Go.Proofs.YtllfjmmdackgdaaDoor.PZ
end
/-! GLaw -/
section
namespace Go.Proofs.YtllfjmmdackgdaaDoor.PZ
open Go.RowKit Go.Proofs.YtllfjmmdackgdaaDoorW.PrintWords Go.Proofs.YtllfjmmdackgdaaDoorW.PrintLast Go.Proofs.YtllfjmmdackgdaaDoorW.PrintMore Go.Proofs.YtllfjmmdackgdaaDoor.B Go.Proofs.YtllfjmmdackgdaaDoor.Ord TD
set_option maxRecDepth 100000
set_option linter.unusedVariables false
set_option linter.unusedSimpArgs false
/-- An answer in a variable. -/
structure HoldR (g : Nat) (r : S47) (A1 : Option Addr) (c1 : Nat) (A2 : Option Addr) (c2 : Nat) (w : World) : Prop where
  blk : w.heap[g]? = some (.cells #[.int .i64 r.f0, .slice A1 r.f1.length c1, .slice A2 r.f2.length c2, .int .i64 r.f3, .int .i64 r.f4, .int .i64 r.f5] 47 (0, 0))
  cap1 : r.f1.length ≤ c1
  rows1 : Kd.C (Kd.int .u8) w A1 r.f1.length r.f1
  cap2 : r.f2.length ≤ c2
  rows2 : Kd.C Kd.string w A2 r.f2.length r.f2
section
variable {g : Nat} {r : S47} {A1 : Option Addr} {c1 : Nat} {A2 : Option Addr} {c2 : Nat} {w W : World}
theorem HoldR.below (h : HoldR g r A1 c1 A2 c2 w) (hb : Below w.heap.size w W) : HoldR g r A1 c1 A2 c2 W := ⟨blk_below h.blk hb, h.cap1, Kd.C_below h.rows1 hb, h.cap2, Kd.C_below h.rows2 hb⟩
theorem HoldR.cells (h : HoldR g r A1 c1 A2 c2 w) : w.cell? ⟨g, 0, none⟩ = some (.int .i64 r.f0) ∧ w.cell? ⟨g, 1, none⟩ = some (.slice A1 r.f1.length c1) ∧ w.cell? ⟨g, 2, none⟩ = some (.slice A2 r.f2.length c2) ∧ w.cell? ⟨g, 3, none⟩ = some (.int .i64 r.f3) ∧ w.cell? ⟨g, 4, none⟩ = some (.int .i64 r.f4) ∧ w.cell? ⟨g, 5, none⟩ = some (.int .i64 r.f5) ∧ g < w.heap.size :=
  ⟨(blk_cell h.blk 0).trans rfl, (blk_cell h.blk 1).trans rfl, (blk_cell h.blk 2).trans rfl, (blk_cell h.blk 3).trans rfl, (blk_cell h.blk 4).trans rfl, (blk_cell h.blk 5).trans rfl, blk_lt h.blk⟩
end
theorem Hold.cells {g : Nat} {l : List S58} {A : Option Addr} {c : Nat} {w : World} (h : Hold g l A c w) : w.cell? ⟨g, 0, none⟩ = some (.slice A l.length c) ∧ g < w.heap.size := ⟨h.cell, blk_lt h.blk⟩
/-- What Do hands back, not yet in variables. -/
structure Hand (l : List S58) (r : S47) (A1 : Option Addr) (c1 : Nat) (A2 : Option Addr) (c2 : Nat) (A3 : Option Addr) (c3 : Nat) (w : World) : Prop where
  cap : l.length ≤ c1
  rows : Kd.C k58 w A1 l.length l
  cap1 : r.f1.length ≤ c2
  rows1 : Kd.C (Kd.int .u8) w A2 r.f1.length r.f1
  cap2 : r.f2.length ≤ c3
  rows2 : Kd.C Kd.string w A3 r.f2.length r.f2
def treeO (A : Option Addr) (n c : Nat) : Obj := .cells #[.slice A n c] 42
def resO (r : S47) (A1 : Option Addr) (c1 : Nat) (A2 : Option Addr) (c2 : Nat) : Obj := .cells #[.int .i64 r.f0, .slice A1 r.f1.length c1, .slice A2 r.f2.length c2, .int .i64 r.f3, .int .i64 r.f4, .int .i64 r.f5] 47
section
variable {l : List S58} {r : S47} {A1 : Option Addr} {c1 : Nat} {A2 : Option Addr} {c2 : Nat} {A3 : Option Addr} {c3 : Nat} {w W W2 : World}
/-- Laid in two new variables. -/
theorem Hand.laid (h : Hand l r A1 c1 A2 c2 A3 c3 w) (hb : Below ((w.alloc (treeO A1 l.length c1)).alloc (resO r A2 c2 A3 c3)).heap.size ((w.alloc (treeO A1 l.length c1)).alloc (resO r A2 c2 A3 c3)) W) : Hold w.heap.size l A1 c1 W ∧ HoldR (w.heap.size + 1) r A2 c2 A3 c3 W :=
  have hw : Below w.heap.size w W := below_step (below_alloc (below_alloc (Below.refl _ _) _) _) hb
  ⟨⟨blk_below (blk_alloc (blk_new w _) _) hb, h.cap, Kd.C_below h.rows hw⟩, ⟨blk_below (box_new2 w _ _) hb, h.cap1, Kd.C_below h.rows1 hw, h.cap2, Kd.C_below h.rows2 hw⟩⟩
end
/-- What the call of Do leaves. -/
def DoneQ (w : World) (r : List S58 × S47) (e : Ending) (w' : World) : Prop :=
  ∃ A1 c1 A2 c2 A3 c3, e = .returned (.tuple #[.agg #[.slice A1 r.1.length c1], .agg #[.int .i64 r.2.f0, .slice A2 r.2.f1.length c2, .slice A3 r.2.f2.length c3, .int .i64 r.2.f3, .int .i64 r.2.f4, .int .i64 r.2.f5]]) ∧ Hand r.1 r.2 A1 c1 A2 c2 A3 c3 w' ∧ Below w.heap.size w w'
theorem do_call (A : Option Addr) (ln c : Nat) (l : List S58) (hln : ln = l.length) (f0 : Int) (p q : ByteArray) (a n : Int) (Ad : Option Addr) (dn cd : Nat) (d : List Int) (hdn : dn = d.length) (w : World) (hr : Kd.C k58 w A l.length l) (hc : l.length ≤ c) (hrd : Kd.C (Kd.int .u8) w Ad d.length d) (hcd : d.length ≤ cd) (ht : Rt l) (hp : p.size ≤ 10000) (hq : q.size ≤ 10000) :
    Calls Tryd.prog 29 #[.agg #[.slice A ln c], .agg #[.int .i64 f0, .string p, .string q, .int .i64 a, .int .i64 n, .slice Ad dn cd]] w fun e w' => DoneQ w (doF l ⟨f0, p, q, a, n, d⟩) e w' := by
  subst hln
  subst hdn
  refine (do_ok A c l ⟨f0, p, q, a, n, d⟩ Ad cd w hr hc hrd hcd ht (by show p.size < 10000000; omega) (by show q.size < 10000000; omega)).mono ?_
  rintro e w' ⟨A1, c1, A2, c2, A3, c3, h, h1, h2, h3, h4, h5, h6, h7⟩
  exact ⟨A1, c1, A2, c2, A3, c3, h, ⟨h1, h2, h3, h4, h5, h6⟩, h7⟩
/-- An operation without data. -/
theorem do_call0 (A : Option Addr) (ln c : Nat) (l : List S58) (hln : ln = l.length) (f0 : Int) (p q : ByteArray) (a n : Int) (w : World) (hr : Kd.C k58 w A l.length l) (hc : l.length ≤ c) (ht : Rt l) (hp : p.size ≤ 10000) (hq : q.size ≤ 10000) :
    Calls Tryd.prog 29 #[.agg #[.slice A ln c], .agg #[.int .i64 f0, .string p, .string q, .int .i64 a, .int .i64 n, .slice none 0 0]] w fun e w' => DoneQ w (doF l ⟨f0, p, q, a, n, []⟩) e w' :=
  do_call A ln c l hln f0 p q a n none 0 0 [] rfl w hr hc (Kd.C_nil _ _) (Nat.le_refl _) ht hp hq
end Go.Proofs.YtllfjmmdackgdaaDoor.PZ
end
