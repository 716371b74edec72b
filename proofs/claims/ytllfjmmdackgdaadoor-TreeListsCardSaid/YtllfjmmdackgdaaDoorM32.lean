import Derived.Test.YtllfjmmdackgdaaDoorM31
import Derived.Test.YtllfjmmdackgdaaDoorM28
import Derived.BigQuiet
import Derived.Deep.QuietTactic
set_option linter.unusedVariables false
set_option linter.unusedSimpArgs false
/-! GTreeRight -/
section
namespace Go.Proofs.YtllfjmmdackgdaaDoor.PZ
open Go.RowKit Go.Proofs.YtllfjmmdackgdaaDoorW.PrintWords Go.Proofs.YtllfjmmdackgdaaDoorW.PrintLast Go.Proofs.YtllfjmmdackgdaaDoorW.PrintMore Go.Proofs.YtllfjmmdackgdaaDoor.B TD
set_option maxRecDepth 100000
set_option linter.unusedVariables false
set_option linter.unusedSimpArgs false
theorem met_walk (A : Option Addr) (cap : Nat) (l : List S58) (w : World) (hcap : l.length ≤ cap) (hc : Kd.C k58 w A l.length l) (hw : Wf l) (h56 : l.length ≤ 56) (h64 : ∀ k, (nd l k).f3.length ≤ 64) :
    Calls Tryd.prog 51 #[.agg #[.slice A l.length cap]] w fun e W' => ∃ v, e = .returned v ∧ W'.ownsRow w.heap.size 3 1 v (mt l).length (vals (mt l)) ∧ Below w.heap.size w W' :=
  (callsIn_wide (n := 3)).1 (met_in Fence.wide 3 trivial trivial trivial rfl (by omega) A cap l w hcap hc hw h56 h64)
/-- The first node that is not sane. -/
def insFrom (l : List S58) (k : Nat) : Int :=
  if k < l.length then (if saneN (nd l k) l.length = true then insFrom l (k + 1) else (k : Int)) else -1
termination_by l.length - k
decreasing_by omega
theorem ins_all (l : List S58) : ∀ (d k : Nat), l.length - k = d → (insFrom l k < 0 ↔ ∀ j, k ≤ j → j < l.length → saneN (nd l j) l.length = true) := by
  intro d
  induction d with
  | zero =>
    intro k hd
    rw [insFrom, if_neg (by omega)]
    exact ⟨fun _ j _ _ => by omega, fun _ => by omega⟩
  | succ d ih =>
    intro k hd
    have hkl : k < l.length := by omega
    rw [insFrom, if_pos hkl]
    by_cases h : saneN (nd l k) l.length = true
    · rw [if_pos h, ih (k + 1) (by omega)]
      constructor
      · intro h2 j hj hl
        by_cases e : j = k
        · rw [e]; exact h
        · exact h2 j (by omega) hl
      · exact fun h2 j hj hl => h2 j (by omega) hl
    · rw [if_neg h]
      constructor
      · intro h2; omega
      · intro h2; exact absurd (h2 k (Nat.le_refl _) hkl) h
theorem insane_walk (x : S58) (n : Nat) (A2 : Option Addr) (c2 : Nat) (A3 : Option Addr) (c3 : Nat) (B : Addr) (w : World) (hn : n < 1000000000000) (hl : x.f3.length < 1000000000000) (hB : w.cell? B = some (.int .i64 n))
    (hr2 : Kd.C (Kd.int .u8) w A2 x.f2.length x.f2) (hc2 : x.f2.length ≤ c2) (hr3 : Kd.C k102 w A3 x.f3.length x.f3) (hc3 : x.f3.length ≤ c3) :
    Calls Tryd.prog 49 #[.agg #[.int .i64 x.f0, .int .i64 x.f1, .slice A2 x.f2.length c2, .slice A3 x.f3.length c3], .pointer (some B)] w fun e w' => e = .returned (.bool (!saneN x n)) ∧ Below w.heap.size w w' := by
  have HR2 := Aside0.mk hr2
  have HR3 := Aside0.mk hr3
  have hBl := World.block_lt_of_cell? w _ hB
  clear hr2 hr3
  go_enter Tryd.func49, Tryd.ntmps49
  go_wp2_with (go_at_call 50; refine (sane_walk x n A2 c2 A3 c3 _ hn hl (Kd.C_below HR3.out (below_alloc (Below.refl _ _) _)) hc3).mono ?_; rintro e w' ⟨rfl, hb⟩; have HB := Aside0.mk hb; clear hb)
  go_ret
  exact ⟨rfl, below_step (below_alloc (Below.refl _ _) _) HB.out⟩
set_option maxHeartbeats 1000000 in
theorem insidx_walk (A0 : Option Addr) (c0 : Nat) (l : List S58) (B : Addr) (w : World) (hr0 : Kd.C k58 w A0 l.length l) (hc0 : l.length ≤ c0) (hn : l.length < 1000000000000) (hm : ∀ k, (nd l k).f3.length < 1000000000000) (hB : w.cell? B = some (.int .i64 l.length)) :
    Calls Tryd.prog 79 #[.slice A0 l.length c0, .func (.func 49) #[] #[.pointer (some B)]] w fun e w' => e = .returned (.int .i64 (insFrom l 0)) ∧ Below w.heap.size w w' := by
  have HR0 := Aside0.mk hr0
  have HM := Aside0.mk hm
  have HBC := Aside0.mk hB
  clear hr0 hm hB
  go_enter Tryd.func79, Tryd.ntmps79
  go_wp2
  go_loopw [5, 8] (fun v5 v8 wr => ∃ k : Nat, k ≤ l.length ∧ v8 = .int .i64 k ∧ Aside0 (insFrom l k = insFrom l 0) ∧ Aside0 (Below w.heap.size w wr)) (fun v5 v8 _ => l.length - (intOf v8).toNat)
  case atStart => exact ⟨0, Nat.zero_le _, rfl, ⟨rfl⟩, ⟨Below.refl _ _⟩⟩
  case round =>
    obtain ⟨k, hk, rfl, HE, HB⟩ := hrel
    by_cases hlt : k < l.length
    · obtain ⟨ad, A2, c2, A3, c3, e, hx0, hx1, hx2, hx3, hl2, hC2, hl3, hC3⟩ := at_T58 HR0.out (k : Int) (by omega) (by omega)
      subst e
      rw [Int.toNat_natCast] at hx0 hx1 hx2 hx3
      have hq := HM.out k
      have hxk : rd_T58 l (k : Int) = nd l k := rfl
      rw [hxk] at hx0 hx1 hx2 hx3 hl2 hC2 hl3 hC3
      clear hxk
      generalize hX : nd l k = x at hx0 hx1 hx2 hx3 hl2 hC2 hl3 hC3 hq
      replace hx0 := (HB.out.cell (World.block_lt_of_cell? w _ hx0)).trans hx0
      replace hx1 := (HB.out.cell (World.block_lt_of_cell? w _ hx1)).trans hx1
      replace hx2 := (HB.out.cell (World.block_lt_of_cell? w _ hx2)).trans hx2
      replace hx3 := (HB.out.cell (World.block_lt_of_cell? w _ hx3)).trans hx3
      have hBr := (HB.out.cell (World.block_lt_of_cell? w _ HBC.out)).trans HBC.out
      have HC2 := Aside0.mk (Kd.C_below hC2 HB.out)
      have HC3 := Aside0.mk (Kd.C_below hC3 HB.out)
      have HL2 := Aside0.mk hl2
      have HL3 := Aside0.mk hl3
      have HBR := Aside0.mk hBr
      have HQ2 := Aside0.mk hq
      clear hC2 hC3 hl2 hl3 hBr hq
      by_cases hp : saneN x l.length = true
      · have HE2 := Aside0.mk (HE.out.symm.trans (by rw [insFrom, if_pos hlt, hX, if_pos hp] : insFrom l k = insFrom l (k + 1)))
        have hp2 : (!saneN x l.length) = false := by rw [hp]; rfl
        clear hX
        go_wp2_with (go_at_call 49; refine (insane_walk x l.length A2 c2 A3 c3 B _ hn HQ2.out HBR.out HC2.out HL2.out HC3.out HL3.out).mono ?_; rintro e w' ⟨rfl, hb⟩; have HB2 := Aside0.mk hb; clear hb)
        go_roundw
        case rel => exact ⟨k + 1, by omega, rfl, ⟨HE2.out.symm⟩, ⟨below_step HB.out HB2.out⟩⟩
        case measure => simp [intOf]; omega
      · replace hp : saneN x l.length = false := by simpa using hp
        have HQ := Aside0.mk (HE.out.symm.trans (by rw [insFrom, if_pos hlt, hX, if_neg (by rw [hp]; decide)] : insFrom l k = (k : Int)))
        have hp2 : (!saneN x l.length) = true := by rw [hp]; rfl
        clear hX
        go_wp2_with (go_at_call 49; refine (insane_walk x l.length A2 c2 A3 c3 B _ hn HQ2.out HBR.out HC2.out HL2.out HC3.out HL3.out).mono ?_; rintro e w' ⟨rfl, hb⟩; have HB2 := Aside0.mk hb; clear hb)
        go_ret
        exact ⟨by rw [HQ.out]; rfl, below_step HB.out HB2.out⟩
    · have hkl : k = l.length := by omega
      subst hkl
      have HQ := Aside0.mk (HE.out.symm.trans (by rw [insFrom, if_neg (by omega)] : insFrom l l.length = (-1 : Int)))
      go_wp2
      go_ret
      exact ⟨by rw [HQ.out]; rfl, HB.out⟩
theorem inscon_walk (A0 : Option Addr) (c0 : Nat) (l : List S58) (B : Addr) (w : World) (hr0 : Kd.C k58 w A0 l.length l) (hc0 : l.length ≤ c0) (hn : l.length < 1000000000000) (hm : ∀ k, (nd l k).f3.length < 1000000000000) (hB : w.cell? B = some (.int .i64 l.length)) :
    Calls Tryd.prog 48 #[.slice A0 l.length c0, .func (.func 49) #[] #[.pointer (some B)]] w fun e w' => e = .returned (.bool (!l.all (fun x => saneN x l.length))) ∧ Below w.heap.size w w' := by
  have hq : (!l.all (fun x => saneN x l.length)) = decide (insFrom l 0 ≥ 0) := by
    have h := ins_all l l.length 0 (by omega)
    rw [Bool.eq_iff_iff, Bool.not_eq_true', decide_eq_true_eq]
    constructor
    · intro h2
      rcases Classical.em (insFrom l 0 ≥ 0) with h3 | h3
      · exact h3
      · have := (all_nd (p := fun x => saneN x l.length)).2 (fun j hj => h.1 (by omega) j (Nat.zero_le _) hj)
        rw [this] at h2; cases h2
    · intro h2
      cases h3 : l.all (fun x => saneN x l.length) with
      | false => rfl
      | true =>
        have := h.2 (fun j _ hj => (all_nd (p := fun x => saneN x l.length)).1 h3 j hj)
        omega
  rw [hq]
  have HR0 := Aside0.mk hr0
  have HM := Aside0.mk hm
  have HBC := Aside0.mk hB
  clear hr0 hm hB hq
  go_enter Tryd.func48, Tryd.ntmps48
  go_wp2_with (go_at_call 79; refine (insidx_walk _ _ l B _ HR0.out hc0 hn HM.out HBC.out).mono ?_; rintro e w' ⟨rfl, hb⟩; have HB := Aside0.mk hb; clear hb)
  go_ret
  exact ⟨rfl, HB.out⟩
theorem all_bad {l : List S58} {k : Nat} (hk : k < l.length) (h : okAt l k = false) : (List.range l.length).all (okAt l) = false := by
  cases h2 : (List.range l.length).all (okAt l) with
  | false => rfl
  | true =>
    have := List.all_eq_true.1 h2 k (List.mem_range.2 hk)
    rw [h] at this
    cases this
theorem rd0 (l : List S58) : rd_T58 l 0 = nd l 0 := rfl
set_option maxHeartbeats 4000000 in
theorem right_walk (A : Option Addr) (cap : Nat) (l : List S58) (w : World) (hcap : l.length ≤ cap) (hc : Kd.C k58 w A l.length l) (hn : l.length < 1000000000000) (hm : ∀ k, (nd l k).f3.length < 1000000000000) :
    Calls Tryd.prog 30 #[.agg #[.slice A l.length cap]] w fun e w' => e = .returned (.bool (rightB l)) ∧ Below w.heap.size w w' := by
  have HC := Aside0.mk hc
  have HM := Aside0.mk hm
  clear hc hm
  by_cases h1 : 1 ≤ l.length
  · by_cases h2 : l.length ≤ 56
    · obtain ⟨ad, A2, c2, A3, c3, e, hx0, -, -, -, -, -, -, -⟩ := at_T58 HC.out 0 (by omega) (by omega)
      subst e
      rw [rd0] at hx0
      have hx00 : w.cell? ad = some (.int .i64 (nd l 0).f0) := by simpa [Addr.add] using hx0
      have hxl := World.block_lt_of_cell? w _ hx00
      clear hx0
      have hd1 : decide ((l.length : Int) < 1) = false := decide_eq_false (by omega)
      have hd2 : decide (56 < (l.length : Int)) = false := decide_eq_false (by omega)
      by_cases h3 : (nd l 0).f0 = 2
      · cases h4 : l.all (fun x => saneN x l.length) with
        | false =>
          have e : rightB l = false := by unfold rightB; rw [h4]; simp
          rw [e]
          have h4b : (!l.all (fun x => saneN x l.length)) = true := by rw [h4]; rfl
          have HN := Aside0.mk h4b
          rw [h3] at hx00
          clear e h4 h4b
          go_enter Tryd.func30, Tryd.ntmps30
          go_wp2_with (go_at_call 48; refine (inscon_walk _ _ l _ _ (Kd.C_below HC.out (below_alloc (below_alloc (Below.refl _ _) _) _)) hcap hn HM.out (by go_simp)).mono ?_; rw [HN.out]; rintro e w' ⟨rfl, hb⟩; have HB := Aside0.mk hb; clear hb)
          go_ret
          exact ⟨rfl, below_step (below_alloc (below_alloc (Below.refl _ _) _) _) HB.out⟩
        | true =>
          have hs := sn_of h1 h2 h3 h4
          have HS := Aside0.mk hs
          have h4b : (!l.all (fun x => saneN x l.length)) = false := by rw [h4]; rfl
          have HN := Aside0.mk h4b
          obtain ⟨kl, hkl⟩ := (links_ev hs.wf h2 hs.ents).rounds
          have HKL := Aside0.mk hkl
          rw [h3] at hx00
          have hr : rightB l = (List.range l.length).all (okAt l) := by
            unfold rightB; rw [h4]; simp [h1, h2, h3]
          rw [hr]
          clear hr h4 h4b hs hkl
          go_enter Tryd.func30, Tryd.ntmps30
          go_wp2_with (first
            | (go_at_call 48; refine (inscon_walk _ _ l _ _ (Kd.C_below HC.out (below_alloc (below_alloc (Below.refl _ _) _) _)) hcap hn HM.out (by go_simp)).mono ?_; rw [HN.out]; rintro e w1 ⟨rfl, hb⟩; have HB1 := Aside0.mk (below_step (below_alloc (below_alloc (Below.refl _ _) _) _) hb); have ht1 : w1.cell? ⟨w.heap.size, 0, none⟩ = some (.slice (some ad) l.length cap) := (hb.cell (by simp; omega)).trans (by go_simp); have hn1 : w1.cell? ⟨w.heap.size + 1, 0, none⟩ = some (.int .i64 (l.length : Int)) := (hb.cell (by simp)).trans (by go_simp); clear hb)
            | (go_at_call 51; refine (met_walk _ _ l _ hcap (Kd.C_below HC.out HB1.out) HS.out.wf h2 HS.out.ents).mono ?_; rintro e w2 ⟨vo, rfl, ho, hb⟩; have HO := Aside0.mk ho; have HB2 := Aside0.mk (below_step HB1.out hb); have ht2 := (hb.cell (World.block_lt_of_cell? _ _ ht1)).trans ht1; have hn2 := (hb.cell (World.block_lt_of_cell? _ _ hn1)).trans hn1; have HBL := Aside0.mk hb; clear ho hb)
            | (go_at_call 52; refine (tree_links.calls kl _ _ l _ _ _ (Kd.C_below HC.out HB2.out) hcap HKL.out).mono ?_; rintro e w3 ⟨v0, v1, rfl, hr0, hr1, hb⟩; have HR0 := Aside0.mk hr0; have HR1 := Aside0.mk hr1; have HB3 := Aside0.mk (below_step HB2.out hb); have ht3 := (hb.cell (World.block_lt_of_cell? _ _ ht2)).trans ht2; have hn3 := (hb.cell (World.block_lt_of_cell? _ _ hn2)).trans hn2; have HO3 := Aside0.mk (pw_own_below HO.out hb); clear hr0 hr1 hb))
          obtain ⟨Ao, co, rfl⟩ := own_slice HO3.out
          obtain ⟨A0, c0, rfl, -, hC0⟩ := Kd.R_reads HR0.out
          obtain ⟨A1, c1, rfl, -, hC1⟩ := Kd.R_reads HR1.out
          rw [tabl_len] at hC0 hC1
          have HC0 := Aside0.mk hC0
          have HC1 := Aside0.mk hC1
          have HT3 := Aside0.mk ht3
          have HN3 := Aside0.mk hn3
          clear hC0 hC1 ht1 ht2 ht3 hn1 hn2 hn3
          simp only [tabl_len]
          go_loopw [42] (fun v42 wr => ∃ k : Nat, k ≤ l.length ∧ v42 = .int .i64 k ∧ Aside0 (∀ j, j < k → okAt l j = true) ∧ Aside0 (Below w3.heap.size w3 wr)) (fun v42 _ => l.length - (intOf v42).toNat)
          case atStart => exact ⟨0, Nat.zero_le _, rfl, ⟨fun j hj => by omega⟩, ⟨Below.refl _ _⟩⟩
          case round =>
            obtain ⟨k, hk, rfl, HE, HB⟩ := hrel
            by_cases hlt : k < l.length
            · obtain ⟨ad2, B2, d2, B3, d3, e, hx0, hx1, hx2, hx3, -, -, -, -⟩ := at_T58 HC.out (k : Int) (by omega) (by omega)
              cases e
              rw [Int.toNat_natCast] at hx0 hx1 hx2 hx3
              have hrd : rd_T58 l (k : Int) = nd l k := rfl
              rw [hrd] at hx0 hx1 hx2 hx3
              have hB4 := below_step HB3.out HB.out
              replace hx0 := (hB4.cell (World.block_lt_of_cell? w _ hx0)).trans hx0
              replace hx1 := (hB4.cell (World.block_lt_of_cell? w _ hx1)).trans hx1
              replace hx2 := (hB4.cell (World.block_lt_of_cell? w _ hx2)).trans hx2
              replace hx3 := (hB4.cell (World.block_lt_of_cell? w _ hx3)).trans hx3
              have hn4 := (HB.out.cell (World.block_lt_of_cell? _ _ HN3.out)).trans HN3.out
              have HB4 := Aside0.mk hB4
              clear hB4 hrd
              have hwr : w.heap.size + 1 < wr.heap.size := World.block_lt_of_cell? _ _ hn4
              obtain ⟨wq, hwq⟩ : ∃ wq, wr.alloc (.cells #[.int .i64 (nd l k).f0, .int .i64 (nd l k).f1, .slice B2 (nd l k).f2.length d2, .slice B3 (nd l k).f3.length d3] 58) = wq := ⟨_, rfl⟩
              have hbq : Below wr.heap.size wr wq := by rw [← hwq]; exact below_alloc (Below.refl _ _) _
              have hB5 := Aside0.mk (below_step HB.out hbq)
              have hn5 := (hbq.cell (World.block_lt_of_cell? _ _ hn4)).trans hn4
              have h80 : wq.cell? ⟨wr.heap.size, 0, none⟩ = some (.int .i64 (nd l k).f0) := by rw [← hwq]; exact (blk_cell (blk_new wr _) 0).trans rfl
              have h81 : wq.cell? ⟨wr.heap.size, 1, none⟩ = some (.int .i64 (nd l k).f1) := by rw [← hwq]; exact (blk_cell (blk_new wr _) 1).trans rfl
              clear hn4 hbq
              have HB6 := Aside0.mk (below_step HB3.out hB5.out)
              by_cases hA : (mt l).length = l.length
              · have hg1 : ((((mt l).length : Nat) : Int) != ((l.length : Nat) : Int)) = false := by rw [hA]; simp
                obtain ⟨ado, e, hxo⟩ : ∃ ado, Ao = some ado ∧ wq.cell? (ado.add k) = some (.int .i64 ((mt l).getD k 0 : Nat)) := by
                  obtain ⟨g, cp, e2, _, _⟩ := HO3.out.form (by omega)
                  injection e2 with e2
                  subst e2
                  refine ⟨_, rfl, (hB5.out.cell (by rw [add_block]; exact own_lt HO3.out g (by simp [Value.ownBlock]))).trans (HO3.out.cells (g := g) rfl k _ ?_)⟩
                  simp [vals, List.getD_eq_getElem?_getD, List.getElem?_eq_getElem (show k < (mt l).length by omega)]
                subst e
                obtain ⟨a0, e, hy0⟩ := Kd.at_int HC0.out (k : Int) (by omega) (by omega)
                subst e
                rw [Int.toNat_natCast, rd_tabl _ _ _ hlt] at hy0
                replace hy0 := (hB5.out.cell (World.block_lt_of_cell? _ _ hy0)).trans hy0
                obtain ⟨a1, e, hy1⟩ := Kd.at_int HC1.out (k : Int) (by omega) (by omega)
                subst e
                rw [Int.toNat_natCast, rd_tabl _ _ _ hlt] at hy1
                replace hy1 := (hB5.out.cell (World.block_lt_of_cell? _ _ hy1)).trans hy1
                have hkn : k < (mt l).length := by omega
                generalize hO : (mt l).getD k 0 = ok at hxo
                have HO := Aside0.mk hO
                have HA := Aside0.mk hA
                clear hO hA
                by_cases hB : ok = k
                · have hg2 : ((ok : Int) != (k : Int)) = false := by rw [hB]; simp
                  have HBk := Aside0.mk hB
                  clear hB
                  by_cases hC : own l k = (nd l k).f1
                  · have hg3 : (own l k != (nd l k).f1) = false := by rw [hC]; simp
                    have HCk := Aside0.mk hC
                    clear hC
                    by_cases hD : 0 < k
                    · have hg4 : decide ((0 : Int) < (k : Int)) = true := decide_eq_true (by omega)
                      have hg4' : decide (0 < k) = true := decide_eq_true hD
                      by_cases hF : (nd l k).f0 = 2
                      · have hg5 : ((nd l k).f0 == 2) = true := beq_iff_eq.2 hF
                        have HF := Aside0.mk hF
                        clear hF
                        by_cases hG : ups l k = 1
                        · have hg6 : ((ups l k : Int) != 1) = false := by rw [hG]; rfl
                          have OKK : Aside0 (okAt l k = true) := ⟨by unfold okAt; rw [HA.out, HO.out, HBk.out, HCk.out, HF.out, hG]; simp⟩
                          clear hG
                          go_wp2
                          clear hx0 hx1 hx2 hx3
                          go_quiet (fail)
                          go_wp2
                          go_roundw
                          case rel => exact ⟨k + 1, by omega, by first | rfl | simp, ⟨fun j hj => by
                            by_cases e : j = k
                            · rw [e]; exact OKK.out
                            · exact HE.out j (by omega)⟩, ⟨pw_below_drewN hB5.out _⟩⟩
                          case measure => simp [intOf]; omega
                        · have hg6 : ((ups l k : Int) != 1) = true := by simp [bne]; omega
                          have BAD : Aside0 ((List.range l.length).all (okAt l) = false) := ⟨all_bad hlt (by unfold okAt; simp [HF.out, hD, hG])⟩
                          clear hG
                          go_wp2
                          clear hx0 hx1 hx2 hx3
                          go_quiet (fail)
                          go_wp2
                          go_ret
                          exact ⟨by rw [BAD.out]; rfl, below_step HB6.out (pw_below_drewN (Below.refl _ _) _)⟩
                      · have hg5 : ((nd l k).f0 == 2) = false := beq_eq_false_iff_ne.2 hF
                        have OKK : Aside0 (okAt l k = true) := ⟨by unfold okAt; rw [HA.out, HO.out, HBk.out, HCk.out]; simp [hF]⟩
                        clear hF
                        go_wp2
                        clear hx0 hx1 hx2 hx3
                        go_quiet (fail)
                        go_wp2
                        go_roundw
                        case rel => exact ⟨k + 1, by omega, by first | rfl | simp, ⟨fun j hj => by
                          by_cases e : j = k
                          · rw [e]; exact OKK.out
                          · exact HE.out j (by omega)⟩, ⟨pw_below_drewN hB5.out _⟩⟩
                        case measure => simp [intOf]; omega
                    · have hg4 : decide ((0 : Int) < (k : Int)) = false := decide_eq_false (by omega)
                      have hg4' : decide (0 < k) = false := decide_eq_false hD
                      have OKK : Aside0 (okAt l k = true) := ⟨by unfold okAt; rw [HA.out, HO.out, HBk.out, HCk.out]; simp [hD]⟩
                      clear hD
                      go_wp2
                      clear hx0 hx1 hx2 hx3
                      go_quiet (fail)
                      go_wp2
                      go_roundw
                      case rel => exact ⟨k + 1, by omega, by first | rfl | simp, ⟨fun j hj => by
                        by_cases e : j = k
                        · rw [e]; exact OKK.out
                        · exact HE.out j (by omega)⟩, ⟨pw_below_drewN hB5.out _⟩⟩
                      case measure => simp [intOf]; omega
                  · have hg3 : (own l k != (nd l k).f1) = true := by simp [bne, hC]
                    have BAD : Aside0 ((List.range l.length).all (okAt l) = false) := ⟨all_bad hlt (by unfold okAt; simp [hC])⟩
                    clear hC
                    go_wp2
                    clear hx0 hx1 hx2 hx3
                    go_quiet (fail)
                    go_wp2
                    go_ret
                    exact ⟨by rw [BAD.out]; rfl, below_step HB6.out (pw_below_drewN (Below.refl _ _) _)⟩
                · have hg2 : ((ok : Int) != (k : Int)) = true := by simp [bne]; omega
                  have BAD : Aside0 ((List.range l.length).all (okAt l) = false) := ⟨all_bad hlt (by unfold okAt; rw [HO.out]; simp [hB])⟩
                  clear hB
                  go_wp2
                  clear hx0 hx1 hx2 hx3
                  go_quiet (fail)
                  go_wp2
                  go_ret
                  exact ⟨by rw [BAD.out]; rfl, below_step HB6.out (pw_below_drewN (Below.refl _ _) _)⟩
              · have hg1 : ((((mt l).length : Nat) : Int) != ((l.length : Nat) : Int)) = true := by simp [bne]; omega
                have BAD : Aside0 ((List.range l.length).all (okAt l) = false) := ⟨all_bad hlt (by unfold okAt; simp [hA])⟩
                clear hA
                go_wp2
                clear hx0 hx1 hx2 hx3
                go_quiet (fail)
                go_wp2
                go_ret
                exact ⟨by rw [BAD.out]; rfl, below_step HB6.out (pw_below_drewN (Below.refl _ _) _)⟩
            · have hkl2 : k = l.length := by omega
              subst hkl2
              have hall : (List.range l.length).all (okAt l) = true := List.all_eq_true.2 fun j hj => HE.out j (List.mem_range.1 hj)
              have HALL := Aside0.mk hall
              clear hall
              go_wp2
              go_ret
              exact ⟨by rw [HALL.out]; rfl, below_step HB3.out HB.out⟩
      · have e : rightB l = false := by unfold rightB; simp [h3]
        rw [e]
        have hd3 : ((nd l 0).f0 != 2) = true := by simp [bne, h3]
        clear e h3
        go_enter Tryd.func30, Tryd.ntmps30
        go_wp2
        go_ret
        exact ⟨rfl, below_alloc (below_alloc (Below.refl _ _) _) _⟩
    · have e : rightB l = false := by unfold rightB; simp [h2]
      rw [e]
      have hd1 : decide ((l.length : Int) < 1) = false := decide_eq_false (by omega)
      have hd2 : decide (56 < (l.length : Int)) = true := decide_eq_true (by omega)
      clear e
      go_enter Tryd.func30, Tryd.ntmps30
      go_wp2
      go_ret
      exact ⟨rfl, below_alloc (below_alloc (Below.refl _ _) _) _⟩
  · have e : rightB l = false := by unfold rightB; simp [h1]
    rw [e]
    have hd1 : decide ((l.length : Int) < 1) = true := decide_eq_true (by omega)
    clear e
    go_enter Tryd.func30, Tryd.ntmps30
    go_wp2
    go_ret
    exact ⟨rfl, below_alloc (below_alloc (Below.refl _ _) _) _⟩
end Go.Proofs.YtllfjmmdackgdaaDoor.PZ
end
