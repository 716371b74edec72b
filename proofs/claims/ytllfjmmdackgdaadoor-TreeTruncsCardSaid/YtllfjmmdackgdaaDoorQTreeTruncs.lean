/- What the statement TreeTruncsCardSaid alone wants beside the common texts M..: the walk of the law's own Go function and its plain facts. No condition but those in the theorems. -/
import Derived.Test.YtllfjmmdackgdaaDoorM39
set_option linter.unusedVariables false
set_option linter.unusedSimpArgs false
/-! GLTreeTruncs -/
section
namespace Go.Proofs.YtllfjmmdackgdaaDoor.PZ
open Go.RowKit Go.Proofs.YtllfjmmdackgdaaDoorW.PrintWords Go.Proofs.YtllfjmmdackgdaaDoorW.PrintLast Go.Proofs.YtllfjmmdackgdaaDoorW.PrintMore Go.Proofs.YtllfjmmdackgdaaDoor.B Go.Proofs.YtllfjmmdackgdaaDoor.Ord TD
set_option maxRecDepth 100000
set_option linter.unusedVariables false
set_option linter.unusedSimpArgs false
set_option maxHeartbeats 8000000 in
theorem truncs_walk (A : Option Addr) (c : Nat) (ops : List S39) (p : ByteArray) (n m : Int) (w : World) (hr : Kd.C k39 w A ops.length ops) (hc : ops.length ≤ c) :
    Calls Tryd.prog 12 #[.slice A ops.length c, .string p, .int .i64 n, .int .i64 m] w fun e w' => e = .returned (.bool true) ∧ Below w.heap.size w w' := by
  have HR := Aside0.mk hr
  clear hr
  by_cases hp : 1000 < p.size
  · have hpb : decide (1000 < (p.size : Int)) = true := decide_eq_true (by omega)
    have hpc : decide (1000 < p.size) = true := decide_eq_true hp
    clear hp
    go_enter Tryd.func12, Tryd.ntmps12
    go_wp2_with (first | (go_at_call 26; (with_reducible refine (alive_walk _).mono ?_); rintro e w1 ⟨rfl, hb⟩; have HB1 := Aside0.mk (below_step (w := w) (by repeat (first | exact Below.refl _ _ | with_reducible apply pw_below_drewN | with_reducible apply below_drew1 | with_reducible apply below_alloc)) hb); clear hb) | (go_at_call 27; (with_reducible refine (made_walk A c ops _ (Kd.C_below HR.out HB1.out) hc).mono ?_); rintro e w2 ⟨l, Al, cl, b, rfl, ht, hcl, hC, hb⟩; have HT := Aside0.mk ht; have HH := Aside0.mk (And.intro hcl hC); clear ht hcl hC; have HB2 := Aside0.mk (below_step (w := w) (by repeat (first | exact HB1.out | with_reducible apply pw_below_drewN | with_reducible apply below_drew1 | with_reducible apply below_alloc)) hb); clear hb; cases b))
    all_goals (go_ret; exact ⟨rfl, by repeat (first | exact HB2.out | with_reducible apply pw_below_drewN | with_reducible apply below_drew1 | with_reducible apply below_alloc)⟩)
  have hpb : decide (1000 < (p.size : Int)) = false := decide_eq_false (by omega)
  have hpc : decide (1000 < p.size) = false := decide_eq_false hp
  have hp' := Aside0.mk (Nat.le_of_not_lt hp)
  clear hp
  by_cases hn : n < 0
  · have hnb : decide (n < 0) = true := decide_eq_true hn
    clear hn
    go_enter Tryd.func12, Tryd.ntmps12
    go_wp2_with (first | (go_at_call 26; (with_reducible refine (alive_walk _).mono ?_); rintro e w1 ⟨rfl, hb⟩; have HB1 := Aside0.mk (below_step (w := w) (by repeat (first | exact Below.refl _ _ | with_reducible apply pw_below_drewN | with_reducible apply below_drew1 | with_reducible apply below_alloc)) hb); clear hb) | (go_at_call 27; (with_reducible refine (made_walk A c ops _ (Kd.C_below HR.out HB1.out) hc).mono ?_); rintro e w2 ⟨l, Al, cl, b, rfl, ht, hcl, hC, hb⟩; have HT := Aside0.mk ht; have HH := Aside0.mk (And.intro hcl hC); clear ht hcl hC; have HB2 := Aside0.mk (below_step (w := w) (by repeat (first | exact HB1.out | with_reducible apply pw_below_drewN | with_reducible apply below_drew1 | with_reducible apply below_alloc)) hb); clear hb; cases b))
    all_goals (go_ret; exact ⟨rfl, by repeat (first | exact HB2.out | with_reducible apply pw_below_drewN | with_reducible apply below_drew1 | with_reducible apply below_alloc)⟩)
  have hnb : decide (n < 0) = false := decide_eq_false hn
  have hn0 : 0 ≤ n := Int.not_lt.1 hn
  clear hn
  by_cases hm : m < n
  · have hmb : decide (m < n) = true := decide_eq_true hm
    clear hm
    go_enter Tryd.func12, Tryd.ntmps12
    go_wp2_with (first | (go_at_call 26; (with_reducible refine (alive_walk _).mono ?_); rintro e w1 ⟨rfl, hb⟩; have HB1 := Aside0.mk (below_step (w := w) (by repeat (first | exact Below.refl _ _ | with_reducible apply pw_below_drewN | with_reducible apply below_drew1 | with_reducible apply below_alloc)) hb); clear hb) | (go_at_call 27; (with_reducible refine (made_walk A c ops _ (Kd.C_below HR.out HB1.out) hc).mono ?_); rintro e w2 ⟨l, Al, cl, b, rfl, ht, hcl, hC, hb⟩; have HT := Aside0.mk ht; have HH := Aside0.mk (And.intro hcl hC); clear ht hcl hC; have HB2 := Aside0.mk (below_step (w := w) (by repeat (first | exact HB1.out | with_reducible apply pw_below_drewN | with_reducible apply below_drew1 | with_reducible apply below_alloc)) hb); clear hb; cases b))
    all_goals (go_ret; exact ⟨rfl, by repeat (first | exact HB2.out | with_reducible apply pw_below_drewN | with_reducible apply below_drew1 | with_reducible apply below_alloc)⟩)
  have hmb : decide (m < n) = false := decide_eq_false hm
  have hm0 : n ≤ m := Int.not_lt.1 hm
  clear hm
  by_cases gm : 3000 < m
  · have gmb : decide (3000 < m) = true := decide_eq_true gm
    clear gm
    go_enter Tryd.func12, Tryd.ntmps12
    go_wp2_with (first | (go_at_call 26; (with_reducible refine (alive_walk _).mono ?_); rintro e w1 ⟨rfl, hb⟩; have HB1 := Aside0.mk (below_step (w := w) (by repeat (first | exact Below.refl _ _ | with_reducible apply pw_below_drewN | with_reducible apply below_drew1 | with_reducible apply below_alloc)) hb); clear hb) | (go_at_call 27; (with_reducible refine (made_walk A c ops _ (Kd.C_below HR.out HB1.out) hc).mono ?_); rintro e w2 ⟨l, Al, cl, b, rfl, ht, hcl, hC, hb⟩; have HT := Aside0.mk ht; have HH := Aside0.mk (And.intro hcl hC); clear ht hcl hC; have HB2 := Aside0.mk (below_step (w := w) (by repeat (first | exact HB1.out | with_reducible apply pw_below_drewN | with_reducible apply below_drew1 | with_reducible apply below_alloc)) hb); clear hb; cases b))
    all_goals (go_ret; exact ⟨rfl, by repeat (first | exact HB2.out | with_reducible apply pw_below_drewN | with_reducible apply below_drew1 | with_reducible apply below_alloc)⟩)
  have gmb : decide (3000 < m) = false := decide_eq_false gm
  have hm1 : m ≤ 3000 := Int.not_lt.1 gm
  clear gm
  go_enter Tryd.func12, Tryd.ntmps12
  go_wp2_with (first
    | (go_at_call 26; (with_reducible refine (alive_walk _).mono ?_); rintro e w1 ⟨rfl, hb⟩; have HB1 := Aside0.mk (below_step (w := w) (by repeat (first | exact Below.refl _ _ | with_reducible apply pw_below_drewN | with_reducible apply below_drew1 | with_reducible apply below_alloc)) hb); clear hb)
    | (go_at_call 27; (with_reducible refine (made_walk A c ops _ (Kd.C_below HR.out HB1.out) hc).mono ?_); rintro e w2 ⟨l, Al, cl, b, rfl, ht, hcl, hC, hb⟩; have HT := Aside0.mk ht; have HH := Aside0.mk (And.intro hcl hC); clear ht hcl hC; have HB2 := Aside0.mk (below_step (w := w) (by repeat (first | exact HB1.out | with_reducible apply pw_below_drewN | with_reducible apply below_drew1 | with_reducible apply below_alloc)) hb); clear hb; cases b)
    | (go_at_call 29; (with_reducible refine (do_call0 Al l.length cl l rfl 7 p ⟨#[]⟩ 0 100000 _ (Kd.C_below HH.out.2 (by repeat (first | exact Below.refl _ _ | with_reducible apply pw_below_drewN | with_reducible apply below_drew1 | with_reducible apply below_alloc))) HH.out.1 HT.out (by have := hp'.out; omega) (by decide)).mono ?_); rintro e w3 h; generalize hs : doF l ⟨7, p, ⟨#[]⟩, 0, 100000, []⟩ = s at h; obtain ⟨x3, r3⟩ := s; have S3 := Aside0.mk hs; clear hs; obtain ⟨A3, c3, B3, b3, C3, d3, rfl, hh, hb⟩ := h; have HH3 := Aside0.mk hh; clear hh; have t_3 := Aside0.mk (show Hold w2.heap.size l Al cl w3 from (show Hold w2.heap.size l Al cl (w2.alloc (.cells #[.slice Al l.length cl] 42)) from ⟨blk_new w2 _, HH.out.1, Kd.C_alloc HH.out.2 _⟩).below (below_step (by repeat (first | exact Below.refl _ _ | with_reducible apply pw_below_drewN | with_reducible apply below_drew1 | with_reducible apply below_alloc)) hb)); have HB3 := Aside0.mk (below_step (w := w) (by repeat (first | exact HB2.out | with_reducible apply pw_below_drewN | with_reducible apply below_drew1 | with_reducible apply below_alloc)) hb); obtain ⟨ht, htl⟩ := t_3.out.cells; clear hb)
    | (go_at_call 29; (with_reducible refine (do_call0 Al l.length cl l rfl 9 p ⟨#[]⟩ 0 n _ (Kd.C_below t_3.out.rows (by repeat (first | exact Below.refl _ _ | with_reducible apply pw_below_drewN | with_reducible apply below_drew1 | with_reducible apply below_alloc))) t_3.out.cap HT.out (by have := hp'.out; omega) (by decide)).mono ?_); rintro e w4 h; generalize hs : doF l ⟨9, p, ⟨#[]⟩, 0, n, []⟩ = s at h; obtain ⟨x4, r4⟩ := s; have S4 := Aside0.mk hs; clear hs; obtain ⟨A4, c4, B4, b4, C4, d4, rfl, hh, hb⟩ := h; have HH4 := Aside0.mk hh; clear hh; have HT4 := Aside0.mk (show Rt x4 by have h := do_rt HT.out ⟨9, p, ⟨#[]⟩, 0, n, []⟩; rwa [S4.out] at h); have t_4 := Aside0.mk (t_3.out.below (below_step (by repeat (first | exact Below.refl _ _ | with_reducible apply pw_below_drewN | with_reducible apply below_drew1 | with_reducible apply below_alloc)) hb)); have old_4 := Aside0.mk (HH3.out.laid hb).2; have HB4 := Aside0.mk (below_step (w := w) (by repeat (first | exact HB3.out | with_reducible apply pw_below_drewN | with_reducible apply below_drew1 | with_reducible apply below_alloc)) hb); clear ht htl; clear hb)
    | (go_at_call 29; (with_reducible refine (do_call0 A4 x4.length c4 x4 rfl 9 p ⟨#[]⟩ 0 m _ (Kd.C_below HH4.out.rows (by repeat (first | exact Below.refl _ _ | with_reducible apply pw_below_drewN | with_reducible apply below_drew1 | with_reducible apply below_alloc))) HH4.out.cap HT4.out (by have := hp'.out; omega) (by decide)).mono ?_); rintro e w5 h; generalize hs : doF x4 ⟨9, p, ⟨#[]⟩, 0, m, []⟩ = s at h; obtain ⟨x5, r5⟩ := s; have S5 := Aside0.mk hs; clear hs; obtain ⟨A5, c5, B5, b5, C5, d5, rfl, hh, hb⟩ := h; have HH5 := Aside0.mk hh; clear hh; have HT5 := Aside0.mk (show Rt x5 by have h := do_rt HT4.out ⟨9, p, ⟨#[]⟩, 0, m, []⟩; rwa [S5.out] at h); have t_5 := Aside0.mk (t_4.out.below (below_step (by repeat (first | exact Below.refl _ _ | with_reducible apply pw_below_drewN | with_reducible apply below_drew1 | with_reducible apply below_alloc)) hb)); have old_5 := Aside0.mk (old_4.out.below (below_step (by repeat (first | exact Below.refl _ _ | with_reducible apply pw_below_drewN | with_reducible apply below_drew1 | with_reducible apply below_alloc)) hb)); have u_5 := Aside0.mk (HH4.out.laid hb).1; have a_5 := Aside0.mk (HH4.out.laid hb).2; have HB5 := Aside0.mk (below_step (w := w) (by repeat (first | exact HB4.out | with_reducible apply pw_below_drewN | with_reducible apply below_drew1 | with_reducible apply below_alloc)) hb); clear hb)
    | (go_at_call 29; (with_reducible refine (do_call0 A5 x5.length c5 x5 rfl 7 p ⟨#[]⟩ 0 100000 _ (Kd.C_below HH5.out.rows (by repeat (first | exact Below.refl _ _ | with_reducible apply pw_below_drewN | with_reducible apply below_drew1 | with_reducible apply below_alloc))) HH5.out.cap HT5.out (by have := hp'.out; omega) (by decide)).mono ?_); rintro e w6 h; generalize hs : doF x5 ⟨7, p, ⟨#[]⟩, 0, 100000, []⟩ = s at h; obtain ⟨x6, r6⟩ := s; have S6 := Aside0.mk hs; clear hs; obtain ⟨A6, c6, B6, b6, C6, d6, rfl, hh, hb⟩ := h; have HH6 := Aside0.mk hh; clear hh; have t_6 := Aside0.mk (t_5.out.below (below_step (by repeat (first | exact Below.refl _ _ | with_reducible apply pw_below_drewN | with_reducible apply below_drew1 | with_reducible apply below_alloc)) hb)); have old_6 := Aside0.mk (old_5.out.below (below_step (by repeat (first | exact Below.refl _ _ | with_reducible apply pw_below_drewN | with_reducible apply below_drew1 | with_reducible apply below_alloc)) hb)); have u_6 := Aside0.mk (u_5.out.below (below_step (by repeat (first | exact Below.refl _ _ | with_reducible apply pw_below_drewN | with_reducible apply below_drew1 | with_reducible apply below_alloc)) hb)); have a_6 := Aside0.mk (a_5.out.below (below_step (by repeat (first | exact Below.refl _ _ | with_reducible apply pw_below_drewN | with_reducible apply below_drew1 | with_reducible apply below_alloc)) hb)); have v_6 := Aside0.mk (HH5.out.laid hb).1; have bb_6 := Aside0.mk (HH5.out.laid hb).2; have HB6 := Aside0.mk (below_step (w := w) (by repeat (first | exact HB5.out | with_reducible apply pw_below_drewN | with_reducible apply below_drew1 | with_reducible apply below_alloc)) hb); have HLAW := Aside0.mk (show (r4.f0 ≠ 0 → r4.f0 = r3.f0 ∧ r5.f0 = r4.f0) ∧ (r4.f0 = 0 → r5.f0 = 0 ∧ r6.f0 = 0 ∧ (r6.f1.length : Int) = m ∧ ∀ i : Nat, (i : Int) < m → r6.f1.getD i 0 = if (i : Int) < n then r3.f1.getD i 0 else 0) by have h := truncs_law HT.out p hn0 hm0 hm1; rw [S4.out, S3.out] at h; dsimp only at h; rw [S5.out] at h; dsimp only at h; rw [S6.out] at h; exact h); obtain ⟨hold0, hold1, hold2, hold3, hold4, hold5, hold6⟩ := old_6.out.cells; have holdp := Nat.lt_of_succ_lt hold6; obtain ⟨ha0, ha1, ha2, ha3, ha4, ha5, ha6⟩ := a_6.out.cells; have hap := Nat.lt_of_succ_lt ha6; obtain ⟨hbb0, hbb1, hbb2, hbb3, hbb4, hbb5, hbb6⟩ := bb_6.out.cells; have hbbp := Nat.lt_of_succ_lt hbb6; clear hb; cases hzb : (r4.f0 != 0); (have z1 : (r5.f0 != 0) = false := bne_eq_false_iff_eq.mpr (HLAW.out.2 (bne_eq_false_iff_eq.1 hzb)).1); (have z2 : (r6.f0 != 0) = false := bne_eq_false_iff_eq.mpr (HLAW.out.2 (bne_eq_false_iff_eq.1 hzb)).2.1); (have z3 : ((r6.f1.length : Int) != m) = false := bne_eq_false_iff_eq.mpr (HLAW.out.2 (bne_eq_false_iff_eq.1 hzb)).2.2.1); rotate_left; (have z4 : (r4.f0 == r3.f0) = true := beq_iff_eq.2 (HLAW.out.1 (bne_iff_ne.1 hzb)).1); (have z5 : (r5.f0 == r4.f0) = true := beq_iff_eq.2 (HLAW.out.1 (bne_iff_ne.1 hzb)).2)))
  all_goals first
    | (go_ret; refine ⟨rfl, ?_⟩; (repeat (first | exact HB6.out | with_reducible apply pw_below_drewN | with_reducible apply below_drew1 | with_reducible apply below_alloc)); done)
    | (go_ret; refine ⟨rfl, ?_⟩; (repeat (first | exact HB2.out | with_reducible apply pw_below_drewN | with_reducible apply below_drew1 | with_reducible apply below_alloc)); done)
    | skip
  have HLEN := Aside0.mk (HLAW.out.2 (bne_eq_false_iff_eq.1 hzb)).2.2
  go_loopw [19] (fun v19 wr => ∃ k : Nat, (k : Int) ≤ m ∧ v19 = .int .i64 k ∧ Aside0 (HoldR (w3.heap.size + 1) r3 B3 b3 C3 d3 wr) ∧ Aside0 (HoldR (w6.heap.size + 1) r6 B6 b6 C6 d6 wr) ∧ Aside0 (Below w.heap.size w wr)) (fun v19 _ => m.toNat - (intOf v19).toNat)
  case atStart => exact ⟨0, by omega, rfl, ⟨old_6.out.below (by repeat (first | exact Below.refl _ _ | with_reducible apply pw_below_drewN | with_reducible apply below_drew1 | with_reducible apply below_alloc))⟩, ⟨(HH6.out.laid (Below.refl _ _)).2⟩, ⟨by repeat (first | exact HB6.out | with_reducible apply pw_below_drewN | with_reducible apply below_drew1 | with_reducible apply below_alloc)⟩⟩
  case round =>
    obtain ⟨k, hk, rfl, HO, HG, HB⟩ := hrel
    by_cases hlt : (k : Int) < m
    · have hgl : (k : Int) < (r6.f1.length : Int) := by rw [HLEN.out.1]; exact hlt
      have hv := HLEN.out.2 k hlt
      obtain ⟨ad, rfl, hx⟩ := Kd.at_int HG.out.rows1 (k : Int) (by omega) hgl
      rw [Int.toNat_natCast] at hx
      rw [show r6.f1.getD k 0 = rd r6.f1 k from rfl] at hv
      obtain ⟨hg0, hg1, hg2, hg3, hg4, hg5, hg6⟩ := HG.out.cells
      obtain ⟨ho0, ho1, ho2, ho3, ho4, ho5, ho6⟩ := HO.out.cells
      clear hg0 hg2 hg3 hg4 hg5 ho0 ho2 ho3 ho4 ho5
      by_cases h1 : (k : Int) < n
      · have h1b : decide ((k : Int) < n) = true := decide_eq_true h1
        rw [if_pos h1] at hv
        by_cases h2 : (k : Int) < (r3.f1.length : Int)
        · have h2b : decide ((k : Int) < (r3.f1.length : Int)) = true := decide_eq_true h2
          obtain ⟨bd, rfl, hy⟩ := Kd.at_int HO.out.rows1 (k : Int) (by omega) h2
          rw [Int.toNat_natCast] at hy
          have hq : (rd r6.f1 k != rd r3.f1 k) = false := bne_eq_false_iff_eq.mpr hv
          generalize rd r6.f1 k = x at hx hq
          generalize rd r3.f1 k = y at hy hq
          clear hv
          go_wp2
          go_roundw
          case rel => exact ⟨k + 1, by omega, rfl, HO, HG, HB⟩
          case measure => simp [intOf]; omega
        · have h2b : decide ((k : Int) < (r3.f1.length : Int)) = false := decide_eq_false h2
          have hq : (rd r6.f1 k != 0) = false := bne_eq_false_iff_eq.mpr (by rw [hv, List.getD_eq_getElem?_getD, List.getElem?_eq_none (by omega)]; rfl)
          generalize rd r6.f1 k = x at hx hq
          clear hv
          go_wp2
          go_roundw
          case rel => exact ⟨k + 1, by omega, rfl, HO, HG, HB⟩
          case measure => simp [intOf]; omega
      · have h1b : decide ((k : Int) < n) = false := decide_eq_false h1
        rw [if_neg h1] at hv
        have hq : (rd r6.f1 k != 0) = false := bne_eq_false_iff_eq.mpr hv
        generalize rd r6.f1 k = x at hx hq
        clear hv
        go_wp2
        go_roundw
        case rel => exact ⟨k + 1, by omega, rfl, HO, HG, HB⟩
        case measure => simp [intOf]; omega
    · go_wp2
      go_ret
      exact ⟨rfl, HB.out⟩
end Go.Proofs.YtllfjmmdackgdaaDoor.PZ
end
