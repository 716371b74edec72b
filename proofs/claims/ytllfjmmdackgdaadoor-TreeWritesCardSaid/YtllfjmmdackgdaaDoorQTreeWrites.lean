/- What the statement TreeWritesCardSaid alone wants beside the common texts M..: the walk of the law's own Go function and its plain facts. No condition but those in the theorems. -/
import Derived.Test.YtllfjmmdackgdaaDoorM00
import Derived.Test.YtllfjmmdackgdaaDoorM01
import Derived.Test.YtllfjmmdackgdaaDoorM02
import Derived.Test.YtllfjmmdackgdaaDoorM03
import Derived.Test.YtllfjmmdackgdaaDoorM04
import Derived.Test.YtllfjmmdackgdaaDoorM05
import Derived.Test.YtllfjmmdackgdaaDoorM06
import Derived.Test.YtllfjmmdackgdaaDoorM07
import Derived.Test.YtllfjmmdackgdaaDoorM08
import Derived.Test.YtllfjmmdackgdaaDoorM09
import Derived.Test.YtllfjmmdackgdaaDoorM10
import Derived.Test.YtllfjmmdackgdaaDoorM11
import Derived.Test.YtllfjmmdackgdaaDoorM12
import Derived.Test.YtllfjmmdackgdaaDoorM13
import Derived.Test.YtllfjmmdackgdaaDoorM14
import Derived.Test.YtllfjmmdackgdaaDoorM15
import Derived.Test.YtllfjmmdackgdaaDoorM16
import Derived.Test.YtllfjmmdackgdaaDoorM17
import Derived.Test.YtllfjmmdackgdaaDoorM18
import Derived.Test.YtllfjmmdackgdaaDoorM19
import Derived.Test.YtllfjmmdackgdaaDoorM20
import Derived.Test.YtllfjmmdackgdaaDoorM21
import Derived.Test.YtllfjmmdackgdaaDoorM22
import Derived.Test.YtllfjmmdackgdaaDoorM23
import Derived.Test.YtllfjmmdackgdaaDoorM24
import Derived.Test.YtllfjmmdackgdaaDoorM25
import Derived.Test.YtllfjmmdackgdaaDoorM26
import Derived.Test.YtllfjmmdackgdaaDoorM27
import Derived.Test.YtllfjmmdackgdaaDoorM28
import Derived.Test.YtllfjmmdackgdaaDoorM29
import Derived.Test.YtllfjmmdackgdaaDoorM30
import Derived.Test.YtllfjmmdackgdaaDoorM31
import Derived.Test.YtllfjmmdackgdaaDoorM32
import Derived.Test.YtllfjmmdackgdaaDoorM33
import Derived.Test.YtllfjmmdackgdaaDoorM34
import Derived.Test.YtllfjmmdackgdaaDoorM35
import Derived.Test.YtllfjmmdackgdaaDoorM36
import Derived.Test.YtllfjmmdackgdaaDoorM37
import Derived.Test.YtllfjmmdackgdaaDoorM38
import Derived.Test.YtllfjmmdackgdaaDoorM39
set_option linter.unusedVariables false
set_option linter.unusedSimpArgs false
/-! TLawB -/
section
namespace Go.Proofs.YtllfjmmdackgdaaDoor.PZ
open Go.RowKit Go.Proofs.YtllfjmmdackgdaaDoorW.PrintWords Go.Proofs.YtllfjmmdackgdaaDoorW.PrintLast Go.Proofs.YtllfjmmdackgdaaDoorW.PrintMore TD
set_option maxRecDepth 100000
theorem read_len {l : List S58} (h : Rt l) (p : ByteArray) (a n : Int) : (doF l ⟨7, p, ⟨#[]⟩, a, n, []⟩).2.f1.length ≤ 46368 := by
  rw [do_read h]
  cases hr : readF l p a n with
  | inr e => exact Nat.zero_le _
  | inl d =>
    show d.length ≤ 46368
    unfold readF at hr
    split at hr
    · cases hr
    · split at hr
      · injection hr with hr
        rw [← hr]
        exact Nat.le_trans (part_le _ _ _) (h.pr.size _)
      · cases hr
/-- What is written is read; all else is as it was. -/
theorem writes_law {l : List S58} (h : Rt l) {p : ByteArray} {a : Int} {d : List Int} (hr : (doF l ⟨8, p, ⟨#[]⟩, a, 0, d⟩).2.f0 = 0) :
    (doF l ⟨7, p, ⟨#[]⟩, 0, 100000, []⟩).2.f0 = 0 ∧ (doF (doF l ⟨8, p, ⟨#[]⟩, a, 0, d⟩).1 ⟨7, p, ⟨#[]⟩, 0, 100000, []⟩).2.f0 = 0 ∧ (doF l ⟨8, p, ⟨#[]⟩, a, 0, d⟩).2.f5 = (d.length : Int) ∧ 0 ≤ a ∧ a ≤ 46368 ∧
    (doF (doF l ⟨8, p, ⟨#[]⟩, a, 0, d⟩).1 ⟨7, p, ⟨#[]⟩, 0, 100000, []⟩).2.f1.length = (if d.length = 0 then (doF l ⟨7, p, ⟨#[]⟩, 0, 100000, []⟩).2.f1.length else max (doF l ⟨7, p, ⟨#[]⟩, 0, 100000, []⟩).2.f1.length (a.toNat + d.length)) ∧
    (∀ i, (doF (doF l ⟨8, p, ⟨#[]⟩, a, 0, d⟩).1 ⟨7, p, ⟨#[]⟩, 0, 100000, []⟩).2.f1.getD i 0 = if a.toNat ≤ i ∧ i - a.toNat < d.length then d.getD (i - a.toNat) 0 else (doF l ⟨7, p, ⟨#[]⟩, 0, 100000, []⟩).2.f1.getD i 0) ∧
    (doF l ⟨8, p, ⟨#[]⟩, a, 0, d⟩).1.length = l.length ∧ ∃ k : Nat, (findF l p).1 = (k : Int) ∧ ∀ j, j ≠ k → (nd (doF l ⟨8, p, ⟨#[]⟩, a, 0, d⟩).1 j).f2 = (nd l j).f2 := by
  obtain ⟨l', r, hw, he⟩ := ok_work hr
  have hx : ∃ x, writeF l p a d = .inl x ∧ l' = x ∧ r = { res0 with f5 := (d.length : Int) } := by
    have h2 : workF l ⟨8, p, ⟨#[]⟩, a, 0, d⟩ = (match writeF l p a d with | .inl l' => .inl (l', { res0 with f5 := (d.length : Int) }) | .inr e => .inr e) := rfl
    rw [h2] at hw
    cases hx : writeF l p a d with
    | inl x =>
      rw [hx] at hw
      injection hw with hw
      injection hw with hw1 hw2
      exact ⟨x, rfl, hw1.symm, hw2.symm⟩
    | inr e => rw [hx] at hw; cases hw
  obtain ⟨x, hc, rfl, rfl⟩ := hx
  obtain ⟨ha, hr2, hlen, k, hk, hkl, hro, hrn, hl2, hget, hoth⟩ := written h hc
  have ha2 : a ≤ 46368 := by
    unfold writeF at hc
    split at hc
    · cases hc
    · split at hc
      · rename_i hb; exact hb.2.1
      · cases hc
  rw [he]
  dsimp only
  rw [hr2.num, do_read h, do_read hr2, hro, hrn]
  exact ⟨rfl, rfl, rfl, ha, ha2, hl2, hget, hlen, k, by rw [find_k hk], hoth⟩
end Go.Proofs.YtllfjmmdackgdaaDoor.PZ
end
/-! GLTreeWrites -/
section
namespace Go.Proofs.YtllfjmmdackgdaaDoor.PZ
open Go.RowKit Go.Proofs.YtllfjmmdackgdaaDoorW.PrintWords Go.Proofs.YtllfjmmdackgdaaDoorW.PrintLast Go.Proofs.YtllfjmmdackgdaaDoorW.PrintMore Go.Proofs.YtllfjmmdackgdaaDoor.B Go.Proofs.YtllfjmmdackgdaaDoor.Ord TD
set_option maxRecDepth 100000
set_option linter.unusedVariables false
set_option linter.unusedSimpArgs false
set_option maxHeartbeats 8000000 in
theorem writes_walk (A : Option Addr) (c : Nat) (ops : List S39) (p : ByteArray) (a : Int) (Ad : Option Addr) (cd : Nat) (d : List Int) (w : World) (hr : Kd.C k39 w A ops.length ops) (hc : ops.length ≤ c) (hrd : Kd.C (Kd.int .u8) w Ad d.length d) (hcd : d.length ≤ cd) :
    Calls Tryd.prog 8 #[.slice A ops.length c, .string p, .int .i64 a, .slice Ad d.length cd] w fun e w' => e = .returned (.bool true) ∧ Below w.heap.size w w' := by
  have HR := Aside0.mk hr
  have HRD := Aside0.mk hrd
  clear hr hrd
  go_enter Tryd.func8, Tryd.ntmps8
  go_wp2_with (first
    | (go_at_call 26; (with_reducible refine (alive_walk _).mono ?_); rintro e w1 ⟨rfl, hb⟩; have HB1 := Aside0.mk (below_step (w := w) (by repeat (first | exact Below.refl _ _ | with_reducible apply pw_below_drewN | with_reducible apply below_drew1 | with_reducible apply below_alloc)) hb); clear hb)
    | (go_at_call 27; (with_reducible refine (made_walk A c ops _ (Kd.C_below HR.out HB1.out) hc).mono ?_); rintro e w2 ⟨l, Al, cl, b, rfl, ht, hcl, hC, hb⟩; have HT := Aside0.mk ht; have HH := Aside0.mk (And.intro hcl hC); clear ht hcl hC; have HB2 := Aside0.mk (below_step (w := w) (by repeat (first | exact HB1.out | with_reducible apply pw_below_drewN | with_reducible apply below_drew1 | with_reducible apply below_alloc)) hb); clear hb; cases b)
    | (go_at_call 28; (with_reducible refine (long_call 8 p ⟨#[]⟩ a 0 Ad d.length cd d rfl _).mono ?_); rintro e w3 ⟨⟨rL, rfl, hL⟩, hb⟩; have HL := Aside0.mk hL; clear hL; have t_3 := Aside0.mk (show Hold w2.heap.size l Al cl w3 from (show Hold w2.heap.size l Al cl (w2.alloc (.cells #[.slice Al l.length cl] 42)) from ⟨blk_new w2 _, HH.out.1, Kd.C_alloc HH.out.2 _⟩).below (below_step (by repeat (first | exact Below.refl _ _ | with_reducible apply pw_below_drewN | with_reducible apply below_drew1 | with_reducible apply below_alloc)) hb)); have o_3 := Aside0.mk (show HoldO (w2.heap.size + 1) (.int .i64 8) (.string p) (.string ⟨#[]⟩) (.int .i64 a) (.int .i64 0) (.slice Ad d.length cd) w3 from ⟨blk_below (box_new2 w2 (.cells #[.slice Al l.length cl] 42) (.cells #[.int .i64 8, .string p, .string ⟨#[]⟩, .int .i64 a, .int .i64 0, .slice Ad d.length cd] 39)) hb⟩); have HB3 := Aside0.mk (below_step (w := w) (by repeat (first | exact HB2.out | with_reducible apply pw_below_drewN | with_reducible apply below_drew1 | with_reducible apply below_alloc)) hb); obtain ⟨ht, htl⟩ := t_3.out.cells; clear hb; cases rL)
    | (go_at_call 29; (with_reducible refine (do_call0 Al l.length cl l rfl 7 p ⟨#[]⟩ 0 100000 _ (Kd.C_below t_3.out.rows (by repeat (first | exact Below.refl _ _ | with_reducible apply pw_below_drewN | with_reducible apply below_drew1 | with_reducible apply below_alloc))) t_3.out.cap HT.out (by have := HL.out trivial; omega) (by decide)).mono ?_); rintro e w4 h; generalize hs : doF l ⟨7, p, ⟨#[]⟩, 0, 100000, []⟩ = s at h; obtain ⟨x4, r4⟩ := s; have S4 := Aside0.mk hs; clear hs; obtain ⟨A4, c4, B4, b4, C4, d4, rfl, hh, hb⟩ := h; have HH4 := Aside0.mk hh; clear hh; have t_4 := Aside0.mk (t_3.out.below (below_step (by repeat (first | exact Below.refl _ _ | with_reducible apply pw_below_drewN | with_reducible apply below_drew1 | with_reducible apply below_alloc)) hb)); have o_4 := Aside0.mk (o_3.out.below (below_step (by repeat (first | exact Below.refl _ _ | with_reducible apply pw_below_drewN | with_reducible apply below_drew1 | with_reducible apply below_alloc)) hb)); have HB4 := Aside0.mk (below_step (w := w) (by repeat (first | exact HB3.out | with_reducible apply pw_below_drewN | with_reducible apply below_drew1 | with_reducible apply below_alloc)) hb); clear ht htl; obtain ⟨ht, htl⟩ := t_4.out.cells; obtain ⟨ho0, ho1, ho2, ho3, ho4, ho5, ho6⟩ := o_4.out.cells; clear hb)
    | (go_at_call 29; (with_reducible refine (do_call Al l.length cl l rfl 8 p ⟨#[]⟩ a 0 Ad d.length cd d rfl _ (Kd.C_below t_4.out.rows (by repeat (first | exact Below.refl _ _ | with_reducible apply pw_below_drewN | with_reducible apply below_drew1 | with_reducible apply below_alloc))) t_4.out.cap (Kd.C_below HRD.out (by repeat (first | exact HB4.out | with_reducible apply pw_below_drewN | with_reducible apply below_drew1 | with_reducible apply below_alloc))) hcd HT.out (by have := HL.out trivial; omega) (by decide)).mono ?_); rintro e w5 h; generalize hs : doF l ⟨8, p, ⟨#[]⟩, a, 0, d⟩ = s at h; obtain ⟨x5, r5⟩ := s; have S5 := Aside0.mk hs; clear hs; obtain ⟨A5, c5, B5, b5, C5, d5, rfl, hh, hb⟩ := h; have HH5 := Aside0.mk hh; clear hh; have HT5 := Aside0.mk (show Rt x5 by have h := do_rt HT.out ⟨8, p, ⟨#[]⟩, a, 0, d⟩; rwa [S5.out] at h); have t_5 := Aside0.mk (t_4.out.below (below_step (by repeat (first | exact Below.refl _ _ | with_reducible apply pw_below_drewN | with_reducible apply below_drew1 | with_reducible apply below_alloc)) hb)); have o_5 := Aside0.mk (o_4.out.below (below_step (by repeat (first | exact Below.refl _ _ | with_reducible apply pw_below_drewN | with_reducible apply below_drew1 | with_reducible apply below_alloc)) hb)); have old_5 := Aside0.mk (HH4.out.laid hb).2; have HB5 := Aside0.mk (below_step (w := w) (by repeat (first | exact HB4.out | with_reducible apply pw_below_drewN | with_reducible apply below_drew1 | with_reducible apply below_alloc)) hb); clear ht htl ho0 ho1 ho2 ho3 ho4 ho5 ho6; obtain ⟨ht, htl⟩ := t_5.out.cells; clear hb; cases hzb : (r5.f0 != 0))
    | (go_at_call 31; (with_reducible refine (sametree_walk Al cl l A5 c5 x5 _ (Kd.C_below t_5.out.rows (by repeat (first | exact Below.refl _ _ | with_reducible apply pw_below_drewN | with_reducible apply below_drew1 | with_reducible apply below_alloc))) t_5.out.cap (Kd.C_below HH5.out.rows (by repeat (first | exact Below.refl _ _ | with_reducible apply pw_below_drewN | with_reducible apply below_drew1 | with_reducible apply below_alloc))) HH5.out.cap (rt_small HT.out).1 (rt_small HT.out).2).mono ?_); rintro e w6 ⟨⟨q6, rfl, hq⟩, hb⟩; have HLAW := Aside0.mk (show x5 = l by have h := err_same (l := l) (o := ⟨8, p, ⟨#[]⟩, a, 0, d⟩) (by rw [S5.out]; exact bne_iff_ne.1 hzb); rw [S5.out] at h; exact h.1); obtain rfl : q6 = true := hq.2 HLAW.out.symm; have t_6 := Aside0.mk (t_5.out.below (below_step (by repeat (first | exact Below.refl _ _ | with_reducible apply pw_below_drewN | with_reducible apply below_drew1 | with_reducible apply below_alloc)) hb)); have o_6 := Aside0.mk (o_5.out.below (below_step (by repeat (first | exact Below.refl _ _ | with_reducible apply pw_below_drewN | with_reducible apply below_drew1 | with_reducible apply below_alloc)) hb)); have old_6 := Aside0.mk (old_5.out.below (below_step (by repeat (first | exact Below.refl _ _ | with_reducible apply pw_below_drewN | with_reducible apply below_drew1 | with_reducible apply below_alloc)) hb)); have next_6 := Aside0.mk (HH5.out.laid hb).1; have r_6 := Aside0.mk (HH5.out.laid hb).2; have HB6 := Aside0.mk (below_step (w := w) (by repeat (first | exact HB5.out | with_reducible apply pw_below_drewN | with_reducible apply below_drew1 | with_reducible apply below_alloc)) hb); clear hq; clear ht htl; clear hb)
    | (go_at_call 29; (with_reducible refine (do_call0 A5 x5.length c5 x5 rfl 7 p ⟨#[]⟩ 0 100000 _ (Kd.C_below HH5.out.rows (by repeat (first | exact Below.refl _ _ | with_reducible apply pw_below_drewN | with_reducible apply below_drew1 | with_reducible apply below_alloc))) HH5.out.cap HT5.out (by have := HL.out trivial; omega) (by decide)).mono ?_); rintro e w7 h; generalize hs : doF x5 ⟨7, p, ⟨#[]⟩, 0, 100000, []⟩ = s at h; obtain ⟨x7, r7⟩ := s; have S7 := Aside0.mk hs; clear hs; obtain ⟨A7, c7, B7, b7, C7, d7, rfl, hh, hb⟩ := h; have HH7 := Aside0.mk hh; clear hh; have t_7 := Aside0.mk (t_5.out.below (below_step (by repeat (first | exact Below.refl _ _ | with_reducible apply pw_below_drewN | with_reducible apply below_drew1 | with_reducible apply below_alloc)) hb)); have o_7 := Aside0.mk (o_5.out.below (below_step (by repeat (first | exact Below.refl _ _ | with_reducible apply pw_below_drewN | with_reducible apply below_drew1 | with_reducible apply below_alloc)) hb)); have old_7 := Aside0.mk (old_5.out.below (below_step (by repeat (first | exact Below.refl _ _ | with_reducible apply pw_below_drewN | with_reducible apply below_drew1 | with_reducible apply below_alloc)) hb)); have next_7 := Aside0.mk (HH5.out.laid hb).1; have r_7 := Aside0.mk (HH5.out.laid hb).2; have HB7 := Aside0.mk (below_step (w := w) (by repeat (first | exact HB5.out | with_reducible apply pw_below_drewN | with_reducible apply below_drew1 | with_reducible apply below_alloc)) hb); have HLAW := Aside0.mk (show r4.f0 = 0 ∧ r7.f0 = 0 ∧ r5.f5 = (d.length : Int) ∧ 0 ≤ a ∧ a ≤ 46368 ∧ r7.f1.length = (if d.length = 0 then r4.f1.length else max r4.f1.length (a.toNat + d.length)) ∧ (∀ i, r7.f1.getD i 0 = if a.toNat ≤ i ∧ i - a.toNat < d.length then d.getD (i - a.toNat) 0 else r4.f1.getD i 0) ∧ x5.length = l.length ∧ ∃ k : Nat, (findF l p).1 = (k : Int) ∧ ∀ j, j ≠ k → (nd x5 j).f2 = (nd l j).f2 by have h := writes_law HT.out (p := p) (a := a) (d := d) (by rw [S5.out]; exact bne_eq_false_iff_eq.1 hzb); rw [S4.out, S5.out] at h; dsimp only at h; rw [S7.out] at h; exact h); have z1 : (r4.f0 != 0) = false := bne_eq_false_iff_eq.mpr HLAW.out.1; have z2 : (r7.f0 != 0) = false := bne_eq_false_iff_eq.mpr HLAW.out.2.1; have z3 : (r5.f5 != (d.length : Int)) = false := bne_eq_false_iff_eq.mpr HLAW.out.2.2.1; have z4 : decide (a < 0) = false := decide_eq_false (Int.not_lt.2 HLAW.out.2.2.2.1); have ha0 : 0 ≤ a := HLAW.out.2.2.2.1; have ha1 : a ≤ 46368 := HLAW.out.2.2.2.2.1; have HSZ := Aside0.mk HLAW.out.2.2.2.2.2.1; have HGET := Aside0.mk HLAW.out.2.2.2.2.2.2.1; have HOTH := Aside0.mk HLAW.out.2.2.2.2.2.2.2; have hd3 : d.length ≤ 3000 := (HL.out trivial).2.2; have hold : r4.f1.length ≤ 46368 := (by have h := read_len HT.out p 0 100000; rw [S4.out] at h; exact h); clear HLAW; clear ht htl; obtain ⟨hold0, hold1, hold2, hold3, hold4, hold5, hold6⟩ := old_7.out.cells; have holdp := Nat.lt_of_succ_lt hold6; obtain ⟨hr0, hr1, hr2, hr3, hr4, hr5, hr6⟩ := r_7.out.cells; have hrp := Nat.lt_of_succ_lt hr6; obtain ⟨ht, htl⟩ := t_7.out.cells; obtain ⟨hnext, hnextl⟩ := next_7.out.cells; clear hb; by_cases hd0 : 0 < d.length; (have y1 : decide (0 < (d.length : Int)) = true := decide_eq_true (by omega)); (have y2 : decide (0 < d.length) = true := decide_eq_true hd0); (obtain ⟨M, hM⟩ : ∃ M, max r4.f1.length (a.toNat + d.length) = M := ⟨_, rfl⟩); (have hmx : max (r4.f1.length : Int) (a + (d.length : Int)) = (M : Int) := (by omega)); (have hgl : r7.f1.length = M := (by rw [HSZ.out, if_neg (by omega)]; exact hM)); (have y3 : ((r7.f1.length : Int) != (M : Int)) = false := bne_eq_false_iff_eq.mpr (by omega)); (have HGL := Aside0.mk hgl); clear hgl hM; rotate_left; (have y1 : decide (0 < (d.length : Int)) = false := decide_eq_false (by omega)); (have y2 : decide (0 < d.length) = false := decide_eq_false hd0); (have hgl : r7.f1.length = r4.f1.length := (by rw [HSZ.out, if_pos (by omega)])); (have y3 : ((r7.f1.length : Int) != (r4.f1.length : Int)) = false := bne_eq_false_iff_eq.mpr (by omega)); (have HGL := Aside0.mk hgl); clear hgl))
  all_goals first
    | (go_ret; refine ⟨rfl, ?_⟩; (repeat (first | exact HB7.out | with_reducible apply pw_below_drewN | with_reducible apply below_drew1 | with_reducible apply below_alloc)); done)
    | (go_ret; refine ⟨rfl, ?_⟩; (repeat (first | exact HB6.out | with_reducible apply pw_below_drewN | with_reducible apply below_drew1 | with_reducible apply below_alloc)); done)
    | (go_ret; refine ⟨rfl, ?_⟩; (repeat (first | exact HB3.out | with_reducible apply pw_below_drewN | with_reducible apply below_drew1 | with_reducible apply below_alloc)); done)
    | (go_ret; refine ⟨rfl, ?_⟩; (repeat (first | exact HB2.out | with_reducible apply pw_below_drewN | with_reducible apply below_drew1 | with_reducible apply below_alloc)); done)
    | skip
  all_goals (
    have hgl5 : r7.f1.length ≤ 100000 := by have := HSZ.out; split at this <;> omega
    have hl56 : l.length ≤ 56 := HT.out.pr.le
    have HT0 := Aside0.mk (show Hold w2.heap.size l Al cl ((w7.alloc (treeO A7 x7.length c7)).alloc (resO r7 B7 b7 C7 d7)) from t_7.out.below (by repeat (first | exact Below.refl _ _ | with_reducible apply pw_below_drewN | with_reducible apply below_drew1 | with_reducible apply below_alloc)))
    have HN0 := Aside0.mk (show Hold w5.heap.size x5 A5 c5 ((w7.alloc (treeO A7 x7.length c7)).alloc (resO r7 B7 b7 C7 d7)) from next_7.out.below (by repeat (first | exact Below.refl _ _ | with_reducible apply pw_below_drewN | with_reducible apply below_drew1 | with_reducible apply below_alloc)))
    have HO0 := Aside0.mk (show HoldR (w4.heap.size + 1) r4 B4 b4 C4 d4 ((w7.alloc (treeO A7 x7.length c7)).alloc (resO r7 B7 b7 C7 d7)) from old_7.out.below (by repeat (first | exact Below.refl _ _ | with_reducible apply pw_below_drewN | with_reducible apply below_drew1 | with_reducible apply below_alloc)))
    have HG0 := Aside0.mk (HH7.out.laid (Below.refl _ _)).2
    clear hold0 hold1 hold2 hold3 hold4 hold5 hold6 holdp hr0 hr1 hr2 hr3 hr4 hr5 hr6 hrp ht htl hnext hnextl z1 z2 z3 z4
    go_loopw [19] (fun v19 wr => ∃ k : Nat, k ≤ r7.f1.length ∧ v19 = .int .i64 k ∧ Aside0 (Hold w2.heap.size l Al cl wr) ∧ Aside0 (Hold w5.heap.size x5 A5 c5 wr) ∧ Aside0 (HoldR (w4.heap.size + 1) r4 B4 b4 C4 d4 wr) ∧ Aside0 (HoldR (w7.heap.size + 1) r7 B7 b7 C7 d7 wr) ∧ Aside0 (Below w.heap.size w wr)) (fun v19 _ => r7.f1.length - (intOf v19).toNat)
    case atStart => exact ⟨0, by omega, rfl, HT0, HN0, HO0, HG0, ⟨by repeat (first | exact HB7.out | with_reducible apply pw_below_drewN | with_reducible apply below_drew1 | with_reducible apply below_alloc)⟩⟩
    case round =>
      clear HT0 HN0 HO0 HG0
      obtain ⟨k, hk, rfl, HTr, HNr, HO, HG, HB⟩ := hrel
      by_cases hlt : k < r7.f1.length
      · have hlti : (k : Int) < (r7.f1.length : Int) := by omega
        have hv := HGET.out k
        have hgl := HGL.out
        (first | (have hszp : (k : Int) < (M : Int) := (by omega); have hszb : decide ((k : Int) < (M : Int)) = true := decide_eq_true hszp) | (have hszp : (k : Int) < (r4.f1.length : Int) := (by omega); have hszb : decide ((k : Int) < (r4.f1.length : Int)) = true := decide_eq_true hszp))
        clear hgl
        obtain ⟨ad, rfl, hx⟩ := Kd.at_int HG.out.rows1 (k : Int) (by omega) hlti
        rw [Int.toNat_natCast] at hx
        rw [show r7.f1.getD k 0 = rd r7.f1 k from rfl] at hv
        obtain ⟨hg0, hg1, hg2, hg3, hg4, hg5, hg6⟩ := HG.out.cells
        obtain ⟨ho0, ho1, ho2, ho3, ho4, ho5, ho6⟩ := HO.out.cells
        clear hg0 hg2 hg3 hg4 hg5 ho0 ho2 ho3 ho4 ho5
        have hwant : ∃ y, rd r7.f1 k = y := ⟨_, rfl⟩
        by_cases h2 : a ≤ (k : Int)
        · have h2b : decide (a ≤ (k : Int)) = true := decide_eq_true h2
          by_cases h3 : (k : Int) - a < (d.length : Int)
          · try (exfalso; omega)
            all_goals (
            have h3b : decide ((k : Int) - a < (d.length : Int)) = true := decide_eq_true h3
            have h3c : 0 ≤ (k : Int) - a := by omega
            rw [if_pos ⟨by omega, by omega⟩] at hv
            have hki : ((k : Int) - a).toNat = k - a.toNat := by omega
            obtain ⟨bd, rfl, hy⟩ := Kd.at_int HRD.out ((k : Int) - a) (by omega) h3
            replace hy := (HB.out.cell (World.block_lt_of_cell? w _ hy)).trans hy
            have hq : (rd r7.f1 k != rd d ((k : Int) - a)) = false := bne_eq_false_iff_eq.mpr (by show rd r7.f1 k = d.getD ((k : Int) - a).toNat 0; rw [hki]; exact hv)
            generalize rd r7.f1 k = x at hx hq
            generalize rd d ((k : Int) - a) = y at hy hq
            clear hv hki
            by_cases h1 : (k : Int) < (r4.f1.length : Int)
            · have h1b : decide ((k : Int) < (r4.f1.length : Int)) = true := decide_eq_true h1
              obtain ⟨cd', rfl, hz⟩ := Kd.at_int HO.out.rows1 (k : Int) (by omega) h1
              rw [Int.toNat_natCast] at hz
              generalize rd r4.f1 k = z at hz
              go_wp2
              go_roundw
              case rel => exact ⟨k + 1, by omega, rfl, HTr, HNr, HO, HG, HB⟩
              case measure => simp [intOf]; omega
            · have h1b : decide ((k : Int) < (r4.f1.length : Int)) = false := decide_eq_false h1
              go_wp2
              go_roundw
              case rel => exact ⟨k + 1, by omega, rfl, HTr, HNr, HO, HG, HB⟩
              case measure => simp [intOf]; omega)
          · have h3b : decide ((k : Int) - a < (d.length : Int)) = false := decide_eq_false h3
            rw [if_neg (by omega)] at hv
            by_cases h1 : (k : Int) < (r4.f1.length : Int)
            · have h1b : decide ((k : Int) < (r4.f1.length : Int)) = true := decide_eq_true h1
              obtain ⟨cd', rfl, hz⟩ := Kd.at_int HO.out.rows1 (k : Int) (by omega) h1
              rw [Int.toNat_natCast] at hz
              have hq : (rd r7.f1 k != rd r4.f1 k) = false := bne_eq_false_iff_eq.mpr hv
              generalize rd r7.f1 k = x at hx hq
              generalize rd r4.f1 k = z at hz hq
              clear hv
              go_wp2
              go_roundw
              case rel => exact ⟨k + 1, by omega, rfl, HTr, HNr, HO, HG, HB⟩
              case measure => simp [intOf]; omega
            · try (exfalso; omega)
              all_goals (
              have h1b : decide ((k : Int) < (r4.f1.length : Int)) = false := decide_eq_false h1
              have hq : (rd r7.f1 k != 0) = false := bne_eq_false_iff_eq.mpr (by rw [hv, List.getD_eq_getElem?_getD, List.getElem?_eq_none (by omega)]; rfl)
              generalize rd r7.f1 k = x at hx hq
              clear hv
              go_wp2
              go_roundw
              case rel => exact ⟨k + 1, by omega, rfl, HTr, HNr, HO, HG, HB⟩
              case measure => simp [intOf]; omega)
        · have h2b : decide (a ≤ (k : Int)) = false := decide_eq_false h2
          rw [if_neg (by omega)] at hv
          by_cases h1 : (k : Int) < (r4.f1.length : Int)
          · have h1b : decide ((k : Int) < (r4.f1.length : Int)) = true := decide_eq_true h1
            obtain ⟨cd', rfl, hz⟩ := Kd.at_int HO.out.rows1 (k : Int) (by omega) h1
            rw [Int.toNat_natCast] at hz
            have hq : (rd r7.f1 k != rd r4.f1 k) = false := bne_eq_false_iff_eq.mpr hv
            generalize rd r7.f1 k = x at hx hq
            generalize rd r4.f1 k = z at hz hq
            clear hv
            go_wp2
            go_roundw
            case rel => exact ⟨k + 1, by omega, rfl, HTr, HNr, HO, HG, HB⟩
            case measure => simp [intOf]; omega
          · try (exfalso; omega)
            all_goals (
            have h1b : decide ((k : Int) < (r4.f1.length : Int)) = false := decide_eq_false h1
            have hq : (rd r7.f1 k != 0) = false := bne_eq_false_iff_eq.mpr (by rw [hv, List.getD_eq_getElem?_getD, List.getElem?_eq_none (by omega)]; rfl)
            generalize rd r7.f1 k = x at hx hq
            clear hv
            go_wp2
            go_roundw
            case rel => exact ⟨k + 1, by omega, rfl, HTr, HNr, HO, HG, HB⟩
            case measure => simp [intOf]; omega)
      · have hgl := HGL.out
        (first | (have hszp : ¬ (k : Int) < (M : Int) := (by omega)) | (have hszp : ¬ (k : Int) < (r4.f1.length : Int) := (by omega)))
        clear hgl
        obtain ⟨ht, htl⟩ := HTr.out.cells
        obtain ⟨hn, hnl⟩ := HNr.out.cells
        go_wp2_with (first
          | (go_at_call 32; (with_reducible refine (find_ok Al cl l p _ HTr.out.rows HTr.out.cap HT.out (by have := HL.out trivial; omega)).mono ?_); rintro e w8 ⟨rfl, hb⟩; have HF := Aside0.mk hb; clear hb; generalize hs : findF l p = s; obtain ⟨kk, ek⟩ := s; have HS := Aside0.mk hs; clear hs; dsimp only))
        have HK := Aside0.mk (show ∀ j : Nat, (j : Int) ≠ kk → (nd x5 j).f2 = (nd l j).f2 by
          obtain ⟨k0, h1, h2⟩ := HOTH.out.2
          rw [HS.out] at h1
          intro j hj
          exact h2 j (fun h => hj (by rw [h]; exact h1.symm)))
        have HT8 := Aside0.mk (HTr.out.below HF.out)
        have HN8 := Aside0.mk (HNr.out.below HF.out)
        have HB8 := Aside0.mk (below_step HB.out HF.out)
        go_loopw [23] (fun v23 wq => ∃ j : Nat, j ≤ l.length ∧ v23 = .int .i64 j ∧ Aside0 (Hold w2.heap.size l Al cl wq) ∧ Aside0 (Hold w5.heap.size x5 A5 c5 wq) ∧ Aside0 (Below w.heap.size w wq)) (fun v23 _ => l.length - (intOf v23).toNat)
        case atStart => exact ⟨0, by omega, rfl, HT8, HN8, HB8⟩
        case round =>
          clear HTr HNr HB HT8 HN8 HB8
          obtain ⟨j, hj, rfl, HTr, HNr, HB⟩ := hrel
          obtain ⟨ht, htl⟩ := HTr.out.cells
          obtain ⟨hn, hnl⟩ := HNr.out.cells
          by_cases hjl : j < l.length
          · have hji : (j : Int) < (l.length : Int) := by omega
            have hji5 : (j : Int) < (x5.length : Int) := by have := HOTH.out.1; omega
            cases hjk : ((j : Int) != kk) with
            | false =>
              go_wp2
              go_quiet (fail)
              go_wp2
              go_roundw
              case rel => exact ⟨j + 1, by omega, rfl, ⟨HTr.out.below (by repeat (first | exact Below.refl _ _ | with_reducible apply pw_below_drewN | with_reducible apply below_drew1 | with_reducible apply below_alloc))⟩, ⟨HNr.out.below (by repeat (first | exact Below.refl _ _ | with_reducible apply pw_below_drewN | with_reducible apply below_drew1 | with_reducible apply below_alloc))⟩, ⟨by repeat (first | exact HB.out | with_reducible apply pw_below_drewN | with_reducible apply below_drew1 | with_reducible apply below_alloc)⟩⟩
              case measure => simp [intOf]; omega
            | true =>
              have hsame := HK.out j (bne_iff_ne.1 hjk)
              obtain ⟨ad, A2, g2, A3, g3, rfl, hx0, hx1, hx2, hx3, hl2, hC2, hl3, hC3⟩ := at_T58 HTr.out.rows (j : Int) (by omega) hji
              obtain ⟨bd, B2, e2, B3, e3, rfl, hy0, hy1, hy2, hy3, hm2, hD2, hm3, hD3⟩ := at_T58 HNr.out.rows (j : Int) (by omega) hji5
              rw [Int.toNat_natCast] at hx2 hy2
              rw [show nd l j = rd_T58 l (j : Int) from rfl, show nd x5 j = rd_T58 x5 (j : Int) from rfl] at hsame
              have hsml := ((rt_small HT.out).2 j).1
              rw [show nd l j = rd_T58 l (j : Int) from rfl] at hsml
              clear hx0 hx1 hx3 hy0 hy1 hy3 hl3 hC3 hm3 hD3
              generalize rd_T58 l (j : Int) = x at hx2 hl2 hC2 hsame hsml
              generalize rd_T58 x5 (j : Int) = y at hy2 hm2 hD2 hsame
              have HC2 := Aside0.mk hC2
              have HD2 := Aside0.mk hD2
              have HSA := Aside0.mk hsame
              clear hC2 hD2 hsame
              go_wp2
              go_region_held3 (fun w' => w'.cell? ⟨w2.heap.size, 0, none⟩ = some (.slice (some ad) l.length cl) ∧ w'.cell? ⟨w5.heap.size, 0, none⟩ = some (.slice (some bd) x5.length c5) ∧ w'.cell? ⟨(ad.add (j * 4)).block, (ad.add (j * 4)).off + 2, none⟩ = some (.slice A2 x.f2.length g2) ∧ w'.cell? ⟨(bd.add (j * 4)).block, (bd.add (j * 4)).off + 2, none⟩ = some (.slice B2 y.f2.length e2)) (go_keep)
                (first | (go_at_call 33; (with_reducible refine (samebytes_walk A2 g2 x.f2 B2 e2 y.f2 _ (Kd.C_below HC2.out (by repeat (first | exact Below.refl _ _ | with_reducible apply pw_below_drewN | with_reducible apply below_drew1 | with_reducible apply below_alloc))) hl2 (Kd.C_below HD2.out (by repeat (first | exact Below.refl _ _ | with_reducible apply pw_below_drewN | with_reducible apply below_drew1 | with_reducible apply below_alloc))) hm2 hsml).mono ?_); rintro e w9 ⟨⟨rb, rfl, hrb⟩, hb⟩; obtain rfl : rb = true := hrb.2 HSA.out.symm; have HX := Aside0.mk (show Below wr.heap.size wr w9 from below_step (by repeat (first | exact Below.refl _ _ | with_reducible apply pw_below_drewN | with_reducible apply below_drew1 | with_reducible apply below_alloc)) hb); have k1 := (HX.out.cell (World.block_lt_of_cell? _ _ ht)).trans ht; have k2 := (HX.out.cell (World.block_lt_of_cell? _ _ hn)).trans hn; have k3 := (HX.out.cell (World.block_lt_of_cell? _ _ hx2)).trans hx2; have k4 := (HX.out.cell (World.block_lt_of_cell? _ _ hy2)).trans hy2; clear hrb hb))
              go_wp2
              go_roundw
              case rel => exact ⟨j + 1, by omega, rfl, ⟨HTr.out.below (by repeat (first | exact HX.out | with_reducible apply pw_below_drewN | with_reducible apply below_drew1 | with_reducible apply below_alloc))⟩, ⟨HNr.out.below (by repeat (first | exact HX.out | with_reducible apply pw_below_drewN | with_reducible apply below_drew1 | with_reducible apply below_alloc))⟩, ⟨below_step HB.out (by repeat (first | exact HX.out | with_reducible apply pw_below_drewN | with_reducible apply below_drew1 | with_reducible apply below_alloc))⟩⟩
              case measure => simp [intOf]; omega
          · have hlb : ((l.length : Int) == (x5.length : Int)) = true := beq_iff_eq.2 (by have := HOTH.out.1; omega)
            go_wp2
            go_ret
            exact ⟨rfl, HB.out⟩)
end Go.Proofs.YtllfjmmdackgdaaDoor.PZ
end
