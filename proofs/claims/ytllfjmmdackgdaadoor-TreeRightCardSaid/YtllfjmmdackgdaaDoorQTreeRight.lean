/- What the statement TreeRightCardSaid alone wants beside the common texts M..: the walk of the law's own Go function and its plain facts. No condition but those in the theorems. -/
import Derived.Test.YtllfjmmdackgdaaDoorM00
import Derived.Test.YtllfjmmdackgdaaDoorM01
import Derived.Test.YtllfjmmdackgdaaDoorM02
import Derived.Test.YtllfjmmdackgdaaDoorM03
import Derived.Test.YtllfjmmdackgdaaDoorM04
import Derived.Test.YtllfjmmdackgdaaDoorM05
import Derived.Test.YtllfjmmdackgdaaDoorM06
import Derived.Test.YtllfjmmdackgdaaDoorM07
import Derived.Test.YtllfjmmdackgdaaDoorM08
import Derived.Test.YtllfjmmdackgdaaDoorM09
import Derived.Test.YtllfjmmdackgdaaDoorM10
import Derived.Test.YtllfjmmdackgdaaDoorM11
import Derived.Test.YtllfjmmdackgdaaDoorM12
import Derived.Test.YtllfjmmdackgdaaDoorM13
import Derived.Test.YtllfjmmdackgdaaDoorM14
import Derived.Test.YtllfjmmdackgdaaDoorM15
import Derived.Test.YtllfjmmdackgdaaDoorM16
import Derived.Test.YtllfjmmdackgdaaDoorM17
import Derived.Test.YtllfjmmdackgdaaDoorM18
import Derived.Test.YtllfjmmdackgdaaDoorM19
import Derived.Test.YtllfjmmdackgdaaDoorM20
import Derived.Test.YtllfjmmdackgdaaDoorM21
import Derived.Test.YtllfjmmdackgdaaDoorM22
import Derived.Test.YtllfjmmdackgdaaDoorM23
import Derived.Test.YtllfjmmdackgdaaDoorM24
import Derived.Test.YtllfjmmdackgdaaDoorM25
import Derived.Test.YtllfjmmdackgdaaDoorM26
import Derived.Test.YtllfjmmdackgdaaDoorM27
import Derived.Test.YtllfjmmdackgdaaDoorM28
import Derived.Test.YtllfjmmdackgdaaDoorM29
import Derived.Test.YtllfjmmdackgdaaDoorM30
import Derived.Test.YtllfjmmdackgdaaDoorM31
import Derived.Test.YtllfjmmdackgdaaDoorM32
import Derived.Test.YtllfjmmdackgdaaDoorM33
import Derived.Test.YtllfjmmdackgdaaDoorM34
import Derived.Test.YtllfjmmdackgdaaDoorM35
import Derived.Test.YtllfjmmdackgdaaDoorM36
import Derived.Test.YtllfjmmdackgdaaDoorM37
import Derived.Test.YtllfjmmdackgdaaDoorM38
import Derived.Test.YtllfjmmdackgdaaDoorM39
set_option linter.unusedVariables false
set_option linter.unusedSimpArgs false
/-! OpenP -/
section
namespace Go.Proofs.YtllfjmmdackgdaaDoor.OpenO
open Go.RowKit Go.ChangeShapes Go.WideShapes Go.Deep Go.Joins Go.ChangeAt Go.Proofs.YtllfjmmdackgdaaDoorW.PrintWords Go.Proofs.YtllfjmmdackgdaaDoor.PZ
set_option linter.unusedVariables false
set_option maxRecDepth 100000
theorem array6 {α : Type} {cs : Array α} (h : cs.size = 6) : ∃ c0 c1 c2 c3 c4 c5, cs = #[c0, c1, c2, c3, c4, c5] := by
  obtain ⟨l⟩ := cs
  match l, h with
  | [c0, c1, c2, c3, c4, c5], _ => exact ⟨c0, c1, c2, c3, c4, c5, rfl⟩
section
variable {H : Type} {enc : TypeId × Value → H} {P : Program} {w : World} {base : Nat} {spare : Nat → Bool} {held : Bool}
theorem open_agg_n {r : Reach} {b0 : Nat} {t : TypeId} {fs : Array Field} {v : Value} {d : DataW H} {p : List MemPlace} (hs : P.underlying t = some (.struct fs)) (hone : oneCellFields P fs = true) (hC : P.cellsOf t = fs.size)
    (hv : Value.okWide P w r b0 t v) (h : DataW.Trod enc P w base spare held t v d p) :
    ∃ (cs : Array Value) (n : Nat), v = .agg cs ∧ cs.size = fs.size ∧ ∀ (j : Nat) (f : Field), fs[j]? = some f → ∃ (u : Value) (y : DataW H × List MemPlace), cs[j]? = some u ∧ DataW.trod enc P w base spare held n f.type [u] = some y := by
  obtain ⟨cs, rfl, hsz⟩ := okWide_struct hs hv
  obtain ⟨fuel, hf⟩ := h
  obtain ⟨ys, n, hn, hy, hlen, hyl, hF⟩ := DataW.trod_struct hs hf
  refine ⟨cs, n, rfl, hsz.trans hC, fun j f hj => ?_⟩
  obtain ⟨ho, hk⟩ := hone_of hone j f hj
  have hjl : j < fs.size := (Array.getElem?_eq_some_iff.1 hj).1
  have hjc : j < cs.size := by omega
  have h1 := hF j f hj
  rw [ho, hk] at h1
  have hcl : (Value.agg cs).cells.toList = cs.toList := rfl
  have hone' : (cs.toList.drop j).take 1 = [cs[j]'hjc] := by
    rw [List.drop_eq_getElem_cons (by simpa using hjc)]
    rfl
  rw [hcl, hone'] at h1
  have hys : ys[j]? = some (ys[j]'(by omega)) := List.getElem?_eq_getElem (by omega)
  exact ⟨_, _, Array.getElem?_eq_getElem hjc, h1.trans hys⟩
end
section
variable {H : Type} {enc : TypeId × Value → H} {w : World} {base : Nat} {spare : Nat → Bool} {held : Bool}
theorem op_open {r : Reach} {b0 : Nat} {v : Value} {d : DataW H} {ps : List MemPlace} (hv : Value.okWide Tryd.prog w r b0 39 v) (h : DataW.Trod enc Tryd.prog w base spare held 39 v d ps) :
    ∃ (k : Int) (p q : ByteArray) (a n : Int) (A : Option Addr) (c : Nat) (l : List Int), v = .agg #[.int .i64 k, .string p, .string q, .int .i64 a, .int .i64 n, .slice A l.length c] ∧ l.length ≤ c ∧ Kd.C (Kd.int .u8) w A l.length l := by
  obtain ⟨cs, m, rfl, hsz, hF⟩ := open_agg_n Tryd.underlying39 (by kernel_rfl) (by kernel_rfl) hv h
  obtain ⟨c0, c1, c2, c3, c4, c5, rfl⟩ := array6 hsz
  obtain ⟨u0, y0, h0, ht0⟩ := hF 0 _ rfl
  obtain ⟨u1, y1, h1, ht1⟩ := hF 1 _ rfl
  obtain ⟨u2, y2, h2, ht2⟩ := hF 2 _ rfl
  obtain ⟨u3, y3, h3, ht3⟩ := hF 3 _ rfl
  obtain ⟨u4, y4, h4, ht4⟩ := hF 4 _ rfl
  obtain ⟨u5, y5, h5, ht5⟩ := hF 5 _ rfl
  obtain rfl := Option.some.inj h0
  obtain rfl := Option.some.inj h1
  obtain rfl := Option.some.inj h2
  obtain rfl := Option.some.inj h3
  obtain rfl := Option.some.inj h4
  obtain rfl := Option.some.inj h5
  obtain ⟨k0, e0, -, -⟩ := DataW.trod_int Tryd.underlying3 ht0
  obtain ⟨s1, e1, -, -⟩ := DataW.trod_string Tryd.underlying9 ht1
  obtain ⟨s2, e2, -, -⟩ := DataW.trod_string Tryd.underlying9 ht2
  obtain ⟨k3, e3, -, -⟩ := DataW.trod_int Tryd.underlying3 ht3
  obtain ⟨k4, e4, -, -⟩ := DataW.trod_int Tryd.underlying3 ht4
  obtain ⟨A5, c5, d5, rfl, hl5, hC5⟩ := bytes_cell ht5
  simp only [List.cons.injEq, and_true] at e0 e1 e2 e3 e4
  subst e0; subst e1; subst e2; subst e3; subst e4
  exact ⟨k0, s1, s2, k3, k4, A5, c5, d5, rfl, hl5, hC5⟩
end
end Go.Proofs.YtllfjmmdackgdaaDoor.OpenO
end
/-! GLTreeRight -/
section
namespace Go.Proofs.YtllfjmmdackgdaaDoor.PZ
open Go.RowKit Go.Proofs.YtllfjmmdackgdaaDoorW.PrintWords Go.Proofs.YtllfjmmdackgdaaDoorW.PrintLast Go.Proofs.YtllfjmmdackgdaaDoorW.PrintMore Go.Proofs.YtllfjmmdackgdaaDoor.B Go.Proofs.YtllfjmmdackgdaaDoor.Ord TD
set_option maxRecDepth 100000
set_option linter.unusedVariables false
set_option linter.unusedSimpArgs false
set_option maxHeartbeats 8000000 in
theorem right_law_walk (A : Option Addr) (c : Nat) (ops : List S39) (k0 : Int) (p q : ByteArray) (a n : Int) (Ad : Option Addr) (cd : Nat) (d : List Int) (w : World) (hr : Kd.C k39 w A ops.length ops) (hc : ops.length ≤ c) (hrd : Kd.C (Kd.int .u8) w Ad d.length d) (hcd : d.length ≤ cd) :
    Calls Tryd.prog 7 #[.slice A ops.length c, .agg #[.int .i64 k0, .string p, .string q, .int .i64 a, .int .i64 n, .slice Ad d.length cd]] w fun e w' => e = .returned (.bool true) ∧ Below w.heap.size w w' := by
  have HR := Aside0.mk hr
  have HRD := Aside0.mk hrd
  clear hr hrd
  go_enter Tryd.func7, Tryd.ntmps7
  go_wp2_with (first
    | (go_at_call 26; (with_reducible refine (alive_walk _).mono ?_); rintro e w1 ⟨rfl, hb⟩; have o_1 := Aside0.mk (show HoldO w.heap.size (.int .i64 k0) (.string p) (.string q) (.int .i64 a) (.int .i64 n) (.slice Ad d.length cd) w1 from ⟨blk_below (blk_new w (.cells #[.int .i64 k0, .string p, .string q, .int .i64 a, .int .i64 n, .slice Ad d.length cd] 39)) hb⟩); have HB1 := Aside0.mk (below_step (w := w) (by repeat (first | exact Below.refl _ _ | with_reducible apply pw_below_drewN | with_reducible apply below_drew1 | with_reducible apply below_alloc)) hb); clear hb)
    | (go_at_call 27; (with_reducible refine (made_walk A c ops _ (Kd.C_below HR.out HB1.out) hc).mono ?_); rintro e w2 ⟨l, Al, cl, b, rfl, ht, hcl, hC, hb⟩; have HT := Aside0.mk ht; have HH := Aside0.mk (And.intro hcl hC); clear ht hcl hC; have o_2 := Aside0.mk (o_1.out.below (below_step (by repeat (first | exact Below.refl _ _ | with_reducible apply pw_below_drewN | with_reducible apply below_drew1 | with_reducible apply below_alloc)) hb)); have HB2 := Aside0.mk (below_step (w := w) (by repeat (first | exact HB1.out | with_reducible apply pw_below_drewN | with_reducible apply below_drew1 | with_reducible apply below_alloc)) hb); obtain ⟨ho0, ho1, ho2, ho3, ho4, ho5, ho6⟩ := o_2.out.cells; clear hb; cases b)
    | (go_at_call 28; (with_reducible refine (long_call k0 p q a n Ad d.length cd d rfl _).mono ?_); rintro e w3 ⟨⟨rL, rfl, hL⟩, hb⟩; have HL := Aside0.mk hL; clear hL; have o_3 := Aside0.mk (o_2.out.below (below_step (by repeat (first | exact Below.refl _ _ | with_reducible apply pw_below_drewN | with_reducible apply below_drew1 | with_reducible apply below_alloc)) hb)); have t_3 := Aside0.mk (show Hold w2.heap.size l Al cl w3 from (show Hold w2.heap.size l Al cl (w2.alloc (.cells #[.slice Al l.length cl] 42)) from ⟨blk_new w2 _, HH.out.1, Kd.C_alloc HH.out.2 _⟩).below (below_step (by repeat (first | exact Below.refl _ _ | with_reducible apply pw_below_drewN | with_reducible apply below_drew1 | with_reducible apply below_alloc)) hb)); have HB3 := Aside0.mk (below_step (w := w) (by repeat (first | exact HB2.out | with_reducible apply pw_below_drewN | with_reducible apply below_drew1 | with_reducible apply below_alloc)) hb); clear ho0 ho1 ho2 ho3 ho4 ho5 ho6; obtain ⟨ht, htl⟩ := t_3.out.cells; obtain ⟨ho0, ho1, ho2, ho3, ho4, ho5, ho6⟩ := o_3.out.cells; clear hb; cases rL)
    | (go_at_call 29; (with_reducible refine (do_call Al l.length cl l rfl k0 p q a n Ad d.length cd d rfl _ (Kd.C_below t_3.out.rows (by repeat (first | exact Below.refl _ _ | with_reducible apply pw_below_drewN | with_reducible apply below_drew1 | with_reducible apply below_alloc))) t_3.out.cap (Kd.C_below HRD.out (by repeat (first | exact HB3.out | with_reducible apply pw_below_drewN | with_reducible apply below_drew1 | with_reducible apply below_alloc))) hcd HT.out (by have := HL.out trivial; omega) (by have := HL.out trivial; omega)).mono ?_); rintro e w4 h; generalize hs : doF l ⟨k0, p, q, a, n, d⟩ = s at h; obtain ⟨x4, r4⟩ := s; have S4 := Aside0.mk hs; clear hs; obtain ⟨A4, c4, B4, b4, C4, d4, rfl, hh, hb⟩ := h; have HH4 := Aside0.mk hh; clear hh; have HT4 := Aside0.mk (show Rt x4 by have h := do_rt HT.out ⟨k0, p, q, a, n, d⟩; rwa [S4.out] at h); have o_4 := Aside0.mk (o_3.out.below (below_step (by repeat (first | exact Below.refl _ _ | with_reducible apply pw_below_drewN | with_reducible apply below_drew1 | with_reducible apply below_alloc)) hb)); have t_4 := Aside0.mk (t_3.out.below (below_step (by repeat (first | exact Below.refl _ _ | with_reducible apply pw_below_drewN | with_reducible apply below_drew1 | with_reducible apply below_alloc)) hb)); have HB4 := Aside0.mk (below_step (w := w) (by repeat (first | exact HB3.out | with_reducible apply pw_below_drewN | with_reducible apply below_drew1 | with_reducible apply below_alloc)) hb); clear ht htl ho0 ho1 ho2 ho3 ho4 ho5 ho6; obtain ⟨ht, htl⟩ := t_4.out.cells; clear hb)
    | (go_at_call 30; (with_reducible refine (right_walk Al cl l _ t_4.out.cap (Kd.C_below t_4.out.rows (by repeat (first | exact Below.refl _ _ | with_reducible apply pw_below_drewN | with_reducible apply below_drew1 | with_reducible apply below_alloc))) (rt_small HT.out).1 (fun k => ((rt_small HT.out).2 k).2)).mono ?_); rintro e w5 ⟨rfl, hb⟩; rw [(right_iff l).2 HT.out]; have o_5 := Aside0.mk (o_4.out.below (below_step (by repeat (first | exact Below.refl _ _ | with_reducible apply pw_below_drewN | with_reducible apply below_drew1 | with_reducible apply below_alloc)) hb)); have t_5 := Aside0.mk (t_4.out.below (below_step (by repeat (first | exact Below.refl _ _ | with_reducible apply pw_below_drewN | with_reducible apply below_drew1 | with_reducible apply below_alloc)) hb)); have u_5 := Aside0.mk (HH4.out.laid hb).1; have r_5 := Aside0.mk (HH4.out.laid hb).2; have HB5 := Aside0.mk (below_step (w := w) (by repeat (first | exact HB4.out | with_reducible apply pw_below_drewN | with_reducible apply below_drew1 | with_reducible apply below_alloc)) hb); clear ht htl; obtain ⟨hu, hul⟩ := u_5.out.cells; clear hb)
    | (go_at_call 30; (with_reducible refine (right_walk A4 c4 x4 _ u_5.out.cap (Kd.C_below u_5.out.rows (by repeat (first | exact Below.refl _ _ | with_reducible apply pw_below_drewN | with_reducible apply below_drew1 | with_reducible apply below_alloc))) (rt_small HT4.out).1 (fun k => ((rt_small HT4.out).2 k).2)).mono ?_); rintro e w6 ⟨rfl, hb⟩; rw [(right_iff x4).2 HT4.out]; have o_6 := Aside0.mk (o_5.out.below (below_step (by repeat (first | exact Below.refl _ _ | with_reducible apply pw_below_drewN | with_reducible apply below_drew1 | with_reducible apply below_alloc)) hb)); have t_6 := Aside0.mk (t_5.out.below (below_step (by repeat (first | exact Below.refl _ _ | with_reducible apply pw_below_drewN | with_reducible apply below_drew1 | with_reducible apply below_alloc)) hb)); have u_6 := Aside0.mk (u_5.out.below (below_step (by repeat (first | exact Below.refl _ _ | with_reducible apply pw_below_drewN | with_reducible apply below_drew1 | with_reducible apply below_alloc)) hb)); have r_6 := Aside0.mk (r_5.out.below (below_step (by repeat (first | exact Below.refl _ _ | with_reducible apply pw_below_drewN | with_reducible apply below_drew1 | with_reducible apply below_alloc)) hb)); have HB6 := Aside0.mk (below_step (w := w) (by repeat (first | exact HB5.out | with_reducible apply pw_below_drewN | with_reducible apply below_drew1 | with_reducible apply below_alloc)) hb); clear hu hul; obtain ⟨ht, htl⟩ := t_6.out.cells; obtain ⟨hu, hul⟩ := u_6.out.cells; obtain ⟨hr0, hr1, hr2, hr3, hr4, hr5, hr6⟩ := r_6.out.cells; have hrp := Nat.lt_of_succ_lt hr6; clear hb; cases hzb : (r4.f0 == 0))
    | (go_at_call 31; (with_reducible refine (sametree_walk Al cl l A4 c4 x4 _ (Kd.C_below t_6.out.rows (by repeat (first | exact Below.refl _ _ | with_reducible apply pw_below_drewN | with_reducible apply below_drew1 | with_reducible apply below_alloc))) t_6.out.cap (Kd.C_below u_6.out.rows (by repeat (first | exact Below.refl _ _ | with_reducible apply pw_below_drewN | with_reducible apply below_drew1 | with_reducible apply below_alloc))) u_6.out.cap (rt_small HT.out).1 (rt_small HT.out).2).mono ?_); rintro e w7 ⟨⟨q7, rfl, hq⟩, hb⟩; have HLAW := Aside0.mk (show x4 = l ∧ r4 = { res0 with f0 := r4.f0 } by have h := err_same (l := l) (o := ⟨k0, p, q, a, n, d⟩) (by rw [S4.out]; exact beq_eq_false_iff_ne.1 hzb); rw [S4.out] at h; exact h); obtain rfl : q7 = true := hq.2 HLAW.out.1.symm; have o_7 := Aside0.mk (o_6.out.below (below_step (by repeat (first | exact Below.refl _ _ | with_reducible apply pw_below_drewN | with_reducible apply below_drew1 | with_reducible apply below_alloc)) hb)); have t_7 := Aside0.mk (t_6.out.below (below_step (by repeat (first | exact Below.refl _ _ | with_reducible apply pw_below_drewN | with_reducible apply below_drew1 | with_reducible apply below_alloc)) hb)); have u_7 := Aside0.mk (u_6.out.below (below_step (by repeat (first | exact Below.refl _ _ | with_reducible apply pw_below_drewN | with_reducible apply below_drew1 | with_reducible apply below_alloc)) hb)); have r_7 := Aside0.mk (r_6.out.below (below_step (by repeat (first | exact Below.refl _ _ | with_reducible apply pw_below_drewN | with_reducible apply below_drew1 | with_reducible apply below_alloc)) hb)); have HB7 := Aside0.mk (below_step (w := w) (by repeat (first | exact HB6.out | with_reducible apply pw_below_drewN | with_reducible apply below_drew1 | with_reducible apply below_alloc)) hb); have z1 : ((r4.f1.length : Int) == 0) = true := (by rw [HLAW.out.2]; rfl); have z2 : ((r4.f2.length : Int) == 0) = true := (by rw [HLAW.out.2]; rfl); have z3 : (r4.f3 == 0) = true := (by rw [HLAW.out.2]; rfl); have z4 : (r4.f4 == 0) = true := (by rw [HLAW.out.2]; rfl); have z5 : (r4.f5 == 0) = true := (by rw [HLAW.out.2]; rfl); clear hq; clear ht htl hu hul hr0 hr1 hr2 hr3 hr4 hr5 hr6 hrp; obtain ⟨hr0, hr1, hr2, hr3, hr4, hr5, hr6⟩ := r_7.out.cells; have hrp := Nat.lt_of_succ_lt hr6; clear hb))
  all_goals first
    | (go_ret; refine ⟨rfl, ?_⟩; (repeat (first | exact HB7.out | with_reducible apply pw_below_drewN | with_reducible apply below_drew1 | with_reducible apply below_alloc)); done)
    | (go_ret; refine ⟨rfl, ?_⟩; (repeat (first | exact HB6.out | with_reducible apply pw_below_drewN | with_reducible apply below_drew1 | with_reducible apply below_alloc)); done)
    | (go_ret; refine ⟨rfl, ?_⟩; (repeat (first | exact HB3.out | with_reducible apply pw_below_drewN | with_reducible apply below_drew1 | with_reducible apply below_alloc)); done)
    | (go_ret; refine ⟨rfl, ?_⟩; (repeat (first | exact HB2.out | with_reducible apply pw_below_drewN | with_reducible apply below_drew1 | with_reducible apply below_alloc)); done)
    | (trace_state; skip)
end Go.Proofs.YtllfjmmdackgdaaDoor.PZ
end
