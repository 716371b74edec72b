import Derived.Test.YtllfjmmdackgdaaDoorM36
set_option linter.unusedVariables false
set_option linter.unusedSimpArgs false
/-! GSmall -/
section
namespace Go.Proofs.YtllfjmmdackgdaaDoor.PZ
open Go.RowKit Go.Proofs.YtllfjmmdackgdaaDoorW.PrintWords Go.Proofs.YtllfjmmdackgdaaDoorW.PrintLast Go.Proofs.YtllfjmmdackgdaaDoorW.PrintMore Go.Proofs.YtllfjmmdackgdaaDoor.B Go.Proofs.YtllfjmmdackgdaaDoor.Ord TD
set_option maxRecDepth 100000
set_option linter.unusedVariables false
set_option linter.unusedSimpArgs false
set_option maxHeartbeats 2000000 in
theorem sameresult_walk (A1 : Option Addr) (c1 : Nat) (A2 : Option Addr) (c2 : Nat) (x : S47) (B1 : Option Addr) (d1 : Nat) (B2 : Option Addr) (d2 : Nat) (y : S47) (w : World) (h1 : Kd.C (Kd.int .u8) w A1 x.f1.length x.f1) (h1c : x.f1.length ≤ c1) (h2 : Kd.C Kd.string w A2 x.f2.length x.f2) (h2c : x.f2.length ≤ c2) (k1 : Kd.C (Kd.int .u8) w B1 y.f1.length y.f1) (k1c : y.f1.length ≤ d1) (k2 : Kd.C Kd.string w B2 y.f2.length y.f2) (k2c : y.f2.length ≤ d2) (hn1 : x.f1.length < 1000000000000) (hn2 : x.f2.length < 1000000000000) :
    Calls Tryd.prog 34 #[.agg #[.int .i64 x.f0, .slice A1 x.f1.length c1, .slice A2 x.f2.length c2, .int .i64 x.f3, .int .i64 x.f4, .int .i64 x.f5], .agg #[.int .i64 y.f0, .slice B1 y.f1.length d1, .slice B2 y.f2.length d2, .int .i64 y.f3, .int .i64 y.f4, .int .i64 y.f5]] w fun e w' => (∃ r, e = .returned (.bool r) ∧ (r = true ↔ x = y)) ∧ Below w.heap.size w w' := by
  obtain ⟨x0, x1, x2, x3, x4, x5⟩ := x
  obtain ⟨y0, y1, y2, y3, y4, y5⟩ := y
  dsimp only at *
  have H1 := Aside0.mk h1
  have H2 := Aside0.mk h2
  have K1 := Aside0.mk k1
  have K2 := Aside0.mk k2
  clear h1 h2 k1 k2
  by_cases q0 : x0 = y0
  · have b0 : (x0 == y0) = true := beq_iff_eq.2 q0
    by_cases q3 : x3 = y3
    · have b3 : (x3 == y3) = true := beq_iff_eq.2 q3
      by_cases q4 : x4 = y4
      · have b4 : (x4 == y4) = true := beq_iff_eq.2 q4
        by_cases q5 : x5 = y5
        · have b5 : (x5 == y5) = true := beq_iff_eq.2 q5
          by_cases q1 : x1 = y1
          · have E1 := Aside0.mk q1
            by_cases q2 : x2 = y2
            · have E2 := Aside0.mk q2
              have HT := Aside0.mk (show S47.mk x0 x1 x2 x3 x4 x5 = S47.mk y0 y1 y2 y3 y4 y5 by rw [q0, q3, q4, q5, q1, q2])
              clear q0 q1 q2 q3 q4 q5
              go_enter Tryd.func34, Tryd.ntmps34
              go_wp2_with (first | (go_at_call 33; (with_reducible refine (samebytes_walk A1 c1 x1 B1 d1 y1 _ (Kd.C_below H1.out (by repeat (first | exact Below.refl _ _ | with_reducible apply pw_below_drewN | with_reducible apply below_drew1 | with_reducible apply below_alloc))) h1c (Kd.C_below K1.out (by repeat (first | exact Below.refl _ _ | with_reducible apply pw_below_drewN | with_reducible apply below_drew1 | with_reducible apply below_alloc))) k1c hn1).mono ?_); rintro e w2 ⟨⟨r, rfl, hr⟩, hb⟩; obtain rfl : r = true := hr.2 E1.out; obtain ⟨hbc, hbf⟩ := bcell hb; have hsz := hb.size; (try simp at hsz); have HB2 := Aside0.mk (below_step (w := w) (by repeat (first | exact Below.refl _ _ | with_reducible apply pw_below_drewN | with_reducible apply below_drew1 | with_reducible apply below_alloc)) hb); clear hb hr) | (go_at_call 20; (with_reducible refine (sametexts_walk A2 c2 x2 B2 d2 y2 _ (Kd.C_below H2.out (by repeat (first | exact HB2.out | with_reducible apply pw_below_drewN | with_reducible apply below_drew1 | with_reducible apply below_alloc))) h2c (Kd.C_below K2.out (by repeat (first | exact HB2.out | with_reducible apply pw_below_drewN | with_reducible apply below_drew1 | with_reducible apply below_alloc))) k2c hn2).mono ?_); rintro e w3 ⟨⟨r, rfl, hr⟩, hb⟩; obtain rfl : r = true := hr.2 E2.out; have HB3 := Aside0.mk (below_step (w := w) (by repeat (first | exact HB2.out | with_reducible apply pw_below_drewN | with_reducible apply below_drew1 | with_reducible apply below_alloc)) hb); clear hb hr))
              go_ret
              exact ⟨⟨true, rfl, iff_of_true rfl HT.out⟩, HB3.out⟩
            · have E2 := Aside0.mk q2
              have HT := Aside0.mk (fun h : S47.mk x0 x1 x2 x3 x4 x5 = S47.mk y0 y1 y2 y3 y4 y5 => q2 (by injection h))
              clear q0 q1 q2 q3 q4 q5
              go_enter Tryd.func34, Tryd.ntmps34
              go_wp2_with (first | (go_at_call 33; (with_reducible refine (samebytes_walk A1 c1 x1 B1 d1 y1 _ (Kd.C_below H1.out (by repeat (first | exact Below.refl _ _ | with_reducible apply pw_below_drewN | with_reducible apply below_drew1 | with_reducible apply below_alloc))) h1c (Kd.C_below K1.out (by repeat (first | exact Below.refl _ _ | with_reducible apply pw_below_drewN | with_reducible apply below_drew1 | with_reducible apply below_alloc))) k1c hn1).mono ?_); rintro e w2 ⟨⟨r, rfl, hr⟩, hb⟩; obtain rfl : r = true := hr.2 E1.out; obtain ⟨hbc, hbf⟩ := bcell hb; have hsz := hb.size; (try simp at hsz); have HB2 := Aside0.mk (below_step (w := w) (by repeat (first | exact Below.refl _ _ | with_reducible apply pw_below_drewN | with_reducible apply below_drew1 | with_reducible apply below_alloc)) hb); clear hb hr) | (go_at_call 20; (with_reducible refine (sametexts_walk A2 c2 x2 B2 d2 y2 _ (Kd.C_below H2.out (by repeat (first | exact HB2.out | with_reducible apply pw_below_drewN | with_reducible apply below_drew1 | with_reducible apply below_alloc))) h2c (Kd.C_below K2.out (by repeat (first | exact HB2.out | with_reducible apply pw_below_drewN | with_reducible apply below_drew1 | with_reducible apply below_alloc))) k2c hn2).mono ?_); rintro e w3 ⟨⟨r, rfl, hr⟩, hb⟩; obtain rfl : r = false := Bool.eq_false_iff.2 (fun h => E2.out (hr.1 h)); have HB3 := Aside0.mk (below_step (w := w) (by repeat (first | exact HB2.out | with_reducible apply pw_below_drewN | with_reducible apply below_drew1 | with_reducible apply below_alloc)) hb); clear hb hr))
              go_ret
              exact ⟨⟨false, rfl, iff_of_false Bool.false_ne_true HT.out⟩, HB3.out⟩
          · have E1 := Aside0.mk q1
            have HT := Aside0.mk (fun h : S47.mk x0 x1 x2 x3 x4 x5 = S47.mk y0 y1 y2 y3 y4 y5 => q1 (by injection h))
            clear q0 q1 q3 q4 q5
            go_enter Tryd.func34, Tryd.ntmps34
            go_wp2_with (first | (go_at_call 33; (with_reducible refine (samebytes_walk A1 c1 x1 B1 d1 y1 _ (Kd.C_below H1.out (by repeat (first | exact Below.refl _ _ | with_reducible apply pw_below_drewN | with_reducible apply below_drew1 | with_reducible apply below_alloc))) h1c (Kd.C_below K1.out (by repeat (first | exact Below.refl _ _ | with_reducible apply pw_below_drewN | with_reducible apply below_drew1 | with_reducible apply below_alloc))) k1c hn1).mono ?_); rintro e w2 ⟨⟨r, rfl, hr⟩, hb⟩; obtain rfl : r = false := Bool.eq_false_iff.2 (fun h => E1.out (hr.1 h)); obtain ⟨hbc, hbf⟩ := bcell hb; have hsz := hb.size; (try simp at hsz); have HB2 := Aside0.mk (below_step (w := w) (by repeat (first | exact Below.refl _ _ | with_reducible apply pw_below_drewN | with_reducible apply below_drew1 | with_reducible apply below_alloc)) hb); clear hb hr))
            go_ret
            exact ⟨⟨false, rfl, iff_of_false Bool.false_ne_true HT.out⟩, HB2.out⟩
        · have b5 : (x5 == y5) = false := beq_eq_false_iff_ne.2 q5
          have HT := Aside0.mk (fun h : S47.mk x0 x1 x2 x3 x4 x5 = S47.mk y0 y1 y2 y3 y4 y5 => q5 (by injection h))
          clear q0 q3 q4 q5
          go_enter Tryd.func34, Tryd.ntmps34
          go_wp2
          go_ret
          exact ⟨⟨false, rfl, iff_of_false Bool.false_ne_true HT.out⟩, by repeat (first | exact Below.refl _ _ | with_reducible apply pw_below_drewN | with_reducible apply below_drew1 | with_reducible apply below_alloc)⟩
      · have b4 : (x4 == y4) = false := beq_eq_false_iff_ne.2 q4
        have HT := Aside0.mk (fun h : S47.mk x0 x1 x2 x3 x4 x5 = S47.mk y0 y1 y2 y3 y4 y5 => q4 (by injection h))
        clear q0 q3 q4
        go_enter Tryd.func34, Tryd.ntmps34
        go_wp2
        go_ret
        exact ⟨⟨false, rfl, iff_of_false Bool.false_ne_true HT.out⟩, by repeat (first | exact Below.refl _ _ | with_reducible apply pw_below_drewN | with_reducible apply below_drew1 | with_reducible apply below_alloc)⟩
    · have b3 : (x3 == y3) = false := beq_eq_false_iff_ne.2 q3
      have HT := Aside0.mk (fun h : S47.mk x0 x1 x2 x3 x4 x5 = S47.mk y0 y1 y2 y3 y4 y5 => q3 (by injection h))
      clear q0 q3
      go_enter Tryd.func34, Tryd.ntmps34
      go_wp2
      go_ret
      exact ⟨⟨false, rfl, iff_of_false Bool.false_ne_true HT.out⟩, by repeat (first | exact Below.refl _ _ | with_reducible apply pw_below_drewN | with_reducible apply below_drew1 | with_reducible apply below_alloc)⟩
  · have b0 : (x0 == y0) = false := beq_eq_false_iff_ne.2 q0
    have HT := Aside0.mk (fun h : S47.mk x0 x1 x2 x3 x4 x5 = S47.mk y0 y1 y2 y3 y4 y5 => q0 (by injection h))
    clear q0
    go_enter Tryd.func34, Tryd.ntmps34
    go_wp2
    go_ret
    exact ⟨⟨false, rfl, iff_of_false Bool.false_ne_true HT.out⟩, by repeat (first | exact Below.refl _ _ | with_reducible apply pw_below_drewN | with_reducible apply below_drew1 | with_reducible apply below_alloc)⟩
set_option maxHeartbeats 1000000 in
theorem new_walk (w : World) :
    Calls Tryd.prog 42 #[] w fun e w' => ∃ v, e = .returned (.agg #[v]) ∧ Kd.S k58 58 w' w.heap.size (fun _ => True) v ([⟨2, 2, [], []⟩] : List S58) ∧ Below w.heap.size w w' := by
  have hu1 := Tryd.underlying42
  have hu2 := Tryd.underlying58
  go_enter Tryd.func42, Tryd.ntmps42
  go_wp2_with ((with_reducible refine gate_dst (N := 2) rfl ?_); refine Kd.S_lit k58 _ 58 ?hg (N := 2) ?hd (xs := ([⟨2, 2, [], []⟩] : List S58)) (inner := [.int .i64 2, .int .i64 2, .slice none 0 0, .slice none 0 0]) (ok := fun _ => True) (okp := fun _ => True) ?hr ?hp (fun _ hk => hk) trivial (Below.refl _ _) (Nat.le_refl _) (by simp) ?_; (case hd => rfl); (case hg => rfl); (case hr => first | (go_simp; done) | (go_simp; rfl)); (case hp => exact (Reps.c4 (show Kd.M k58 _ _ _ (⟨2, 2, [], []⟩ : S58) [.int .i64 2, .int .i64 2, .slice none 0 0, .slice none 0 0] from (k58_mkM _ _ _ (⟨2, 2, [], []⟩ : S58) (Kd.R_nil _ _ _ _ _) (Kd.R_nil _ _ _ _ _))) (Reps.none _ _))); intro v2 w2 ho hb hg hnew; clear hg hnew; have HO := Aside0.mk ho; have HB := Aside0.mk hb; have HX := Aside0.mk (blk_below (blk_new w (.cells #[.slice none 0 0] 42)) hb); obtain ⟨Ao, co, eo⟩ := Kd.S_slice ho; subst eo; have hx0 := (blk_cell HX.out 0).trans (show _ = some (Value.slice none 0 0) from rfl); have hxf := blk_frozen HX.out 0; clear ho hb)
  refine bodyPost_ret (results_cell_row rfl _ _ w.heap.size 42 #[.slice Ao 1 co] (0, 0) _ rfl (blk_put (cs := #[.slice none 0 0]) HX.out 0 _ rfl) Tryd.underlying42 rfl (by kernel_rfl)) rfl ?_
  exact ⟨_, rfl, Kd.S_mono (Kd.S_far (p := ⟨w.heap.size, 0, none⟩) (Kd.S_types (Kd.S_lower HO.out (by simp)) HX.out (by decide)) (fun _ hk => hk.2) (.slice Ao 1 co)) (fun _ hk => trivial), (below_step (below_alloc (Below.refl _ _) _) HB.out).setCell (p := ⟨w.heap.size, 0, none⟩) (Nat.le_refl _) _⟩
set_option maxHeartbeats 2000000 in
theorem long_walk (o : S39) (A : Option Addr) (c : Nat) (w : World) :
    Calls Tryd.prog 28 #[.agg #[.int .i64 o.f0, .string o.f1, .string o.f2, .int .i64 o.f3, .int .i64 o.f4, .slice A o.f5.length c]] w fun e w' => (∃ r, e = .returned (.bool r) ∧ (r = false → o.f1.size ≤ 1000 ∧ o.f2.size ≤ 1000 ∧ o.f5.length ≤ 3000)) ∧ Below w.heap.size w w' := by
  by_cases h1 : 1000 < o.f1.size
  · have b1 : decide (1000 < (o.f1.size : Int)) = true := decide_eq_true (by omega)
    have b1' : decide (1000 < o.f1.size) = true := decide_eq_true h1
    go_enter Tryd.func28, Tryd.ntmps28
    go_wp2
    go_ret
    exact ⟨⟨true, rfl, fun h => nomatch h⟩, below_alloc (Below.refl _ _) _⟩
  have b1 : decide (1000 < (o.f1.size : Int)) = false := decide_eq_false (by omega)
  have b1' : decide (1000 < o.f1.size) = false := decide_eq_false h1
  by_cases h2 : 1000 < o.f2.size
  · have b2 : decide (1000 < (o.f2.size : Int)) = true := decide_eq_true (by omega)
    have b2' : decide (1000 < o.f2.size) = true := decide_eq_true h2
    go_enter Tryd.func28, Tryd.ntmps28
    go_wp2
    go_ret
    exact ⟨⟨true, rfl, fun h => nomatch h⟩, below_alloc (Below.refl _ _) _⟩
  have b2 : decide (1000 < (o.f2.size : Int)) = false := decide_eq_false (by omega)
  have b2' : decide (1000 < o.f2.size) = false := decide_eq_false h2
  by_cases h3 : 3000 < o.f5.length
  · have b3 : decide (3000 < (o.f5.length : Int)) = true := decide_eq_true (by omega)
    have b3' : decide (3000 < o.f5.length) = true := decide_eq_true h3
    go_enter Tryd.func28, Tryd.ntmps28
    go_wp2
    go_ret
    exact ⟨⟨true, rfl, fun h => nomatch h⟩, below_alloc (Below.refl _ _) _⟩
  have b3 : decide (3000 < (o.f5.length : Int)) = false := decide_eq_false (by omega)
  have b3' : decide (3000 < o.f5.length) = false := decide_eq_false h3
  have HH := Aside0.mk (show o.f1.size ≤ 1000 ∧ o.f2.size ≤ 1000 ∧ o.f5.length ≤ 3000 from ⟨by omega, by omega, by omega⟩)
  clear h1 h2 h3
  cases b4 : decide (3000 < o.f3) <;> cases b5 : decide (o.f3 ≤ 46368) <;> cases b6 : (o.f0 == 8) <;> cases b7 : decide (3000 < o.f4) <;> cases b8 : decide (o.f4 ≤ 46368) <;> cases b9 : (o.f0 == 9) <;>
    (go_enter Tryd.func28, Tryd.ntmps28; go_wp2; go_ret; exact ⟨⟨_, rfl, fun _ => HH.out⟩, below_alloc (Below.refl _ _) _⟩)
end Go.Proofs.YtllfjmmdackgdaaDoor.PZ
end
