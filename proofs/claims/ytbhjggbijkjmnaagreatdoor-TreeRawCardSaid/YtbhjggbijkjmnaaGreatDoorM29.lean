import Derived.Test.YtbhjggbijkjmnaaGreatDoorM25
import Derived.Test.YtbhjggbijkjmnaaGreatDoorM26
import Derived.Test.YtbhjggbijkjmnaaGreatDoorM27
import Derived.Test.YtbhjggbijkjmnaaGreatDoorM28
import Derived.Test.YtbhjggbijkjmnaaGreatDoorM24
import Derived.Test.YtbhjggbijkjmnaaGreatDoorM14
set_option linter.unusedVariables false
set_option linter.unusedSimpArgs false
section
namespace Go.Proofs.YtbhjggbijkjmnaaGreatDoor.PZ
open Go.RowKit Go.Proofs.YtbhjggbijkjmnaaGreatDoorW.PrintWords Go.Proofs.YtbhjggbijkjmnaaGreatDoorW.PrintLast Go.Proofs.YtbhjggbijkjmnaaGreatDoorW.PrintMore Go.Proofs.YtbhjggbijkjmnaaGreatDoor.B Go.Proofs.YtbhjggbijkjmnaaGreatDoor.Ord TD
set_option maxRecDepth 100000
section
attribute [local go_sem ↓] Go.wp_at_zero Go.wp_at_succ
theorem sizedF_self (b : List Int) : Qcq b b.length = b := by
 unfold Qcq
 rw [List.take_length, Nat.sub_self, List.replicate_zero, List.append_nil]
theorem rcontent (A : Option Addr) (c : Nat) (l : List S52) (k0 : Int) (p q : ByteArray) (a n : Int) (Ad : Option Addr) (cd : Nat) (d : List Int) (w : World) (hC : Kd.C k52 w A l.length l) (hc : l.length ≤ c) (hrt : Rt l) (hp : p.size < 1000000) (hdC : Kd.C (Kd.int .u8) w Ad d.length d) (hcd : d.length ≤ cd) (hk0 : k0 = 7 ∨ k0 = 8 ∨ k0 = 9) :
  Calls Tryz.prog 62 #[.agg #[.slice A l.length c], .agg #[.int .i64 k0, .string p, .string q, .int .i64 a, .int .i64 n, .slice Ad d.length cd]] w fun e w' => RQ w (Qbh l (workF l ⟨k0, p, q, a, n, d⟩)) e w' := by
 have h7 : workF l ⟨7, p, q, a, n, d⟩ = (match readF l p a n with | .inl d => .inl (l, { res0 with f1 := d }) | .inr e => .inr e) := rfl
 have h8 : workF l ⟨8, p, q, a, n, d⟩ = (match Qfz l p a d with | .inl l' => .inl (l', { res0 with f5 := (d.length : Int) }) | .inr e => .inr e) := rfl
 have h9 : workF l ⟨9, p, q, a, n, d⟩ = plain (Qgo l p n) := rfl
 unfold readF at h7
 unfold Qfz at h8
 unfold Qgo at h9
 cases hf : fileF l p with
 | inr er =>
  rw [hf] at h7 h8 h9
  have h : Qbh l (workF l ⟨k0, p, q, a, n, d⟩) = (l, { res0 with f0 := er }) := by
   rcases hk0 with rfl | rfl | rfl
   · rw [h7]; rfl
   · rw [h8]; rfl
   · rw [h9]; rfl
  rw [h]
  exact rcont_bad A c l k0 p q a n Ad cd d w hC hc hrt hp er hf
 | inl k =>
  rw [hf] at h7 h8 h9
  have hs2 := hrt.pr.size k
  have hkl := (Qgd hrt.pr.wf hf).2.2
  rcases hk0 with rfl | rfl | rfl
  ·
   have h := rcont_read A c l p q a n Ad cd d w hC hc hrt hp k hf
   rw [h7]
   dsimp only
   by_cases hg : 0 ≤ a ∧ 0 ≤ n
   · rw [if_pos hg] at h ⊢; exact h
   · rw [if_neg hg] at h ⊢; exact h
  ·
   rw [h8]
   dsimp only
   by_cases hg : 0 ≤ a ∧ a ≤ 46368 ∧ (d.length : Int) ≤ 46368 - a
   ·
    rw [if_pos hg]
    by_cases hd : d.length = 0
    ·
     have h := rcont_set A c l 8 p q a n Ad cd d w hC hc hrt hp hdC hcd k hf _ hs2 (.inr ⟨rfl, hg.1, hg.2.1, hg.2.2, .inl ⟨hd, rfl⟩⟩)
     have hd0 := List.eq_nil_of_length_eq_zero hd
     have he : setD l k (overF (Qcq (nd l k).f2 (nd l k).f2.length) a.toNat d) = l := setD_self hkl (by rw [sizedF_self, hd0]; exact over_zero _ _ [])
     rw [if_neg zq9, he] at h
     rw [if_pos hd]
     exact h
    ·
     have h := rcont_set A c l 8 p q a n Ad cd d w hC hc hrt hp hdC hcd k hf (max (nd l k).f2.length (a.toNat + d.length)) zq3 (.inr ⟨rfl, hg.1, hg.2.1, hg.2.2, .inr ⟨by omega, by omega⟩⟩)
     rw [if_neg zq9] at h
     rw [if_neg hd]
     exact h
   ·
    rw [if_neg hg]
    exact rcont_range A c l 8 p q a n Ad cd d w hC hc hrt hp k hf (.inl ⟨rfl, by omega⟩)
  ·
   rw [h9]
   dsimp only
   by_cases hg : 0 ≤ n ∧ n ≤ 46368
   ·
    rw [if_pos hg]
    have h := rcont_set A c l 9 p q a n Ad cd d w hC hc hrt hp hdC hcd k hf n.toNat zq3 (.inl ⟨rfl, by omega⟩)
    rw [if_pos rfl] at h
    exact h
   ·
    rw [if_neg hg]
    exact rcont_range A c l 9 p q a n Ad cd d w hC hc hrt hp k hf (.inr ⟨rfl, by omega⟩)
set_option maxHeartbeats 16000000 in
theorem rdo_op (A : Option Addr) (c : Nat) (l : List S52) (k0 : Int) (p q : ByteArray) (a n : Int) (Ad : Option Addr) (cd : Nat) (d : List Int) (w : World) (hC : Kd.C k52 w A l.length l) (hc : l.length ≤ c) (hrt : Rt l) (hp : p.size < 1000000) (hq : q.size < 1000000) (hdC : Kd.C (Kd.int .u8) w Ad d.length d) (hcd : d.length ≤ cd) (X : List S52) (r : S37) (hR : Qbh l (workF l ⟨k0, p, q, a, n, d⟩) = (X, r))
  (hk0 : k0 = 1 ∨ k0 = 2 ∨ k0 = 3 ∨ k0 = 4 ∨ k0 = 5 ∨ k0 = 6 ∨ k0 = 7 ∨ k0 = 8 ∨ k0 = 9) :
  Calls Tryz.prog 29 #[.agg #[.slice A l.length c], .agg #[.int .i64 k0, .string p, .string q, .int .i64 a, .int .i64 n, .slice Ad d.length cd]] w fun e w' => RQ w (X, r) e w' := by
 have HF0 := am (Qco w (.slice A l.length c) (.int .i64 k0) (.string p) (.string q) (.int .i64 a) (.int .i64 n) (.slice Ad d.length cd))
 rcases hk0 with rfl | rfl | rfl | rfl | rfl | rfl | rfl | rfl | rfl
 case' inl => have HF := am (fun (W : World) (hb : Below w.heap.size w W) => show Calls Tryz.prog 58 #[.agg #[.slice A l.length c], .agg #[.int .i64 1, .string p, .string q, .int .i64 a, .int .i64 n, .slice Ad d.length cd]] W fun e w' => RQ W (X, r) e w' from by rw [← hR]; exact rcreate A c l 1 p q a n Ad cd d W (Kd.C_below hC hb) hc hrt hp hq (.inl rfl))
 case' inr.inl => have HF := am (fun (W : World) (hb : Below w.heap.size w W) => show Calls Tryz.prog 58 #[.agg #[.slice A l.length c], .agg #[.int .i64 2, .string p, .string q, .int .i64 a, .int .i64 n, .slice Ad d.length cd]] W fun e w' => RQ W (X, r) e w' from by rw [← hR]; exact rcreate A c l 2 p q a n Ad cd d W (Kd.C_below hC hb) hc hrt hp hq (.inr rfl))
 case' inr.inr.inl => have HF := am (fun (W : World) (hb : Below w.heap.size w W) => show Calls Tryz.prog 59 #[.agg #[.slice A l.length c], .agg #[.int .i64 3, .string p, .string q, .int .i64 a, .int .i64 n, .slice Ad d.length cd]] W fun e w' => RQ W (X, r) e w' from by rw [← hR]; exact rlink A c l p q a n Ad cd d W (Kd.C_below hC hb) hc hrt hp hq)
 case' inr.inr.inr.inl => have HF := am (fun (W : World) (hb : Below w.heap.size w W) => show Calls Tryz.prog 60 #[.agg #[.slice A l.length c], .agg #[.int .i64 4, .string p, .string q, .int .i64 a, .int .i64 n, .slice Ad d.length cd]] W fun e w' => RQ W (X, r) e w' from by rw [← hR]; exact runlink A c l p q a n Ad cd d W (Kd.C_below hC hb) hc hrt hp hq)
 case' inr.inr.inr.inr.inl => have HF := am (fun (W : World) (hb : Below w.heap.size w W) => show Calls Tryz.prog 60 #[.agg #[.slice A l.length c], .agg #[.int .i64 5, .string p, .string q, .int .i64 a, .int .i64 n, .slice Ad d.length cd]] W fun e w' => RQ W (X, r) e w' from by rw [← hR]; exact rrmdir A c l p q a n Ad cd d W (Kd.C_below hC hb) hc hrt hp hq)
 case' inr.inr.inr.inr.inr.inl => have HF := am (fun (W : World) (hb : Below w.heap.size w W) => show Calls Tryz.prog 61 #[.agg #[.slice A l.length c], .agg #[.int .i64 6, .string p, .string q, .int .i64 a, .int .i64 n, .slice Ad d.length cd]] W fun e w' => RQ W (X, r) e w' from by rw [← hR]; exact rrename A c l p q a n Ad cd d W (Kd.C_below hC hb) hc hrt hp hq)
 case' inr.inr.inr.inr.inr.inr.inl => have HF := am (fun (W : World) (hb : Below w.heap.size w W) => show Calls Tryz.prog 62 #[.agg #[.slice A l.length c], .agg #[.int .i64 7, .string p, .string q, .int .i64 a, .int .i64 n, .slice Ad d.length cd]] W fun e w' => RQ W (X, r) e w' from by rw [← hR]; exact rcontent A c l 7 p q a n Ad cd d W (Kd.C_below hC hb) hc hrt hp (Kd.C_below hdC hb) hcd (.inl rfl))
 case' inr.inr.inr.inr.inr.inr.inr.inl => have HF := am (fun (W : World) (hb : Below w.heap.size w W) => show Calls Tryz.prog 62 #[.agg #[.slice A l.length c], .agg #[.int .i64 8, .string p, .string q, .int .i64 a, .int .i64 n, .slice Ad d.length cd]] W fun e w' => RQ W (X, r) e w' from by rw [← hR]; exact rcontent A c l 8 p q a n Ad cd d W (Kd.C_below hC hb) hc hrt hp (Kd.C_below hdC hb) hcd (.inr (.inl rfl)))
 case' inr.inr.inr.inr.inr.inr.inr.inr => have HF := am (fun (W : World) (hb : Below w.heap.size w W) => show Calls Tryz.prog 62 #[.agg #[.slice A l.length c], .agg #[.int .i64 9, .string p, .string q, .int .i64 a, .int .i64 n, .slice Ad d.length cd]] W fun e w' => RQ W (X, r) e w' from by rw [← hR]; exact rcontent A c l 9 p q a n Ad cd d W (Kd.C_below hC hb) hc hrt hp (Kd.C_below hdC hb) hcd (.inr (.inr rfl)))
 all_goals
  clear hC hrt hdC hR
  go_enter Tryz.func29, Tryz.ntmps29
  go_wp2_with ((first | go_at_call 58 | go_at_call 59 | go_at_call 60 | go_at_call 61 | go_at_call 62); (with_reducible refine (HF.out _ HF0.out.bel).mono ?_); rintro e w1 ⟨A1, c1, A2, c2, A3, c3, rfl, h1, h2, h3, h4, h5, h6, hb⟩; have HF1 := am (HF0.out.below hb); have HX := am (And.intro h2 (And.intro h4 h6)); have HL := am (And.intro h1 (And.intro h3 h5)); obtain ⟨⟨t0, t1, t2, t3, t4⟩, -, ⟨r0, r1, r2, r3, r4, r5, r6⟩, f1, f2⟩ := HF1.out.all; clear h1 h2 h3 h4 h5 h6 hb)
  refine Qbe (fn := Tryz.f29) (w := w) (W := w1) (l := X) (r := r) (A1 := A1) (A2 := A2) (A3 := A3) (c1 := c1) (c2 := c2) (c3 := c3) zq25 HF1.out _ ?h4 ?h5 HL.out.1 HX.out.1 HL.out.2.1 HX.out.2.1 HL.out.2.2 HX.out.2.2
  case h4 => rfl
  case h5 => rfl
set_option maxHeartbeats 1600000 in
theorem rdo (A : Option Addr) (c : Nat) (l : List S52) (k0 : Int) (p q : ByteArray) (a n : Int) (Ad : Option Addr) (cd : Nat) (d : List Int) (w : World) (hC : Kd.C k52 w A l.length l) (hc : l.length ≤ c) (hrt : Rt l) (hp : p.size < 1000000) (hq : q.size < 1000000) (hdC : Kd.C (Kd.int .u8) w Ad d.length d) (hcd : d.length ≤ cd) (X : List S52) (r : S37) (hR : Qbh l (workF l ⟨k0, p, q, a, n, d⟩) = (X, r)) :
  Calls Tryz.prog 29 #[.agg #[.slice A l.length c], .agg #[.int .i64 k0, .string p, .string q, .int .i64 a, .int .i64 n, .slice Ad d.length cd]] w fun e w' => RQ w (X, r) e w' := by
 by_cases hk : k0 = 1 ∨ k0 = 2 ∨ k0 = 3 ∨ k0 = 4 ∨ k0 = 5 ∨ k0 = 6 ∨ k0 = 7 ∨ k0 = 8 ∨ k0 = 9
 · exact rdo_op A c l k0 p q a n Ad cd d w hC hc hrt hp hq hdC hcd X r hR hk
 obtain ⟨W0, HW, HF0⟩ : ∃ W0, Aside0 (((((w.alloc (.cells #[.slice A l.length c] 26)).alloc (.cells #[.int .i64 k0, .string p, .string q, .int .i64 a, .int .i64 n, .slice Ad d.length cd] 31)).alloc (.cells #[.slice none 0 0] 26)).alloc (.cells #[.int .i64 0, .slice none 0 0, .slice none 0 0, .int .i64 0, .int .i64 0, .int .i64 0] 37)) = W0) ∧ Aside0 (RF w (.slice A l.length c) (.int .i64 k0) (.string p) (.string q) (.int .i64 a) (.int .i64 n) (.slice Ad d.length cd) W0) := ⟨_, ⟨rfl⟩, ⟨Qco w (.slice A l.length c) (.int .i64 k0) (.string p) (.string q) (.int .i64 a) (.int .i64 n) (.slice Ad d.length cd)⟩⟩
 by_cases ha : k0 = 10 ∨ k0 = 11 ∨ k0 = 13
 ·
  have HA := am (fun (W : World) (hb : Below w.heap.size w W) => show Calls Tryz.prog 63 #[.agg #[.slice A l.length c], .agg #[.int .i64 k0, .string p, .string q, .int .i64 a, .int .i64 n, .slice Ad d.length cd]] W fun e w' => RA W r e w' from by
   have h := rask A c l k0 p q a n Ad cd d W (Kd.C_below hC hb) hc hrt hp ha
   rw [hR] at h
   exact h)
  have hX : X = l := by
   have h2 : (Qbh l (workF l ⟨k0, p, q, a, n, d⟩)).1 = l := by
    have ho : workF l ⟨k0, p, q, a, n, d⟩ = if k0 = 10 then (match Qav l p with | .inl k => .inl (l, { res0 with f3 := (nd l k).f0, f4 := (nd l k).f1, f5 := ((nd l k).f2.length + (nd l k).f3.length : Nat) }) | .inr e => .inr e) else if k0 = 11 then (match listF l p with | .inl n => .inl (l, { res0 with f2 := n }) | .inr e => .inr e) else (match Qav l p with | .inl _ => .inl (l, res0) | .inr e => .inr e) := by
     rcases ha with rfl | rfl | rfl <;> rfl
    rw [ho]
    split
    · split <;> rfl
    ·
     split
     · split <;> rfl
     · split <;> rfl
   rw [hR] at h2
   exact h2
  subst hX
  have HC := am hC
  clear hC hrt hdC hR hk
  rcases ha with rfl | rfl | rfl
  all_goals
   go_enter Tryz.func29, Tryz.ntmps29
   go_upto_region 1 with (fail)
   rw [HW.out]
   obtain ⟨⟨t0, t1, t2, t3, t4⟩, ⟨p0, p1, p2, p3, p4, p5⟩, ⟨r0, r1, r2, r3, r4, r5, r6⟩, f1, f2⟩ := HF0.out.all
   go_wp2
   go_region_with (go_at_call 63; (with_reducible refine (HA.out _ (by repeat (first | exact HF0.out.bel | with_reducible apply Qac | with_reducible apply Qad))).mono ?_); rintro e w1 ⟨A2, c2, A3, c3, rfl, h3, h4, h5, h6, hb⟩; have HF1 := am (HF0.out.below (Qa zq5 hb)); have HX := am (And.intro h4 h6); have HL := am (And.intro h3 h5); clear t0 t1 t2 t3 t4 p0 p1 p2 p3 p4 p5 r0 r1 r2 r3 r4 r5 r6 f1 f2; obtain ⟨⟨t0, t1, t2, t3, t4⟩, -, ⟨r0, r1, r2, r3, r4, r5, r6⟩, f1, f2⟩ := HF1.out.all; clear h3 h4 h5 h6 hb)
   all_goals (go_wp2; exact Qbe (l := X) (r := r) rfl HF1.out _ rfl rfl hc (Kd.C_below HC.out HF1.out.bel) HL.out.1 HX.out.1 HL.out.2 HX.out.2)
 ·
  have HC := am hC
  have w0 : k0 = 12 → workF l ⟨k0, p, q, a, n, d⟩ = .inl (l, res0) := fun e => by subst e; rfl
  by_cases hs : k0 = 12
  ·
   rw [w0 hs] at hR
   obtain ⟨hR1, hR2⟩ := Prod.mk.inj (show (l, res0) = (X, r) from hR)
   subst hR1 hR2 hs
   clear hC hrt hdC hR w0 hk ha
   go_enter Tryz.func29, Tryz.ntmps29
   go_upto_region 1 with (fail)
   rw [HW.out]
   obtain ⟨⟨t0, t1, t2, t3, t4⟩, ⟨p0, p1, p2, p3, p4, p5⟩, ⟨r0, r1, r2, r3, r4, r5, r6⟩, f1, f2⟩ := HF0.out.all
   go_wp2
   exact Qbe (W := W0) (l := l) (r := res0) (A2 := none) (A3 := none) (c2 := 0) (c3 := 0) rfl HF0.out _ rfl rfl hc (Kd.C_below HC.out HF0.out.bel) (Nat.zero_le _) (Kd.C_nil _ _) (Nat.zero_le _) (Kd.C_nil _ _)
  ·
   have w1 : workF l ⟨k0, p, q, a, n, d⟩ = .inr 30 := by
    unfold workF
    dsimp only
    rw [if_neg zq3, if_neg zq3, if_neg zq3, if_neg zq3, if_neg zq3, if_neg zq3, if_neg zq3, if_neg zq3, if_neg zq3, if_neg zq3, if_neg zq3, if_neg hs, if_neg zq3]
   rw [w1] at hR
   obtain ⟨hR1, hR2⟩ := Prod.mk.inj (show (l, ({ res0 with f0 := 30 } : S37)) = (X, r) from hR)
   subst hR1 hR2
   have h1 : (k0 == 1) = false := beq_eq_false_iff_ne.2 zq3
   have h2 : (k0 == 2) = false := beq_eq_false_iff_ne.2 zq3
   have h3 : (k0 == 3) = false := beq_eq_false_iff_ne.2 zq3
   have h4 : (k0 == 4) = false := beq_eq_false_iff_ne.2 zq3
   have h5 : (k0 == 5) = false := beq_eq_false_iff_ne.2 zq3
   have h6 : (k0 == 6) = false := beq_eq_false_iff_ne.2 zq3
   have h7 : (k0 == 7) = false := beq_eq_false_iff_ne.2 zq3
   have h8 : (k0 == 8) = false := beq_eq_false_iff_ne.2 zq3
   have h9 : (k0 == 9) = false := beq_eq_false_iff_ne.2 zq3
   have h10 : (k0 == 10) = false := beq_eq_false_iff_ne.2 zq3
   have h11 : (k0 == 11) = false := beq_eq_false_iff_ne.2 zq3
   have h12 : (k0 == 12) = false := beq_eq_false_iff_ne.2 hs
   have h13 : (k0 == 13) = false := beq_eq_false_iff_ne.2 zq3
   clear hC hrt hdC hR w0 w1 hk ha hs
   go_enter Tryz.func29, Tryz.ntmps29
   go_upto_region 1 with (fail)
   rw [HW.out]
   obtain ⟨⟨t0, t1, t2, t3, t4⟩, ⟨p0, p1, p2, p3, p4, p5⟩, ⟨r0, r1, r2, r3, r4, r5, r6⟩, f1, f2⟩ := HF0.out.all
   go_wp2
   go_region_with (go_at_call 28; (with_reducible refine (Qcp 30 _).mono ?_); rintro en w2 ⟨rfl, hb⟩; have HF2 := am (HF0.out.below (Qa zq5 hb)); clear t0 t1 t2 t3 t4 p0 p1 p2 p3 p4 p5 r0 r1 r2 r3 r4 r5 r6 f1 f2; obtain ⟨⟨t0, t1, t2, t3, t4⟩, -, ⟨r0, r1, r2, r3, r4, r5, r6⟩, f1, f2⟩ := HF2.out.all; clear hb)
   all_goals (go_wp2; exact Qbe (l := l) (r := { res0 with f0 := 30 }) rfl HF2.out _ rfl rfl hc (Kd.C_below HC.out HF2.out.bel) (Nat.zero_le _) (Kd.C_nil _ _) (Nat.zero_le _) (Kd.C_nil _ _))
set_option maxHeartbeats 4000000 in
theorem Qfk (B b : Nat) (l : List S52) (x : Value) (p : ByteArray) (rs : List Value) (kd : Int) (w : World) (hst : St B b l (x :: .string p :: rs) w) (ho : Ok l) (hp : p.size < 10000000) :
  Calls Tryz.prog 48 #[.pointer (some ⟨b, 0, none⟩), .int .i64 kd] w fun en w' => (match Qdc l p kd with | .inl l' => en = .returned (.tuple #[]) ∧ St B b l' (x :: .string p :: rs) w' | .inr n => en = .panicked (wrong n)) ∧ BW B w w' := by
 have hbl : b < w.heap.size := by obtain ⟨_, v, h, _⟩ := hst; exact Qai h
 have hBw : B ≤ w.heap.size := by have := hst.1; omega
 have hk2 : w.cell? ⟨b, 2, none⟩ = some (.string p) := by obtain ⟨_, v, h, _⟩ := hst; exact (Qab h 2).trans rfl
 have HST := am hst
 have HO := am ho
 clear hst ho
 unfold Qdc
 by_cases hr : p = rootP
 ·
  rw [if_pos hr]
  have hpr : (p.toList == [47]) = true := by rw [hr]; exact root_eq
  clear hr
  go_enter Tryz.func48, Tryz.ntmps48
  go_wp2_with (first | (go_at_call 64; (with_reducible refine (Qaw 24 _).mono ?_); rintro e w1 ⟨rfl, rfl⟩; exact ⟨rfl, rfl, BW.refl _ _⟩))
 ·
  rw [if_neg hr]
  have hpr : (p.toList == [47]) = false := beq_eq_false_iff_ne.2 fun h => hr (Qax (h.trans (beq_iff_eq.1 root_eq).symm))
  cases hs : spotF l p with
  | inr n =>
   dsimp only
   have HS := am hs
   clear hs
   go_enter Tryz.func48, Tryz.ntmps48
   go_wp2_with (first | (go_at_call 64; (with_reducible refine (Qau 24 _).mono ?_); rintro e w1 ⟨rfl, h1⟩; subst w1) | (go_at_call 74; refine (Qcb B b l _ p _ HST.out HO.out hp hr).mono ?_; rintro e w1 ⟨h1, hb⟩; rw [HS.out] at h1; subst h1; exact ⟨rfl, rfl, BW.mono hb hBw⟩))
  | inl s =>
   obtain ⟨d, nm, o⟩ := s
   have HS := am hs
   clear hs
   cases o with
   | some j =>
    dsimp only
    have hj : decide ((j : Int) < 0) = false := decide_eq_false zq3
    go_enter Tryz.func48, Tryz.ntmps48
    go_wp2_with (first | (go_at_call 64; (with_reducible refine (Qau 24 _).mono ?_); rintro e w1 ⟨rfl, h1⟩; subst w1) | (go_at_call 64; (with_reducible refine (Qaw 24 _).mono ?_); rintro e w2 ⟨rfl, h2⟩; subst w2; exact ⟨rfl, rfl, BW.mono (Qaa HB.out _) hBw⟩) | (go_at_call 74; refine (Qcb B b l _ p _ HST.out HO.out hp hr).mono ?_; rintro e w1 ⟨h1, hb⟩; rw [HS.out] at h1; subst h1; have HB := am hb; clear hb; unfold spotV nodeV))
   | none =>
    dsimp only
    have hdl : d < l.length := (Qbb HS.out).choose_spec.2.2.2.2.1
    cases hf : fullB l d with
    | true =>
     rw [if_pos rfl]
     have hfe := fullB_t hf
     go_enter Tryz.func48, Tryz.ntmps48
     go_wp2_with (first
       | (go_at_call 74; refine (Qcb B b l _ p _ HST.out HO.out hp hr).mono ?_; rintro e w1 ⟨h1, hb⟩; rw [HS.out] at h1; subst h1; have HB := am hb; have hk3 := St.below HST.out (Qaa hb (.cells #[.int .i64 (d : Int), .string nm, .int .i64 (-1)] 92)); obtain ⟨hBb, v1, hw1, hS1⟩ := hk3; obtain ⟨A1, c1, rfl, hc1, hC1⟩ := Kd.S_reads hS1; have hkn := (Qab hw1 0).trans rfl; have HW1 := am hw1; have HS1 := am hS1; have HC1 := am hC1; clear hb hw1 hS1 hC1; unfold spotV nodeV)
       | (go_at_call 75; refine (Qgw b A1 c1 l _ d _ hdl HW1.out HC1.out).mono ?_; rintro e w9 ⟨rfl, h9⟩; subst w9; simp only [hfe])
       | (go_at_call 64; (with_reducible refine (Qau _ _).mono ?_); rintro e w9 ⟨rfl, h9⟩; subst w9)
       | (go_at_call 64; (with_reducible refine (Qaw 27 _).mono ?_); rintro e w9 ⟨rfl, h9⟩; subst w9; exact ⟨rfl, rfl, BW.mono (Qaa HB.out _) hBw⟩))
    | false =>
     rw [if_neg zq9]
     by_cases hl : l.length < 56
     ·
      rw [if_pos hl]
      have hl' : decide ((l.length : Int) < 56) = true := decide_eq_true zq3
      have hfe := fullB_f hf
      go_enter Tryz.func48, Tryz.ntmps48
      go_wp2_with (first
       | (go_at_call 64; (with_reducible refine (Qau _ _).mono ?_); rintro e w9 ⟨rfl, h9⟩; subst w9)
       | (go_at_call 74; refine (Qcb B b l _ p _ HST.out HO.out hp hr).mono ?_; rintro e w1 ⟨h1, hb⟩; rw [HS.out] at h1; subst h1; have HB := am hb; have hk3 := St.below HST.out (Qaa hb (.cells #[.int .i64 (d : Int), .string nm, .int .i64 (-1)] 92)); obtain ⟨hBb, v1, hw1, hS1⟩ := hk3; obtain ⟨A1, c1, rfl, hc1, hC1⟩ := Kd.S_reads hS1; have hkn := (Qab hw1 0).trans rfl; have HW1 := am hw1; have HS1 := am hS1; have HC1 := am hC1; clear hb hw1 hS1 hC1; unfold spotV nodeV)
       | (go_at_call 75; refine (Qgw b A1 c1 l _ d _ hdl HW1.out HC1.out).mono ?_; rintro e w9 ⟨rfl, h9⟩; subst w9; simp only [hfe]))
      refine wp_still_drew 8 zq15 zq15 ?_
      simp only [List.take_succ_cons, List.take_zero, List.drop_succ_cons, List.drop_zero]
      repeat still_step
      refine wpStill_nil ?_
      go_wp2_with (first
       | (go_at_call 76; refine (Qer B b l _ d nm (-1) l.length _ hdl ⟨hBb, _, Qat HW1.out, Kd.S_drew HS1.out⟩ HO.out zq3).mono ?_; (rintro e w2 ⟨rfl, ⟨-, v2, hw2, hS2⟩, hb2⟩; obtain ⟨A2, c2, rfl, hc2, -⟩ := Kd.S_reads hS2; have hkm := (Qab hw2 0).trans rfl; have hbw2 := Qai hw2; have hBW2 : B ≤ w2.heap.size := zq3; have hNB : ∀ k, w2.heap.size ≤ k → k ≠ b := (fun k hk => by omega); have hLen : ((putT l d nm l.length).length + 1) * 64 ≤ 140737488355328 := (by rw [putT, setE_len]; omega); have hNB2 : (Value.slice A2 (putT l d nm l.length).length c2).ownBlock ≠ some b := (fun h => (Kd.S_R hS2).1 b h rfl); have HW2 := am hw2; have HS2 := am hS2; have HB2 := am hb2; clear hw2 hS2 hb2))
       | (at_builtin; (with_reducible refine Qas (b := .append) (xs := #[.tmp 52, .tmp 55]) rfl ?_); (refine Kd.S_append k52 (w0 := w2) B rfl (.tmp 52) (.tmp 55) 24 52 _ 64 rfl Tryz.underlying24 info52 rfl zq9 zq3 _ (putT l d nm l.length) ⟨kd, 0, [], []⟩ _ (fun k => k ≠ b) (fun _ => False) rfl rfl ?aP (fun _ h => h.elim) ?aF ?aO ?aB ?aS ?aL ?_); (case aP => exact Qdu _ _ _ ⟨kd, 0, [], []⟩ (Kd.R_nil _ _ _ _ _) (Kd.R_nil _ _ _ _ _)); (case aF => exact fun k hk => hNB k hk); (case aO => exact Kd.S_mono HS2.out (fun k hk => ⟨hk, fun h => h⟩)); (case aB => exact Below.refl _ _); (case aS => exact hBW2); (case aL => exact hLen); (intro v4 w4 ho hbb hg hat); (have HO4 := am ho; have HB4 := am hbb; have HG4 := am hg; have HW4 := am (Qba HW2.out hg (Ne.symm hNB2))); obtain ⟨A4, n4, c4, rfl⟩ := S_any ho; have hk4 := (Qab HW4.out 0).trans rfl; have hz4 := Qag HW4.out 0; clear ho hbb hg hat))
      go_end0
      refine ⟨⟨rfl, hBb, _, Wk.put HW4.out _, Kd.S_far (p := ⟨b, 0, none⟩) HO4.out (fun k hk => hk) _⟩, ?_⟩
      exact (BW.trans (BW.mono (Qad (Qaa HB.out _)) hBw) ((HB2.out).grownN HB4.out HS2.out HG4.out)).setW hBb HW4.out 0 _
     ·
      rw [if_neg hl]
      have hl' : decide ((l.length : Int) < 56) = false := decide_eq_false zq3
      have hfe := fullB_f hf
      go_enter Tryz.func48, Tryz.ntmps48
      go_wp2_with (first
       | (go_at_call 74; refine (Qcb B b l _ p _ HST.out HO.out hp hr).mono ?_; rintro e w1 ⟨h1, hb⟩; rw [HS.out] at h1; subst h1; have HB := am hb; have hk3 := St.below HST.out (Qaa hb (.cells #[.int .i64 (d : Int), .string nm, .int .i64 (-1)] 92)); obtain ⟨hBb, v1, hw1, hS1⟩ := hk3; obtain ⟨A1, c1, rfl, hc1, hC1⟩ := Kd.S_reads hS1; have hkn := (Qab hw1 0).trans rfl; have HW1 := am hw1; have HS1 := am hS1; have HC1 := am hC1; clear hb hw1 hS1 hC1; unfold spotV nodeV)
       | (go_at_call 75; refine (Qgw b A1 c1 l _ d _ hdl HW1.out HC1.out).mono ?_; rintro e w9 ⟨rfl, h9⟩; subst w9; simp only [hfe])
       | (go_at_call 64; (with_reducible refine (Qau _ _).mono ?_); rintro e w9 ⟨rfl, h9⟩; subst w9)
       | (go_at_call 64; (with_reducible refine (Qaw 27 _).mono ?_); rintro e w9 ⟨rfl, h9⟩; subst w9; exact ⟨rfl, rfl, BW.mono (Qaa HB.out _) hBw⟩))
set_option maxHeartbeats 4000000 in
theorem link_walk (B b : Nat) (l : List S52) (x : Value) (p q : ByteArray) (rs : List Value) (w : World) (hst : St B b l (x :: .string p :: .string q :: rs) w) (ho : Ok l) (hp : p.size < 10000000) (hq : q.size < 10000000) :
  Calls Tryz.prog 49 #[.pointer (some ⟨b, 0, none⟩)] w fun en w' => (match linkF l p q with | .inl l' => en = .returned (.tuple #[]) ∧ St B b l' (x :: .string p :: .string q :: rs) w' | .inr n => en = .panicked (wrong n)) ∧ BW B w w' := by
 have hbl : b < w.heap.size := by obtain ⟨_, v, h, _⟩ := hst; exact Qai h
 have hBb : B ≤ b := hst.1
 have hBw : B ≤ w.heap.size := by omega
 have hk2 : w.cell? ⟨b, 2, none⟩ = some (.string p) := by obtain ⟨_, v, h, _⟩ := hst; exact (Qab h 2).trans rfl
 have hk3 : w.cell? ⟨b, 3, none⟩ = some (.string q) := by obtain ⟨_, v, h, _⟩ := hst; exact (Qab h 3).trans rfl
 have HST := am hst
 have HO := am ho
 have HB := am (Below.refl w.heap.size w)
 clear hst ho
 unfold linkF
 by_cases h0 : (Qah p).2 = 0
 ·
  rw [if_neg (fun h => h h0)]
  by_cases hzq : (Qah q).2 = 0
  ·
   rw [if_neg (fun h => h hzq)]
   cases hk : wk l (Qah p).1 0 with
   | inr n =>
    dsimp only
    have HK := am hk
    clear hk
    go_enter Tryz.func49, Tryz.ntmps49
    go_wp2_with (first
     | (go_at_call 34; (with_reducible refine (Qak p _ hp).mono ?_); rintro e w1 ⟨h1, hb⟩; rw [if_pos h0] at h1; obtain ⟨An, cn, rfl, hcn, hCn⟩ := h1; have HCN := am hCn; clear hCn; have n0_ := am (Qa zq0 hb); clear HB hb; have HB := n0_; clear n0_; have hk2_ := (HB.out.cell (p := ⟨b, 2, none⟩) hbl).trans hk2; have hk3_ := (HB.out.cell (p := ⟨b, 3, none⟩) hbl).trans hk3)
     | (go_at_call 34; (with_reducible refine (Qak q _ hq).mono ?_); rintro e w1q ⟨h1, hb⟩; rw [if_pos hzq] at h1; obtain ⟨Anq, cnq, rfl, hcnq, hCn⟩ := h1; have HCNq := am hCn; clear hCn; have HCN2 := am (Kd.C_below HCN.out hb); have n0_ := am (Qa zq0 hb); clear HB hb; have HB := n0_; clear n0_; have hk2_ := (HB.out.cell (p := ⟨b, 2, none⟩) hbl).trans hk2; have hk3_ := (HB.out.cell (p := ⟨b, 3, none⟩) hbl).trans hk3)
     | (go_at_call 33; (with_reducible refine (Qaq B b l _ An cn p _ (St.below HST.out zq0) HO.out HCN2.out hcn).mono ?_); rintro e w2 ⟨h1, hb⟩; rw [HK.out] at h1; subst h1; have n0_ := am (Qa zq0 hb); clear HB hb; have HB := n0_; clear n0_; have hk2_ := (HB.out.cell (p := ⟨b, 2, none⟩) hbl).trans hk2; exact ⟨rfl, rfl, BW.mono zq0 hBw⟩))
   | inl k =>
    dsimp only
    have hkl : k < l.length := wk_lt HO.out.wf HO.out.wf.pos hk
    have HK := am hk
    clear hk
    cases hd : ((nd l k).f0 == 2) with
    | true =>
     rw [if_pos (beq_iff_eq.1 hd)]
     go_enter Tryz.func49, Tryz.ntmps49
     go_wp2_with (first
      | (go_at_call 34; (with_reducible refine (Qak p _ hp).mono ?_); rintro e w1 ⟨h1, hb⟩; rw [if_pos h0] at h1; obtain ⟨An, cn, rfl, hcn, hCn⟩ := h1; have HCN := am hCn; clear hCn; have n0_ := am (Qa zq0 hb); clear HB hb; have HB := n0_; clear n0_; have hk2_ := (HB.out.cell (p := ⟨b, 2, none⟩) hbl).trans hk2; have hk3_ := (HB.out.cell (p := ⟨b, 3, none⟩) hbl).trans hk3)
      | (go_at_call 34; (with_reducible refine (Qak q _ hq).mono ?_); rintro e w1q ⟨h1, hb⟩; rw [if_pos hzq] at h1; obtain ⟨Anq, cnq, rfl, hcnq, hCn⟩ := h1; have HCNq := am hCn; clear hCn; have HCN2 := am (Kd.C_below HCN.out hb); have n0_ := am (Qa zq0 hb); clear HB hb; have HB := n0_; clear n0_; have hk2_ := (HB.out.cell (p := ⟨b, 2, none⟩) hbl).trans hk2; have hk3_ := (HB.out.cell (p := ⟨b, 3, none⟩) hbl).trans hk3)
      | (go_at_call 33; (with_reducible refine (Qaq B b l _ An cn p _ (St.below HST.out zq0) HO.out HCN2.out hcn).mono ?_); rintro e w2 ⟨h1, hb⟩; rw [HK.out] at h1; subst h1; have n0_ := am (Qa zq0 hb); clear HB hb; have HB := n0_; clear n0_; have hk2_ := (HB.out.cell (p := ⟨b, 2, none⟩) hbl).trans hk2; have hk3_ := (HB.out.cell (p := ⟨b, 3, none⟩) hbl).trans hk3)
      | (go_at_call 65; (with_reducible refine (Qan B b l _ k _ hkl (St.below HST.out zq0) hd).mono ?_); rintro e w9 ⟨rfl, h9⟩; subst w9)
      | (go_at_call 64; (with_reducible refine (Qaw 23 _).mono ?_); rintro e w9 ⟨rfl, h9⟩; subst w9; exact ⟨rfl, rfl, BW.mono zq0 hBw⟩))
    | false =>
     rw [if_neg (beq_eq_false_iff_ne.1 hd)]
     by_cases hr : q = rootP
     ·
      rw [if_pos hr]
      have hqr : (q.toList == [47]) = true := by rw [hr]; exact root_eq
      clear hr
      go_enter Tryz.func49, Tryz.ntmps49
      go_wp2_with (first
       | (go_at_call 34; (with_reducible refine (Qak p _ hp).mono ?_); rintro e w1 ⟨h1, hb⟩; rw [if_pos h0] at h1; obtain ⟨An, cn, rfl, hcn, hCn⟩ := h1; have HCN := am hCn; clear hCn; have n0_ := am (Qa zq0 hb); clear HB hb; have HB := n0_; clear n0_; have hk2_ := (HB.out.cell (p := ⟨b, 2, none⟩) hbl).trans hk2; have hk3_ := (HB.out.cell (p := ⟨b, 3, none⟩) hbl).trans hk3)
       | (go_at_call 34; (with_reducible refine (Qak q _ hq).mono ?_); rintro e w1q ⟨h1, hb⟩; rw [if_pos hzq] at h1; obtain ⟨Anq, cnq, rfl, hcnq, hCn⟩ := h1; have HCNq := am hCn; clear hCn; have HCN2 := am (Kd.C_below HCN.out hb); have n0_ := am (Qa zq0 hb); clear HB hb; have HB := n0_; clear n0_; have hk2_ := (HB.out.cell (p := ⟨b, 2, none⟩) hbl).trans hk2; have hk3_ := (HB.out.cell (p := ⟨b, 3, none⟩) hbl).trans hk3)
       | (go_at_call 33; (with_reducible refine (Qaq B b l _ An cn p _ (St.below HST.out zq0) HO.out HCN2.out hcn).mono ?_); rintro e w2 ⟨h1, hb⟩; rw [HK.out] at h1; subst h1; have n0_ := am (Qa zq0 hb); clear HB hb; have HB := n0_; clear n0_; have hk2_ := (HB.out.cell (p := ⟨b, 2, none⟩) hbl).trans hk2; have hk3_ := (HB.out.cell (p := ⟨b, 3, none⟩) hbl).trans hk3)
       | (go_at_call 65; (with_reducible refine (Qan B b l _ k _ hkl (St.below HST.out zq0) hd).mono ?_); rintro e w9 ⟨rfl, h9⟩; subst w9)
       | (go_at_call 64; (with_reducible refine (Qau _ _).mono ?_); rintro e w9 ⟨rfl, h9⟩; subst w9)
       | (go_at_call 64; (with_reducible refine (Qaw 24 _).mono ?_); rintro e w9 ⟨rfl, h9⟩; subst w9; exact ⟨rfl, rfl, BW.mono zq0 hBw⟩))
     ·
      rw [if_neg hr]
      have hqr : (q.toList == [47]) = false := beq_eq_false_iff_ne.2 fun h => hr (Qax (h.trans (beq_iff_eq.1 root_eq).symm))
      cases hs : spotF l q with
      | inr n =>
       dsimp only
       have HS := am hs
       clear hs
       go_enter Tryz.func49, Tryz.ntmps49
       go_wp2_with (first
        | (go_at_call 34; (with_reducible refine (Qak p _ hp).mono ?_); rintro e w1 ⟨h1, hb⟩; rw [if_pos h0] at h1; obtain ⟨An, cn, rfl, hcn, hCn⟩ := h1; have HCN := am hCn; clear hCn; have n0_ := am (Qa zq0 hb); clear HB hb; have HB := n0_; clear n0_; have hk2_ := (HB.out.cell (p := ⟨b, 2, none⟩) hbl).trans hk2; have hk3_ := (HB.out.cell (p := ⟨b, 3, none⟩) hbl).trans hk3)
        | (go_at_call 34; (with_reducible refine (Qak q _ hq).mono ?_); rintro e w1q ⟨h1, hb⟩; rw [if_pos hzq] at h1; obtain ⟨Anq, cnq, rfl, hcnq, hCn⟩ := h1; have HCNq := am hCn; clear hCn; have HCN2 := am (Kd.C_below HCN.out hb); have n0_ := am (Qa zq0 hb); clear HB hb; have HB := n0_; clear n0_; have hk2_ := (HB.out.cell (p := ⟨b, 2, none⟩) hbl).trans hk2; have hk3_ := (HB.out.cell (p := ⟨b, 3, none⟩) hbl).trans hk3)
        | (go_at_call 33; (with_reducible refine (Qaq B b l _ An cn p _ (St.below HST.out zq0) HO.out HCN2.out hcn).mono ?_); rintro e w2 ⟨h1, hb⟩; rw [HK.out] at h1; subst h1; have n0_ := am (Qa zq0 hb); clear HB hb; have HB := n0_; clear n0_; have hk2_ := (HB.out.cell (p := ⟨b, 2, none⟩) hbl).trans hk2; have hk3_ := (HB.out.cell (p := ⟨b, 3, none⟩) hbl).trans hk3)
        | (go_at_call 65; (with_reducible refine (Qan B b l _ k _ hkl (St.below HST.out zq0) hd).mono ?_); rintro e w9 ⟨rfl, h9⟩; subst w9)
        | (go_at_call 64; (with_reducible refine (Qau _ _).mono ?_); rintro e w9 ⟨rfl, h9⟩; subst w9)
        | (go_at_call 74; (with_reducible refine (Qcb B b l _ q _ (St.below HST.out zq0) HO.out hq hr).mono ?_); rintro e w3 ⟨h1, hb⟩; rw [HS.out] at h1; subst h1; have n0_ := am (Qa zq0 hb); clear HB hb; have HB := n0_; clear n0_; have hk2_ := (HB.out.cell (p := ⟨b, 2, none⟩) hbl).trans hk2; exact ⟨rfl, rfl, BW.mono zq0 hBw⟩))
      | inl s =>
       obtain ⟨d, nm, o⟩ := s
       have HS := am hs
       have hdl : d < l.length := (Qbb hs).choose_spec.2.2.2.2.1
       clear hs
       cases o with
       | some j =>
        dsimp only
        have hj : decide ((j : Int) < 0) = false := decide_eq_false zq3
        go_enter Tryz.func49, Tryz.ntmps49
        go_wp2_with (first
         | (go_at_call 34; (with_reducible refine (Qak p _ hp).mono ?_); rintro e w1 ⟨h1, hb⟩; rw [if_pos h0] at h1; obtain ⟨An, cn, rfl, hcn, hCn⟩ := h1; have HCN := am hCn; clear hCn; have n0_ := am (Qa zq0 hb); clear HB hb; have HB := n0_; clear n0_; have hk2_ := (HB.out.cell (p := ⟨b, 2, none⟩) hbl).trans hk2; have hk3_ := (HB.out.cell (p := ⟨b, 3, none⟩) hbl).trans hk3)
         | (go_at_call 34; (with_reducible refine (Qak q _ hq).mono ?_); rintro e w1q ⟨h1, hb⟩; rw [if_pos hzq] at h1; obtain ⟨Anq, cnq, rfl, hcnq, hCn⟩ := h1; have HCNq := am hCn; clear hCn; have HCN2 := am (Kd.C_below HCN.out hb); have n0_ := am (Qa zq0 hb); clear HB hb; have HB := n0_; clear n0_; have hk2_ := (HB.out.cell (p := ⟨b, 2, none⟩) hbl).trans hk2; have hk3_ := (HB.out.cell (p := ⟨b, 3, none⟩) hbl).trans hk3)
         | (go_at_call 33; (with_reducible refine (Qaq B b l _ An cn p _ (St.below HST.out zq0) HO.out HCN2.out hcn).mono ?_); rintro e w2 ⟨h1, hb⟩; rw [HK.out] at h1; subst h1; have n0_ := am (Qa zq0 hb); clear HB hb; have HB := n0_; clear n0_; have hk2_ := (HB.out.cell (p := ⟨b, 2, none⟩) hbl).trans hk2; have hk3_ := (HB.out.cell (p := ⟨b, 3, none⟩) hbl).trans hk3)
         | (go_at_call 65; (with_reducible refine (Qan B b l _ k _ hkl (St.below HST.out zq0) hd).mono ?_); rintro e w9 ⟨rfl, h9⟩; subst w9)
         | (go_at_call 64; (with_reducible refine (Qau _ _).mono ?_); rintro e w9 ⟨rfl, h9⟩; subst w9)
         | (go_at_call 74; (with_reducible refine (Qcb B b l _ q _ (St.below HST.out zq0) HO.out hq hr).mono ?_); rintro e w3 ⟨h1, hb⟩; rw [HS.out] at h1; subst h1; have n0_ := am (Qa zq0 hb); clear HB hb; have HB := n0_; clear n0_; have hk2_ := (HB.out.cell (p := ⟨b, 2, none⟩) hbl).trans hk2; unfold spotV; dsimp only [nodeV])
         | (go_at_call 64; (with_reducible refine (Qaw 24 _).mono ?_); rintro e w9 ⟨rfl, h9⟩; subst w9; exact ⟨rfl, rfl, BW.mono zq0 hBw⟩))
       | none =>
        dsimp only
        obtain ⟨hBb', v, hw, hS⟩ := HST.out
        obtain ⟨A, cap, rfl, hcap, hC⟩ := Kd.S_reads hS
        have HW := am hw
        have HC := am hC
        clear hw hS hC hBb'
        have hk0 : (0 : Int) ≤ (k : Int) := by omega
        have hk1 : (k : Int) < (l.length : Int) := by omega
        by_cases hl : (nd l k).f1 < 200
        ·
         rw [if_pos hl]
         have hll : decide ((rd_T52 l (k : Int)).f1 < 200) = true := decide_eq_true hl
         clear hl
         cases hf : fullB l d with
         | true =>
          rw [if_pos rfl]
          go_enter Tryz.func49, Tryz.ntmps49
          go_wp2_with (first
           | (go_at_call 34; (with_reducible refine (Qak p _ hp).mono ?_); rintro e w1 ⟨h1, hb⟩; rw [if_pos h0] at h1; obtain ⟨An, cn, rfl, hcn, hCn⟩ := h1; have HCN := am hCn; clear hCn; have n0_ := am (Qa zq0 hb); clear HB hb; have HB := n0_; clear n0_; have hk2_ := (HB.out.cell (p := ⟨b, 2, none⟩) hbl).trans hk2; have hk3_ := (HB.out.cell (p := ⟨b, 3, none⟩) hbl).trans hk3)
           | (go_at_call 34; (with_reducible refine (Qak q _ hq).mono ?_); rintro e w1q ⟨h1, hb⟩; rw [if_pos hzq] at h1; obtain ⟨Anq, cnq, rfl, hcnq, hCn⟩ := h1; have HCNq := am hCn; clear hCn; have HCN2 := am (Kd.C_below HCN.out hb); have n0_ := am (Qa zq0 hb); clear HB hb; have HB := n0_; clear n0_; have hk2_ := (HB.out.cell (p := ⟨b, 2, none⟩) hbl).trans hk2; have hk3_ := (HB.out.cell (p := ⟨b, 3, none⟩) hbl).trans hk3)
           | (go_at_call 33; (with_reducible refine (Qaq B b l _ An cn p _ (St.below HST.out zq0) HO.out HCN2.out hcn).mono ?_); rintro e w2 ⟨h1, hb⟩; rw [HK.out] at h1; subst h1; have n0_ := am (Qa zq0 hb); clear HB hb; have HB := n0_; clear n0_; have hk2_ := (HB.out.cell (p := ⟨b, 2, none⟩) hbl).trans hk2; have hk3_ := (HB.out.cell (p := ⟨b, 3, none⟩) hbl).trans hk3)
           | (go_at_call 65; (with_reducible refine (Qan B b l _ k _ hkl (St.below HST.out zq0) hd).mono ?_); rintro e w9 ⟨rfl, h9⟩; subst w9)
           | (go_at_call 64; (with_reducible refine (Qau _ _).mono ?_); rintro e w9 ⟨rfl, h9⟩; subst w9)
           | (go_at_call 74; (with_reducible refine (Qcb B b l _ q _ (St.below HST.out zq0) HO.out hq hr).mono ?_); rintro e w3 ⟨h1, hb⟩; rw [HS.out] at h1; subst h1; have n0_ := am (Qa zq0 hb); clear HB hb; have HB := n0_; clear n0_; have hk2_ := (HB.out.cell (p := ⟨b, 2, none⟩) hbl).trans hk2; have hw2 := Qaf HW.out (Qaa HB.out (.cells #[.int .i64 (d : Int), .string nm, .int .i64 (-1)] 92)); have hC2 := Kd.C_below HC.out (Qaa HB.out (.cells #[.int .i64 (d : Int), .string nm, .int .i64 (-1)] 92)); obtain ⟨ad, A2, c2, A3, c3, hA, -, hx1, -, hx3, -, -, -, -⟩ := Qaz hC2 (k : Int) zq3 zq3; subst hA; rw [Int.toNat_natCast] at hx1 hx3; have hy0 := (Qab hw2 0).trans (show _ = some (Value.slice (some ad) l.length cap) from rfl); clear hw2 hC2; unfold spotV; dsimp only [nodeV])
           | (go_at_call 75; (with_reducible refine (Qgi B b l _ d _ hdl (St.below HST.out zq0) hf).mono ?_); rintro e w9 ⟨rfl, h9⟩; subst w9)
           | (go_at_call 64; (with_reducible refine (Qaw 27 _).mono ?_); rintro e w9 ⟨rfl, h9⟩; subst w9; exact ⟨rfl, rfl, BW.mono zq0 hBw⟩))
         | false =>
          rw [if_neg zq9]
          have hkm : k < 1000000 := by have := HO.out.len; omega
          go_enter Tryz.func49, Tryz.ntmps49
          go_wp2_with (first
           | (go_at_call 34; (with_reducible refine (Qak p _ hp).mono ?_); rintro e w1 ⟨h1, hb⟩; rw [if_pos h0] at h1; obtain ⟨An, cn, rfl, hcn, hCn⟩ := h1; have HCN := am hCn; clear hCn; have n0_ := am (Qa zq0 hb); clear HB hb; have HB := n0_; clear n0_; have hk2_ := (HB.out.cell (p := ⟨b, 2, none⟩) hbl).trans hk2; have hk3_ := (HB.out.cell (p := ⟨b, 3, none⟩) hbl).trans hk3)
           | (go_at_call 34; (with_reducible refine (Qak q _ hq).mono ?_); rintro e w1q ⟨h1, hb⟩; rw [if_pos hzq] at h1; obtain ⟨Anq, cnq, rfl, hcnq, hCn⟩ := h1; have HCNq := am hCn; clear hCn; have HCN2 := am (Kd.C_below HCN.out hb); have n0_ := am (Qa zq0 hb); clear HB hb; have HB := n0_; clear n0_; have hk2_ := (HB.out.cell (p := ⟨b, 2, none⟩) hbl).trans hk2; have hk3_ := (HB.out.cell (p := ⟨b, 3, none⟩) hbl).trans hk3)
           | (go_at_call 33; (with_reducible refine (Qaq B b l _ An cn p _ (St.below HST.out zq0) HO.out HCN2.out hcn).mono ?_); rintro e w2 ⟨h1, hb⟩; rw [HK.out] at h1; subst h1; have n0_ := am (Qa zq0 hb); clear HB hb; have HB := n0_; clear n0_; have hk2_ := (HB.out.cell (p := ⟨b, 2, none⟩) hbl).trans hk2; have hk3_ := (HB.out.cell (p := ⟨b, 3, none⟩) hbl).trans hk3)
           | (go_at_call 65; (with_reducible refine (Qan B b l _ k _ hkl (St.below HST.out zq0) hd).mono ?_); rintro e w9 ⟨rfl, h9⟩; subst w9)
           | (go_at_call 64; (with_reducible refine (Qau _ _).mono ?_); rintro e w9 ⟨rfl, h9⟩; subst w9)
           | (go_at_call 74; (with_reducible refine (Qcb B b l _ q _ (St.below HST.out zq0) HO.out hq hr).mono ?_); rintro e w3 ⟨h1, hb⟩; rw [HS.out] at h1; subst h1; have n0_ := am (Qa zq0 hb); clear HB hb; have HB := n0_; clear n0_; have hk2_ := (HB.out.cell (p := ⟨b, 2, none⟩) hbl).trans hk2; have hw2 := Qaf HW.out (Qaa HB.out (.cells #[.int .i64 (d : Int), .string nm, .int .i64 (-1)] 92)); have hC2 := Kd.C_below HC.out (Qaa HB.out (.cells #[.int .i64 (d : Int), .string nm, .int .i64 (-1)] 92)); obtain ⟨ad, A2, c2, A3, c3, hA, -, hx1, -, hx3, -, -, -, -⟩ := Qaz hC2 (k : Int) zq3 zq3; subst hA; rw [Int.toNat_natCast] at hx1 hx3; have hy0 := (Qab hw2 0).trans (show _ = some (Value.slice (some ad) l.length cap) from rfl); clear hw2 hC2; unfold spotV; dsimp only [nodeV])
           | (go_at_call 75; (with_reducible refine (Qgi B b l _ d _ hdl (St.below HST.out zq0) hf).mono ?_); rintro e w9 ⟨rfl, h9⟩; subst w9)
           | (go_at_call 76; (with_reducible refine (Qer B b l _ d nm (-1) k _ hdl (St.below HST.out zq0) HO.out hkm).mono ?_); rintro e w5 ⟨rfl, hst5, hb5⟩; have HST5 := am hst5; have HB5 := am (BW.trans (BW.mono zq0 hBw) hb5); clear hst5 hb5))
          go_end0
          exact ⟨⟨rfl, HST5.out⟩, HB5.out⟩
        ·
         rw [if_neg hl]
         have hll : decide ((rd_T52 l (k : Int)).f1 < 200) = false := decide_eq_false hl
         clear hl
         go_enter Tryz.func49, Tryz.ntmps49
         go_wp2_with (first
          | (go_at_call 34; (with_reducible refine (Qak p _ hp).mono ?_); rintro e w1 ⟨h1, hb⟩; rw [if_pos h0] at h1; obtain ⟨An, cn, rfl, hcn, hCn⟩ := h1; have HCN := am hCn; clear hCn; have n0_ := am (Qa zq0 hb); clear HB hb; have HB := n0_; clear n0_; have hk2_ := (HB.out.cell (p := ⟨b, 2, none⟩) hbl).trans hk2; have hk3_ := (HB.out.cell (p := ⟨b, 3, none⟩) hbl).trans hk3)
          | (go_at_call 34; (with_reducible refine (Qak q _ hq).mono ?_); rintro e w1q ⟨h1, hb⟩; rw [if_pos hzq] at h1; obtain ⟨Anq, cnq, rfl, hcnq, hCn⟩ := h1; have HCNq := am hCn; clear hCn; have HCN2 := am (Kd.C_below HCN.out hb); have n0_ := am (Qa zq0 hb); clear HB hb; have HB := n0_; clear n0_; have hk2_ := (HB.out.cell (p := ⟨b, 2, none⟩) hbl).trans hk2; have hk3_ := (HB.out.cell (p := ⟨b, 3, none⟩) hbl).trans hk3)
          | (go_at_call 33; (with_reducible refine (Qaq B b l _ An cn p _ (St.below HST.out zq0) HO.out HCN2.out hcn).mono ?_); rintro e w2 ⟨h1, hb⟩; rw [HK.out] at h1; subst h1; have n0_ := am (Qa zq0 hb); clear HB hb; have HB := n0_; clear n0_; have hk2_ := (HB.out.cell (p := ⟨b, 2, none⟩) hbl).trans hk2; have hk3_ := (HB.out.cell (p := ⟨b, 3, none⟩) hbl).trans hk3)
          | (go_at_call 65; (with_reducible refine (Qan B b l _ k _ hkl (St.below HST.out zq0) hd).mono ?_); rintro e w9 ⟨rfl, h9⟩; subst w9)
          | (go_at_call 64; (with_reducible refine (Qau _ _).mono ?_); rintro e w9 ⟨rfl, h9⟩; subst w9)
          | (go_at_call 74; (with_reducible refine (Qcb B b l _ q _ (St.below HST.out zq0) HO.out hq hr).mono ?_); rintro e w3 ⟨h1, hb⟩; rw [HS.out] at h1; subst h1; have n0_ := am (Qa zq0 hb); clear HB hb; have HB := n0_; clear n0_; have hk2_ := (HB.out.cell (p := ⟨b, 2, none⟩) hbl).trans hk2; have hw2 := Qaf HW.out (Qaa HB.out (.cells #[.int .i64 (d : Int), .string nm, .int .i64 (-1)] 92)); have hC2 := Kd.C_below HC.out (Qaa HB.out (.cells #[.int .i64 (d : Int), .string nm, .int .i64 (-1)] 92)); obtain ⟨ad, A2, c2, A3, c3, hA, -, hx1, -, hx3, -, -, -, -⟩ := Qaz hC2 (k : Int) zq3 zq3; subst hA; rw [Int.toNat_natCast] at hx1 hx3; have hy0 := (Qab hw2 0).trans (show _ = some (Value.slice (some ad) l.length cap) from rfl); clear hw2 hC2; unfold spotV; dsimp only [nodeV])
          | (go_at_call 64; (with_reducible refine (Qaw 26 _).mono ?_); rintro e w9 ⟨rfl, h9⟩; subst w9; exact ⟨rfl, rfl, BW.mono zq0 hBw⟩))
  ·
   rw [if_pos hzq]
   dsimp only
   go_enter Tryz.func49, Tryz.ntmps49
   go_wp2_with (first
    | (go_at_call 34; (with_reducible refine (Qak p _ hp).mono ?_); rintro e w1 ⟨h1, hb⟩; rw [if_pos h0] at h1; obtain ⟨An, cn, rfl, hcn, hCn⟩ := h1; have HCN := am hCn; clear hCn; have n0_ := am (Qa zq0 hb); clear HB hb; have HB := n0_; clear n0_; have hk2_ := (HB.out.cell (p := ⟨b, 2, none⟩) hbl).trans hk2; have hk3_ := (HB.out.cell (p := ⟨b, 3, none⟩) hbl).trans hk3)
    | (go_at_call 34; (with_reducible refine (Qak q _ hq).mono ?_); rintro e w1q ⟨h1, hb⟩; rw [if_neg hzq] at h1; subst h1; have n0_ := am (Qa zq0 hb); clear HB hb; have HB := n0_; clear n0_; have hk2_ := (HB.out.cell (p := ⟨b, 2, none⟩) hbl).trans hk2; exact ⟨rfl, rfl, BW.mono zq0 hBw⟩))
 ·
  rw [if_pos h0]
  dsimp only
  go_enter Tryz.func49, Tryz.ntmps49
  go_wp2_with (first
   | (go_at_call 34; (with_reducible refine (Qak p _ hp).mono ?_); rintro e w1 ⟨h1, hb⟩; rw [if_neg h0] at h1; subst h1; have n0_ := am (Qa zq0 hb); clear HB hb; have HB := n0_; clear n0_; have hk2_ := (HB.out.cell (p := ⟨b, 2, none⟩) hbl).trans hk2; exact ⟨rfl, rfl, BW.mono zq0 hBw⟩))
end
end Go.Proofs.YtbhjggbijkjmnaaGreatDoor.PZ
end
