import Derived.Test.YtbhjggbijkjmnaaGreatDoorM15
set_option linter.unusedVariables false
set_option linter.unusedSimpArgs false
section
namespace Go.Proofs.YtbhjggbijkjmnaaGreatDoor.PZ
open Go.RowKit Go.Proofs.YtbhjggbijkjmnaaGreatDoorW.PrintWords Go.Proofs.YtbhjggbijkjmnaaGreatDoorW.PrintLast Go.Proofs.YtbhjggbijkjmnaaGreatDoorW.PrintMore Go.Proofs.YtbhjggbijkjmnaaGreatDoor.B Go.Proofs.YtbhjggbijkjmnaaGreatDoor.Ord TD
set_option maxRecDepth 100000
section
attribute [local go_sem ↓] Go.wp_at_zero Go.wp_at_succ
inductive LinC (l : List S52) (p q : ByteArray) : List S52 × S37 → Prop
 | e1 {e f} : (Qah p).2 = e → (Qah q).2 = f → (e != 0) = true → LinC l p q (eR l 20)
 | e2 {e} : (Qah p).2 = 0 → (Qah q).2 = e → (e != 0) = true → LinC l p q (eR l 20)
 | e3 {e} : (Qah p).2 = 0 → (Qah q).2 = 0 → Qav l p = .inr e → (e != 0) = true → LinC l p q (eR l e)
 | e4 {k} : (Qah p).2 = 0 → (Qah q).2 = 0 → Qav l p = .inl k → k < l.length → ((nd l k).f0 == 2) = true → LinC l p q (eR l 23)
 | e5 {k} : (Qah p).2 = 0 → (Qah q).2 = 0 → Qav l p = .inl k → k < l.length → ((nd l k).f0 == 2) = false → (q.toList == [47]) = true → LinC l p q (eR l 24)
 | e6 {k e} : (Qah p).2 = 0 → (Qah q).2 = 0 → Qav l p = .inl k → k < l.length → ((nd l k).f0 == 2) = false → (q.toList == [47]) = false → spotF l q = .inr e → (e != 0) = true → LinC l p q (eR l e)
 | e7 {k dq nq j} : (Qah p).2 = 0 → (Qah q).2 = 0 → Qav l p = .inl k → k < l.length → ((nd l k).f0 == 2) = false → (q.toList == [47]) = false → spotF l q = .inl (dq, nq, some j) → LinC l p q (eR l 24)
 | e8 {k dq nq} : (Qah p).2 = 0 → (Qah q).2 = 0 → Qav l p = .inl k → k < l.length → ((nd l k).f0 == 2) = false → (q.toList == [47]) = false → spotF l q = .inl (dq, nq, none) → 200 ≤ (nd l k).f1 → LinC l p q (eR l 26)
 | e9 {k dq nq} : (Qah p).2 = 0 → (Qah q).2 = 0 → Qav l p = .inl k → k < l.length → ((nd l k).f0 == 2) = false → (q.toList == [47]) = false → spotF l q = .inl (dq, nq, none) → (nd l k).f1 < 200 → dq < l.length → 64 ≤ (nd l dq).f3.length → LinC l p q (eR l 27)
 | go {k dq nq} : (Qah p).2 = 0 → (Qah q).2 = 0 → Qav l p = .inl k → k < l.length → ((nd l k).f0 == 2) = false → (q.toList == [47]) = false → spotF l q = .inl (dq, nq, none) → (nd l k).f1 < 200 → dq < l.length → (nd l dq).f3.length < 64 → LinC l p q (putT l dq nq k, res0)
theorem lin_cases {l : List S52} (hw : Rt l) (p q : ByteArray) : ∃ R, Qbh l (plain (linkF l p q)) = R ∧ LinC l p q R := by
 refine ⟨_, rfl, ?_⟩
 by_cases h0 : (Qah p).2 = 0
 rotate_left
 ·
  rw [show linkF l p q = .inr 20 by unfold linkF; rw [if_pos h0, Qfe p h0]]
  exact .e1 rfl rfl (bne_iff_ne.2 h0)
 by_cases h1 : (Qah q).2 = 0
 rotate_left
 ·
  rw [show linkF l p q = .inr 20 by unfold linkF; rw [if_neg (fun h => h h0), if_pos h1, Qfe q h1]]
  exact .e2 h0 rfl (bne_iff_ne.2 h1)
 have hpl : Qav l p = wk l (Qah p).1 0 := by unfold Qav; rw [if_pos h0]
 unfold linkF
 rw [if_neg (fun h => h h0), if_neg (fun h => h h1), ← hpl]
 cases hk : Qav l p with
 | inr e => exact .e3 h0 h1 hk (bne_iff_ne.2 (Qcc hk))
 | inl k =>
  have hkl := Qfb hw.pr.wf hk
  dsimp only
  by_cases h2 : (nd l k).f0 = 2
  · rw [if_pos h2]; exact .e4 h0 h1 hk hkl (beq_iff_eq.2 h2)
  rw [if_neg h2]
  replace h2 := beq_eq_false_iff_ne.2 h2
  by_cases hq : q = rootP
  · rw [if_pos hq]; exact .e5 h0 h1 hk hkl h2 ((Qfi q).2 hq)
  rw [if_neg hq]
  have hqf : (q.toList == [47]) = false := Bool.eq_false_iff.2 fun h => hq ((Qfi q).1 h)
  cases hj : spotF l q with
  | inr e => exact .e6 h0 h1 hk hkl h2 hqf hj (bne_iff_ne.2 (Qdy hj))
  | inl s =>
   obtain ⟨dq, nq, o⟩ := s
   have hdq := dir_lt (spot_dir hj)
   cases o with
   | some j => exact .e7 h0 h1 hk hkl h2 hqf hj
   | none =>
    dsimp only
    by_cases hm : (nd l k).f1 < 200
    ·
     rw [if_pos hm]
     by_cases hf : 64 ≤ (nd l dq).f3.length
     · rw [if_pos (show fullB l dq = true from decide_eq_true hf)]; exact .e9 h0 h1 hk hkl h2 hqf hj hm hdq hf
     · rw [if_neg (fun h : fullB l dq = true => hf (of_decide_eq_true h))]; exact .go h0 h1 hk hkl h2 hqf hj hm hdq zq3
    · rw [if_neg hm]; exact .e8 h0 h1 hk hkl h2 hqf hj zq3
set_option maxHeartbeats 16000000 in
theorem rlink (A : Option Addr) (c : Nat) (l : List S52) (p q : ByteArray) (a n : Int) (Ad : Option Addr) (cd : Nat) (d : List Int) (w : World) (hC : Kd.C k52 w A l.length l) (hc : l.length ≤ c) (hrt : Rt l) (hp : p.size < 1000000) (hq : q.size < 1000000) :
  Calls Tryz.prog 59 #[.agg #[.slice A l.length c], .agg #[.int .i64 3, .string p, .string q, .int .i64 a, .int .i64 n, .slice Ad d.length cd]] w fun e w' => RQ w (Qbh l (plain (linkF l p q))) e w' := by
 have HC := am hC
 have HT := am hrt
 have HM := am (show ∀ k, (nd l k).f3.length < 1000000000 from fun k => by have := hrt.pr.ents k; omega)
 have HM2 := am (show ∀ k, (nd l k).f2.length < 1000000000 ∧ (nd l k).f3.length < 1000000000 from fun k => ⟨by have := hrt.pr.size k; omega, HM.out k⟩)
 have hl56 : l.length ≤ 56 := hrt.pr.le
 have hl0 : 0 < l.length := hrt.pr.wf.pos
 have HF := am (Qco w (.slice A l.length c) (.int .i64 3) (.string p) (.string q) (.int .i64 a) (.int .i64 n) (.slice Ad d.length cd))
 obtain ⟨ad, fA, fc, rfl, hN⟩ := nd_all hC hl0
 have HN := am hN
 obtain ⟨R, hX, hcs⟩ := lin_cases hrt p q
 rw [hX]
 clear hC hrt hX hN
 rcases hcs with @⟨e, f, hsp, hsq, he⟩ | @⟨e, hsp, hsq, he⟩ | @⟨e, hsp, hsq, hk, he⟩ | @⟨k, hsp, hsq, hk, hkl, hb2⟩ | @⟨k, hsp, hsq, hk, hkl, hb2, hqr⟩ | @⟨k, e, hsp, hsq, hk, hkl, hb2, hqr, hq2, he⟩ | @⟨k, dq, nq, j, hsp, hsq, hk, hkl, hb2, hqr, hq2⟩ | @⟨k, dq, nq, hsp, hsq, hk, hkl, hb2, hqr, hq2, hm⟩ | @⟨k, dq, nq, hsp, hsq, hk, hkl, hb2, hqr, hq2, hm, hdq, hf⟩ | @⟨k, dq, nq, hsp, hsq, hk, hkl, hb2, hqr, hq2, hm, hdq, hf⟩
 all_goals try have HNQ := nq_of hqr
 all_goals try have hki : (k : Int) < (l.length : Int) := by omega
 all_goals (
  go_enter Tryz.func59, Tryz.ntmps59
  go_wp2_with (first
   | (go_at_call 68; (with_reducible refine (rsplit p _ hp).mono ?_); rintro e w1 ⟨⟨As, ns, cs, rfl⟩, hb⟩; rw [hsp]; replace HF := am (HF.out.below (Qa zq1 hb)); (try clear t0 t1 t2 t3 t4 p0 p1 p2 p3 p4 p5 r0 r1 r2 r3 r4 r5 r6 f1 f2); (try clear y0); (try clear y1); (try clear y2); (try clear y3); (try clear y4); clear hb; obtain ⟨⟨t0, t1, t2, t3, t4⟩, ⟨p0, p1, p2, p3, p4, p5⟩, ⟨r0, r1, r2, r3, r4, r5, r6⟩, f1, f2⟩ := HF.out.all; (try have y0 := Qae HF.out.bel (HN.out k hkl).1); (try have y4 := Qae HF.out.bel (HN.out k hkl).2.1); (try have y1 := Qae HF.out.bel (HN.out dq hdq).2.2); (try have y2 := Qae HF.out.bel (HN.out j hj).1); (try have y3 := Qae HF.out.bel (HN.out j hj).2.2))
   | (go_at_call 68; (with_reducible refine (rsplit q _ hq).mono ?_); rintro e w1 ⟨⟨As, ns, cs, rfl⟩, hb⟩; rw [hsq]; replace HF := am (HF.out.below (Qa zq1 hb)); (try clear t0 t1 t2 t3 t4 p0 p1 p2 p3 p4 p5 r0 r1 r2 r3 r4 r5 r6 f1 f2); (try clear y0); (try clear y1); (try clear y2); (try clear y3); (try clear y4); clear hb; obtain ⟨⟨t0, t1, t2, t3, t4⟩, ⟨p0, p1, p2, p3, p4, p5⟩, ⟨r0, r1, r2, r3, r4, r5, r6⟩, f1, f2⟩ := HF.out.all; (try have y0 := Qae HF.out.bel (HN.out k hkl).1); (try have y4 := Qae HF.out.bel (HN.out k hkl).2.1); (try have y1 := Qae HF.out.bel (HN.out dq hdq).2.2); (try have y2 := Qae HF.out.bel (HN.out j hj).1); (try have y3 := Qae HF.out.bel (HN.out j hj).2.2))
   | (go_at_call 35; (with_reducible refine (Qdd _ c l p _ (Kd.C_below HC.out (Qa HF.out.bel zq1)) hc HT.out.pr.wf HM.out hp).mono ?_); rintro e w1 ⟨rfl, hb⟩; rw [hk]; dsimp only [pairR]; replace HF := am (HF.out.below (Qa zq1 hb)); (try clear t0 t1 t2 t3 t4 p0 p1 p2 p3 p4 p5 r0 r1 r2 r3 r4 r5 r6 f1 f2); (try clear y0); (try clear y1); (try clear y2); (try clear y3); (try clear y4); clear hb; obtain ⟨⟨t0, t1, t2, t3, t4⟩, ⟨p0, p1, p2, p3, p4, p5⟩, ⟨r0, r1, r2, r3, r4, r5, r6⟩, f1, f2⟩ := HF.out.all; (try have y0 := Qae HF.out.bel (HN.out k hkl).1); (try have y4 := Qae HF.out.bel (HN.out k hkl).2.1); (try have y1 := Qae HF.out.bel (HN.out dq hdq).2.2); (try have y2 := Qae HF.out.bel (HN.out j hj).1); (try have y3 := Qae HF.out.bel (HN.out j hj).2.2))
   | (go_at_call 81; (with_reducible refine (rto _ c l q _ (Kd.C_below HC.out (Qa HF.out.bel zq1)) hc HT.out.pr.wf HM.out hq HNQ.out).mono ?_); rintro e w1 ⟨rfl, hb⟩; rw [hq2]; dsimp only [spotR, nodeV]; replace HF := am (HF.out.below (Qa zq1 hb)); (try clear t0 t1 t2 t3 t4 p0 p1 p2 p3 p4 p5 r0 r1 r2 r3 r4 r5 r6 f1 f2); (try clear y0); (try clear y1); (try clear y2); (try clear y3); (try clear y4); clear hb; obtain ⟨⟨t0, t1, t2, t3, t4⟩, ⟨p0, p1, p2, p3, p4, p5⟩, ⟨r0, r1, r2, r3, r4, r5, r6⟩, f1, f2⟩ := HF.out.all; (try have y0 := Qae HF.out.bel (HN.out k hkl).1); (try have y4 := Qae HF.out.bel (HN.out k hkl).2.1); (try have y1 := Qae HF.out.bel (HN.out dq hdq).2.2); (try have y2 := Qae HF.out.bel (HN.out j hj).1); (try have y3 := Qae HF.out.bel (HN.out j hj).2.2))
   | (go_at_call 82; (with_reducible refine (rput _ c l dq nq k _ (Kd.C_below HC.out (Qa HF.out.bel zq1)) hc zq3 HM2.out hdq).mono ?_); rintro e w1 ⟨u, rfl, hz, hb⟩; obtain ⟨A4, c4, hu, hc4, hC4⟩ := Kd.S_reads hz; subst hu; have HC4 := am (And.intro hc4 hC4); clear hz hc4 hC4; replace HF := am (HF.out.below (Qa zq1 hb)); (try clear t0 t1 t2 t3 t4 p0 p1 p2 p3 p4 p5 r0 r1 r2 r3 r4 r5 r6 f1 f2); (try clear y0); (try clear y1); (try clear y2); (try clear y3); (try clear y4); clear hb; obtain ⟨⟨t0, t1, t2, t3, t4⟩, ⟨p0, p1, p2, p3, p4, p5⟩, ⟨r0, r1, r2, r3, r4, r5, r6⟩, f1, f2⟩ := HF.out.all; (try have y0 := Qae HF.out.bel (HN.out k hkl).1); (try have y4 := Qae HF.out.bel (HN.out k hkl).2.1); (try have y1 := Qae HF.out.bel (HN.out dq hdq).2.2); (try have y2 := Qae HF.out.bel (HN.out j hj).1); (try have y3 := Qae HF.out.bel (HN.out j hj).2.2)))
  first
   | (go_region_with (go_at_call 28; (with_reducible refine (Qcp _ _).mono ?_); rintro en w1 ⟨rfl, hb⟩; replace HF := am (HF.out.below (Qa zq1 hb)); (try clear t0 t1 t2 t3 t4 p0 p1 p2 p3 p4 p5 r0 r1 r2 r3 r4 r5 r6 f1 f2); (try clear y0); (try clear y1); (try clear y2); (try clear y3); (try clear y4); clear hb; obtain ⟨⟨t0, t1, t2, t3, t4⟩, ⟨p0, p1, p2, p3, p4, p5⟩, ⟨r0, r1, r2, r3, r4, r5, r6⟩, f1, f2⟩ := HF.out.all; (try have y0 := Qae HF.out.bel (HN.out k hkl).1); (try have y4 := Qae HF.out.bel (HN.out k hkl).2.1); (try have y1 := Qae HF.out.bel (HN.out dq hdq).2.2); (try have y2 := Qae HF.out.bel (HN.out j hj).1); (try have y3 := Qae HF.out.bel (HN.out j hj).2.2)); all_goals (go_wp2; exact Qbe (l := l) (r := { res0 with f0 := _ }) rfl HF.out _ rfl rfl hc (Kd.C_below HC.out HF.out.bel) (Nat.zero_le _) (Kd.C_nil _ _) (Nat.zero_le _) (Kd.C_nil _ _)))
   | (have H4 := HC4; exact Qbe (fn := Tryz.f59) (w := w) (W := w1) (l := putT l dq nq k) (r := res0) (A1 := A4) (A2 := none) (A3 := none) (c1 := c4) (c2 := 0) (c3 := 0) zq25 HF.out _ rfl rfl HC4.out.1 HC4.out.2 (Nat.zero_le _) (Kd.C_nil _ _) (Nat.zero_le _) (Kd.C_nil _ _))
   | (trace_state; skip))
end
end Go.Proofs.YtbhjggbijkjmnaaGreatDoor.PZ
end
