import Derived.Test.YtbhjggbijkjmnaaGreatDoorM15
set_option linter.unusedVariables false
set_option linter.unusedSimpArgs false
section
namespace Go.Proofs.YtbhjggbijkjmnaaGreatDoor.PZ
open Go.RowKit Go.Proofs.YtbhjggbijkjmnaaGreatDoorW.PrintWords Go.Proofs.YtbhjggbijkjmnaaGreatDoorW.PrintLast Go.Proofs.YtbhjggbijkjmnaaGreatDoorW.PrintMore Go.Proofs.YtbhjggbijkjmnaaGreatDoor.B Go.Proofs.YtbhjggbijkjmnaaGreatDoor.Ord TD
set_option maxRecDepth 100000
section
attribute [local go_sem ↓] Go.wp_at_zero Go.wp_at_succ
inductive RenG (l : List S52) (q : ByteArray) (k : Nat) (b : Bool) (d : Nat) (np : ByteArray) : List S52 × S37 → Prop
 | no {e} : spotF l q = .inr e → (e != 0) = true → RenG l q k b d np (eR l e)
 | same {dq nq} : spotF l q = .inl (dq, nq, some k) → RenG l q k b d np (l, res0)
 | many {dq nq} : spotF l q = .inl (dq, nq, none) → dq < l.length → ((dq : Int) != (d : Int)) = true → 64 ≤ (nd l dq).f3.length → RenG l q k b d np (eR l 27)
 | here {dq nq} : spotF l q = .inl (dq, nq, none) → dq < l.length → ((dq : Int) != (d : Int)) = false → RenG l q k b d np (putT (cutT l d np) dq nq k, res0)
 | there {dq nq} : spotF l q = .inl (dq, nq, none) → dq < l.length → ((dq : Int) != (d : Int)) = true → (nd l dq).f3.length < 64 → RenG l q k b d np (putT (cutT l d np) dq nq k, res0)
 | nodir {dq nq j} : spotF l q = .inl (dq, nq, some j) → j < l.length → j ≠ k → b = true → ((nd l j).f0 == 2) = false → RenG l q k b d np (eR l 22)
 | isdir {dq nq j} : spotF l q = .inl (dq, nq, some j) → j < l.length → j ≠ k → b = false → ((nd l j).f0 == 2) = true → RenG l q k b d np (eR l 23)
 | filled {dq nq j} : spotF l q = .inl (dq, nq, some j) → j < l.length → j ≠ k → ((nd l j).f0 == 2) = b → 0 < (nd l j).f3.length → RenG l q k b d np (eR l 25)
 | over {dq nq j} : spotF l q = .inl (dq, nq, some j) → j < l.length → j ≠ k → ((nd l j).f0 == 2) = b → (nd l j).f3.length = 0 → dq < l.length → RenG l q k b d np (putT (cutT l d np) dq nq k, res0)
inductive RenC (l : List S52) (p q : ByteArray) : List S52 × S37 → Prop
 | e1 {e f} : (Qah p).2 = e → (Qah q).2 = f → (e != 0) = true → RenC l p q (eR l 20)
 | e2 {e} : (Qah p).2 = 0 → (Qah q).2 = e → (e != 0) = true → RenC l p q (eR l 20)
 | e3 : (Qah p).2 = 0 → (Qah q).2 = 0 → (p.toList == [47]) = true → RenC l p q (eR l 29)
 | e4 : (Qah p).2 = 0 → (Qah q).2 = 0 → (p.toList == [47]) = false → (q.toList == [47]) = true → RenC l p q (eR l 29)
 | e5 {e} : (Qah p).2 = 0 → (Qah q).2 = 0 → (p.toList == [47]) = false → (q.toList == [47]) = false → Qav l p = .inr e → (e != 0) = true → RenC l p q (eR l e)
 | e6 {k} : (Qah p).2 = 0 → (Qah q).2 = 0 → (p.toList == [47]) = false → (q.toList == [47]) = false → Qav l p = .inl k → k < l.length → ((nd l k).f0 == 2) = true → (q.toList != p.toList) = true → Qbt q p = true → RenC l p q (eR l 29)
 | go {k b d np R} : (Qah p).2 = 0 → (Qah q).2 = 0 → (p.toList == [47]) = false → (q.toList == [47]) = false → Qav l p = .inl k → k < l.length → ((nd l k).f0 == 2) = b → (b = false ∨ (b = true ∧ (q.toList != p.toList) = false) ∨ (b = true ∧ (q.toList != p.toList) = true ∧ Qbt q p = false)) → spotF l p = .inl (d, np, some k) → d < l.length → (nd l d).f0 = 2 → RenG l q k b d np R → RenC l p q R
theorem bne_f {x y : List UInt8} (h : (x != y) = false) : (x == y) = true := by simpa [bne] using h
theorem bne_t {x y : List UInt8} (h : (x != y) = true) : (x == y) = false := by simpa [bne] using h
theorem ren_cases {l : List S52} (hw : Rt l) (p q : ByteArray) : ∃ R, Qbh l (plain (Qbz l p q)) = R ∧ RenC l p q R := by
 refine ⟨_, rfl, ?_⟩
 by_cases h0 : (Qah p).2 = 0
 rotate_left
 ·
  rw [show Qbz l p q = .inr 20 by unfold Qbz; rw [if_pos h0, Qfe p h0]]
  exact .e1 rfl rfl (bne_iff_ne.2 h0)
 by_cases h1 : (Qah q).2 = 0
 rotate_left
 ·
  rw [show Qbz l p q = .inr 20 by unfold Qbz; rw [if_neg (fun h => h h0), if_pos h1, Qfe q h1]]
  exact .e2 h0 rfl (bne_iff_ne.2 h1)
 by_cases hp : p = rootP
 ·
  rw [show Qbz l p q = .inr 29 by unfold Qbz; rw [if_neg (fun h => h h0), if_neg (fun h => h h1), if_pos (Or.inl hp)]]
  exact .e3 h0 h1 ((Qfi p).2 hp)
 by_cases hq : q = rootP
 ·
  rw [show Qbz l p q = .inr 29 by unfold Qbz; rw [if_neg (fun h => h h0), if_neg (fun h => h h1), if_pos (Or.inr hq)]]
  exact .e4 h0 h1 (Bool.eq_false_iff.2 fun h => hp ((Qfi p).1 h)) ((Qfi q).2 hq)
 have hpf : (p.toList == [47]) = false := Bool.eq_false_iff.2 fun h => hp ((Qfi p).1 h)
 have hqf : (q.toList == [47]) = false := Bool.eq_false_iff.2 fun h => hq ((Qfi q).1 h)
 have hpl : Qav l p = wk l (Qah p).1 0 := by unfold Qav; rw [if_pos h0]
 unfold Qbz
 rw [if_neg (fun h => h h0), if_neg (fun h => h h1), if_neg (fun h => h.elim hp hq), ← hpl]
 cases hk : Qav l p with
 | inr e => exact .e5 h0 h1 hpf hqf hk (bne_iff_ne.2 (Qcc hk))
 | inl k =>
  have hkl := Qfb hw.pr.wf hk
  dsimp only
  by_cases hwi : (nd l k).f0 = 2 ∧ q ≠ p ∧ Qbt q p = true
  ·
   rw [if_pos hwi]
   exact .e6 h0 h1 hpf hqf hk hkl (beq_iff_eq.2 hwi.1) (bne_iff_ne.2 fun h => hwi.2.1 (Qax h)) hwi.2.2
  rw [if_neg hwi]
  obtain ⟨d, np, hs⟩ := place_spot hk hp
  rw [hs]
  dsimp only
  have hd2 := spot_dir hs
  have hW : ∀ b, ((nd l k).f0 == 2) = b → (b = false ∨ (b = true ∧ (q.toList != p.toList) = false) ∨ (b = true ∧ (q.toList != p.toList) = true ∧ Qbt q p = false)) := by
   rintro b rfl
   by_cases h2 : (nd l k).f0 = 2
   ·
    refine Or.inr ?_
    by_cases h3 : q = p
    · exact Or.inl ⟨beq_iff_eq.2 h2, by rw [h3]; exact bne_self_eq_false _⟩
    · exact Or.inr ⟨beq_iff_eq.2 h2, bne_iff_ne.2 fun h => h3 (Qax h), Bool.eq_false_iff.2 fun h4 => hwi ⟨h2, h3, h4⟩⟩
   · exact Or.inl (beq_eq_false_iff_ne.2 h2)
  refine .go h0 h1 hpf hqf hk hkl rfl (hW _ rfl) hs (dir_lt hd2) hd2 ?_
  cases hj : spotF l q with
  | inr e => exact .no hj (bne_iff_ne.2 (Qdy hj))
  | inl s =>
   obtain ⟨dq, nq, o⟩ := s
   have hdq := dir_lt (spot_dir hj)
   dsimp only
   unfold moveF
   dsimp only
   cases o with
   | none =>
    dsimp only
    by_cases he : d = dq
    ·
     subst he
     rw [if_pos (Or.inl rfl)]
     exact .here hj hdq (bne_self_eq_false _)
    ·
     have hne : ((dq : Int) != (d : Int)) = true := bne_iff_ne.2 zq3
     by_cases hf : 64 ≤ (nd l dq).f3.length
     ·
      rw [if_neg (fun h => h.elim he (fun h => by unfold fullB at h; exact absurd hf (of_decide_eq_false h)))]
      exact .many hj hdq hne hf
     ·
      rw [if_pos (Or.inr (show fullB l dq = false from decide_eq_false hf))]
      exact .there hj hdq hne zq3
   | some j =>
    have hjl := spot_lt hw.ok hj
    dsimp only
    by_cases he : j = k
    ·
     subst he
     rw [if_pos rfl]
     exact .same hj
    rw [if_neg he]
    by_cases ha : (nd l k).f0 = 2 ∧ (nd l j).f0 ≠ 2
    ·
     rw [if_pos ha]
     exact .nodir hj hjl he (beq_iff_eq.2 ha.1) (beq_eq_false_iff_ne.2 ha.2)
    rw [if_neg ha]
    by_cases hb : (nd l k).f0 ≠ 2 ∧ (nd l j).f0 = 2
    ·
     rw [if_pos hb]
     exact .isdir hj hjl he (beq_eq_false_iff_ne.2 hb.1) (beq_iff_eq.2 hb.2)
    rw [if_neg hb]
    have hab : ((nd l j).f0 == 2) = ((nd l k).f0 == 2) := by
     by_cases h2 : (nd l k).f0 = 2
     · rw [beq_iff_eq.2 h2, beq_iff_eq.2 (Classical.not_not.1 fun h => ha ⟨h2, h⟩)]
     · rw [beq_eq_false_iff_ne.2 h2, beq_eq_false_iff_ne.2 fun h => hb ⟨h2, h⟩]
    by_cases hn : (nd l j).f3 ≠ []
    ·
     rw [if_pos hn]
     exact .filled hj hjl he hab (List.length_pos_iff.2 hn)
    ·
     rw [if_neg hn]
     exact .over hj hjl he hab (by rw [Classical.not_not.1 hn]; rfl) hdq
set_option maxHeartbeats 16000000 in
theorem rrename (A : Option Addr) (c : Nat) (l : List S52) (p q : ByteArray) (a n : Int) (Ad : Option Addr) (cd : Nat) (d : List Int) (w : World) (hC : Kd.C k52 w A l.length l) (hc : l.length ≤ c) (hrt : Rt l) (hp : p.size < 1000000) (hq : q.size < 1000000) :
  Calls Tryz.prog 61 #[.agg #[.slice A l.length c], .agg #[.int .i64 6, .string p, .string q, .int .i64 a, .int .i64 n, .slice Ad d.length cd]] w fun e w' => RQ w (Qbh l (plain (Qbz l p q))) e w' := by
 have HC := am hC
 have HT := am hrt
 have HM := am (show ∀ k, (nd l k).f3.length < 1000000000 from fun k => by have := hrt.pr.ents k; omega)
 have HM2 := am (show ∀ k, (nd l k).f2.length < 1000000000 ∧ (nd l k).f3.length < 1000000000 from fun k => ⟨by have := hrt.pr.size k; omega, HM.out k⟩)
 have hl56 : l.length ≤ 56 := hrt.pr.le
 have hl0 : 0 < l.length := hrt.pr.wf.pos
 have HF := am (Qco w (.slice A l.length c) (.int .i64 6) (.string p) (.string q) (.int .i64 a) (.int .i64 n) (.slice Ad d.length cd))
 obtain ⟨ad, fA, fc, rfl, hN⟩ := nd_all hC hl0
 have HN := am hN
 obtain ⟨R, hX, hcs⟩ := ren_cases hrt p q
 rw [hX]
 clear hC hrt hX hN
 rcases hcs with @⟨e, f, hsp, hsq, he⟩ | @⟨e, hsp, hsq, he⟩ | ⟨hsp, hsq, hpr⟩ | ⟨hsp, hsq, hpr, hqr⟩ | @⟨e, hsp, hsq, hpr, hqr, hk, he⟩ | @⟨k, hsp, hsq, hpr, hqr, hk, hkl, hb2, hqn, hwi⟩ | @⟨k, b, d0, np, R, hsp, hsq, hpr, hqr, hk, hkl, hb2, hW, hs, hdl, hd2, hg⟩
 rotate_left 6
 ·
  have hpc := HT.out.pr.cut hd2 np
  have HM20 := am (show ∀ k, (nd (cutT l d0 np) k).f2.length < 1000000000 ∧ (nd (cutT l d0 np) k).f3.length < 1000000000 from fun k => ⟨by have := hpc.size k; omega, by have := hpc.ents k; omega⟩)
  have HL0 := am (show (cutT l d0 np).length < 1000000 ∧ ∀ dq, dq < l.length → dq < (cutT l d0 np).length from ⟨by have := hpc.le; omega, fun dq h => by unfold cutT; rw [setE_len]; exact h⟩)
  have HNP := nq_of hpr
  have HNQ := nq_of hqr
  have hki : (k : Int) < (l.length : Int) := by omega
  clear hpc hd2
  rcases hW with rfl | ⟨rfl, hqn⟩ | ⟨rfl, hqn, hwi⟩ <;> rcases hg with @⟨e, hq2, he⟩ | @⟨dq, nq, hq2⟩ | @⟨dq, nq, hq2, hdq, hm, hf⟩ | @⟨dq, nq, hq2, hdq, hm⟩ | @⟨dq, nq, hq2, hdq, hm, hf⟩ | @⟨dq, nq, j, hq2, hj, hjk, hbb, hjd⟩ | @⟨dq, nq, j, hq2, hj, hjk, hbb, hjd⟩ | @⟨dq, nq, j, hq2, hj, hjk, hjd, hf⟩ | @⟨dq, nq, j, hq2, hj, hjk, hjd, hf, hdq⟩
  all_goals try (exact absurd hbb zq9)
  all_goals first | have hqp := bne_f hqn | have hqp := bne_t hqn | skip
  all_goals (
   go_enter Tryz.func61, Tryz.ntmps61
   go_wp2_with (first
    | (go_at_call 68; (with_reducible refine (rsplit p _ hp).mono ?_); rintro e w1 ⟨⟨As, ns, cs, rfl⟩, hb⟩; rw [hsp]; replace HF := am (HF.out.below (Qa zq1 hb)); (try clear t0 t1 t2 t3 t4 p0 p1 p2 p3 p4 p5 r0 r1 r2 r3 r4 r5 r6 f1 f2); (try clear y0); (try clear y1); (try clear y2); (try clear y3); (try clear y4); clear hb; obtain ⟨⟨t0, t1, t2, t3, t4⟩, ⟨p0, p1, p2, p3, p4, p5⟩, ⟨r0, r1, r2, r3, r4, r5, r6⟩, f1, f2⟩ := HF.out.all; (try have y0 := Qae HF.out.bel (HN.out k hkl).1); (try have y4 := Qae HF.out.bel (HN.out k hkl).2.1); (try have y1 := Qae HF.out.bel (HN.out dq hdq).2.2); (try have y2 := Qae HF.out.bel (HN.out j hj).1); (try have y3 := Qae HF.out.bel (HN.out j hj).2.2))
    | (go_at_call 68; (with_reducible refine (rsplit q _ hq).mono ?_); rintro e w1 ⟨⟨As, ns, cs, rfl⟩, hb⟩; rw [hsq]; replace HF := am (HF.out.below (Qa zq1 hb)); (try clear t0 t1 t2 t3 t4 p0 p1 p2 p3 p4 p5 r0 r1 r2 r3 r4 r5 r6 f1 f2); (try clear y0); (try clear y1); (try clear y2); (try clear y3); (try clear y4); clear hb; obtain ⟨⟨t0, t1, t2, t3, t4⟩, ⟨p0, p1, p2, p3, p4, p5⟩, ⟨r0, r1, r2, r3, r4, r5, r6⟩, f1, f2⟩ := HF.out.all; (try have y0 := Qae HF.out.bel (HN.out k hkl).1); (try have y4 := Qae HF.out.bel (HN.out k hkl).2.1); (try have y1 := Qae HF.out.bel (HN.out dq hdq).2.2); (try have y2 := Qae HF.out.bel (HN.out j hj).1); (try have y3 := Qae HF.out.bel (HN.out j hj).2.2))
    | (go_at_call 35; (with_reducible refine (Qdd _ c l p _ (Kd.C_below HC.out (Qa HF.out.bel zq1)) hc HT.out.pr.wf HM.out hp).mono ?_); rintro e w1 ⟨rfl, hb⟩; rw [hk]; dsimp only [pairR]; replace HF := am (HF.out.below (Qa zq1 hb)); (try clear t0 t1 t2 t3 t4 p0 p1 p2 p3 p4 p5 r0 r1 r2 r3 r4 r5 r6 f1 f2); (try clear y0); (try clear y1); (try clear y2); (try clear y3); (try clear y4); clear hb; obtain ⟨⟨t0, t1, t2, t3, t4⟩, ⟨p0, p1, p2, p3, p4, p5⟩, ⟨r0, r1, r2, r3, r4, r5, r6⟩, f1, f2⟩ := HF.out.all; (try have y0 := Qae HF.out.bel (HN.out k hkl).1); (try have y4 := Qae HF.out.bel (HN.out k hkl).2.1); (try have y1 := Qae HF.out.bel (HN.out dq hdq).2.2); (try have y2 := Qae HF.out.bel (HN.out j hj).1); (try have y3 := Qae HF.out.bel (HN.out j hj).2.2))
    | (go_at_call 84; (with_reducible refine (rwithin q p _ hq hp).mono ?_); rintro e w1 ⟨rfl, hb⟩; rw [hwi]; replace HF := am (HF.out.below (Qa zq1 hb)); (try clear t0 t1 t2 t3 t4 p0 p1 p2 p3 p4 p5 r0 r1 r2 r3 r4 r5 r6 f1 f2); (try clear y0); (try clear y1); (try clear y2); (try clear y3); (try clear y4); clear hb; obtain ⟨⟨t0, t1, t2, t3, t4⟩, ⟨p0, p1, p2, p3, p4, p5⟩, ⟨r0, r1, r2, r3, r4, r5, r6⟩, f1, f2⟩ := HF.out.all; (try have y0 := Qae HF.out.bel (HN.out k hkl).1); (try have y4 := Qae HF.out.bel (HN.out k hkl).2.1); (try have y1 := Qae HF.out.bel (HN.out dq hdq).2.2); (try have y2 := Qae HF.out.bel (HN.out j hj).1); (try have y3 := Qae HF.out.bel (HN.out j hj).2.2))
    | (go_at_call 81; (with_reducible refine (rto _ c l p _ (Kd.C_below HC.out (Qa HF.out.bel zq1)) hc HT.out.pr.wf HM.out hp HNP.out).mono ?_); rintro e w1 ⟨rfl, hb⟩; rw [hs]; dsimp only [spotR, nodeV]; replace HF := am (HF.out.below (Qa zq1 hb)); (try clear t0 t1 t2 t3 t4 p0 p1 p2 p3 p4 p5 r0 r1 r2 r3 r4 r5 r6 f1 f2); (try clear y0); (try clear y1); (try clear y2); (try clear y3); (try clear y4); clear hb; obtain ⟨⟨t0, t1, t2, t3, t4⟩, ⟨p0, p1, p2, p3, p4, p5⟩, ⟨r0, r1, r2, r3, r4, r5, r6⟩, f1, f2⟩ := HF.out.all; (try have y0 := Qae HF.out.bel (HN.out k hkl).1); (try have y4 := Qae HF.out.bel (HN.out k hkl).2.1); (try have y1 := Qae HF.out.bel (HN.out dq hdq).2.2); (try have y2 := Qae HF.out.bel (HN.out j hj).1); (try have y3 := Qae HF.out.bel (HN.out j hj).2.2))
    | (go_at_call 81; (with_reducible refine (rto _ c l q _ (Kd.C_below HC.out (Qa HF.out.bel zq1)) hc HT.out.pr.wf HM.out hq HNQ.out).mono ?_); rintro e w1 ⟨rfl, hb⟩; rw [hq2]; dsimp only [spotR, nodeV]; replace HF := am (HF.out.below (Qa zq1 hb)); (try clear t0 t1 t2 t3 t4 p0 p1 p2 p3 p4 p5 r0 r1 r2 r3 r4 r5 r6 f1 f2); (try clear y0); (try clear y1); (try clear y2); (try clear y3); (try clear y4); clear hb; obtain ⟨⟨t0, t1, t2, t3, t4⟩, ⟨p0, p1, p2, p3, p4, p5⟩, ⟨r0, r1, r2, r3, r4, r5, r6⟩, f1, f2⟩ := HF.out.all; (try have y0 := Qae HF.out.bel (HN.out k hkl).1); (try have y4 := Qae HF.out.bel (HN.out k hkl).2.1); (try have y1 := Qae HF.out.bel (HN.out dq hdq).2.2); (try have y2 := Qae HF.out.bel (HN.out j hj).1); (try have y3 := Qae HF.out.bel (HN.out j hj).2.2))
    | (go_at_call 83; (with_reducible refine (rcut _ c l d0 np _ (Kd.C_below HC.out (Qa HF.out.bel zq1)) hc zq3 HM2.out hdl).mono ?_); rintro e w1 ⟨u, rfl, hz, hb⟩; obtain ⟨A5, c5, hu, hc5, hC5⟩ := Kd.S_reads hz; subst hu; have HC5 := am (And.intro hc5 hC5); clear hz hc5 hC5; replace HF := am (HF.out.below (Qa zq1 hb)); (try clear t0 t1 t2 t3 t4 p0 p1 p2 p3 p4 p5 r0 r1 r2 r3 r4 r5 r6 f1 f2); (try clear y0); (try clear y1); (try clear y2); (try clear y3); (try clear y4); clear hb; obtain ⟨⟨t0, t1, t2, t3, t4⟩, ⟨p0, p1, p2, p3, p4, p5⟩, ⟨r0, r1, r2, r3, r4, r5, r6⟩, f1, f2⟩ := HF.out.all; (try have y0 := Qae HF.out.bel (HN.out k hkl).1); (try have y4 := Qae HF.out.bel (HN.out k hkl).2.1); (try have y1 := Qae HF.out.bel (HN.out dq hdq).2.2); (try have y2 := Qae HF.out.bel (HN.out j hj).1); (try have y3 := Qae HF.out.bel (HN.out j hj).2.2))
    | (go_at_call 82; (with_reducible refine (rput _ c5 (cutT l d0 np) dq nq k _ (Kd.C_below HC5.out.2 zq1) HC5.out.1 HL0.out.1 HM20.out (HL0.out.2 dq hdq)).mono ?_); rintro e w1 ⟨u, rfl, hz, hb⟩; obtain ⟨A4, c4, hu, hc4, hC4⟩ := Kd.S_reads hz; subst hu; have HC4 := am (And.intro hc4 hC4); clear hz hc4 hC4; replace HF := am (HF.out.below (Qa zq1 hb)); (try clear t0 t1 t2 t3 t4 p0 p1 p2 p3 p4 p5 r0 r1 r2 r3 r4 r5 r6 f1 f2); (try clear y0); (try clear y1); (try clear y2); (try clear y3); (try clear y4); clear hb; obtain ⟨⟨t0, t1, t2, t3, t4⟩, ⟨p0, p1, p2, p3, p4, p5⟩, ⟨r0, r1, r2, r3, r4, r5, r6⟩, f1, f2⟩ := HF.out.all; (try have y0 := Qae HF.out.bel (HN.out k hkl).1); (try have y4 := Qae HF.out.bel (HN.out k hkl).2.1); (try have y1 := Qae HF.out.bel (HN.out dq hdq).2.2); (try have y2 := Qae HF.out.bel (HN.out j hj).1); (try have y3 := Qae HF.out.bel (HN.out j hj).2.2)))
   first
    | (go_region_with (go_at_call 28; (with_reducible refine (Qcp _ _).mono ?_); rintro en w1 ⟨rfl, hb⟩; replace HF := am (HF.out.below (Qa zq1 hb)); (try clear t0 t1 t2 t3 t4 p0 p1 p2 p3 p4 p5 r0 r1 r2 r3 r4 r5 r6 f1 f2); (try clear y0); (try clear y1); (try clear y2); (try clear y3); (try clear y4); clear hb; obtain ⟨⟨t0, t1, t2, t3, t4⟩, ⟨p0, p1, p2, p3, p4, p5⟩, ⟨r0, r1, r2, r3, r4, r5, r6⟩, f1, f2⟩ := HF.out.all; (try have y0 := Qae HF.out.bel (HN.out k hkl).1); (try have y4 := Qae HF.out.bel (HN.out k hkl).2.1); (try have y1 := Qae HF.out.bel (HN.out dq hdq).2.2); (try have y2 := Qae HF.out.bel (HN.out j hj).1); (try have y3 := Qae HF.out.bel (HN.out j hj).2.2)); all_goals (go_wp2; exact Qbe (l := l) (r := { res0 with f0 := _ }) rfl HF.out _ rfl rfl hc (Kd.C_below HC.out HF.out.bel) (Nat.zero_le _) (Kd.C_nil _ _) (Nat.zero_le _) (Kd.C_nil _ _)))
    | (have H4 := HC4; exact Qbe (fn := Tryz.f61) (w := w) (W := w1) (l := putT (cutT l d0 np) dq nq k) (r := res0) (A1 := A4) (A2 := none) (A3 := none) (c1 := c4) (c2 := 0) (c3 := 0) zq25 HF.out _ rfl rfl HC4.out.1 HC4.out.2 (Nat.zero_le _) (Kd.C_nil _ _) (Nat.zero_le _) (Kd.C_nil _ _))
    | (exact Qbe (l := l) (r := res0) rfl HF.out _ rfl rfl hc (Kd.C_below HC.out HF.out.bel) (Nat.zero_le _) (Kd.C_nil _ _) (Nat.zero_le _) (Kd.C_nil _ _))
    | (trace_state; skip))
 all_goals try (have hqp := bne_t hqn; have hki : (k : Int) < (l.length : Int) := by omega)
 all_goals (
  go_enter Tryz.func61, Tryz.ntmps61
  go_wp2_with (first
   | (go_at_call 68; (with_reducible refine (rsplit p _ hp).mono ?_); rintro e w1 ⟨⟨As, ns, cs, rfl⟩, hb⟩; rw [hsp]; replace HF := am (HF.out.below (Qa zq1 hb)); (try clear t0 t1 t2 t3 t4 p0 p1 p2 p3 p4 p5 r0 r1 r2 r3 r4 r5 r6 f1 f2); (try clear y0); (try clear y1); (try clear y2); (try clear y3); (try clear y4); clear hb; obtain ⟨⟨t0, t1, t2, t3, t4⟩, ⟨p0, p1, p2, p3, p4, p5⟩, ⟨r0, r1, r2, r3, r4, r5, r6⟩, f1, f2⟩ := HF.out.all; (try have y0 := Qae HF.out.bel (HN.out k hkl).1); (try have y4 := Qae HF.out.bel (HN.out k hkl).2.1); (try have y1 := Qae HF.out.bel (HN.out dq hdq).2.2); (try have y2 := Qae HF.out.bel (HN.out j hj).1); (try have y3 := Qae HF.out.bel (HN.out j hj).2.2))
   | (go_at_call 68; (with_reducible refine (rsplit q _ hq).mono ?_); rintro e w1 ⟨⟨As, ns, cs, rfl⟩, hb⟩; rw [hsq]; replace HF := am (HF.out.below (Qa zq1 hb)); (try clear t0 t1 t2 t3 t4 p0 p1 p2 p3 p4 p5 r0 r1 r2 r3 r4 r5 r6 f1 f2); (try clear y0); (try clear y1); (try clear y2); (try clear y3); (try clear y4); clear hb; obtain ⟨⟨t0, t1, t2, t3, t4⟩, ⟨p0, p1, p2, p3, p4, p5⟩, ⟨r0, r1, r2, r3, r4, r5, r6⟩, f1, f2⟩ := HF.out.all; (try have y0 := Qae HF.out.bel (HN.out k hkl).1); (try have y4 := Qae HF.out.bel (HN.out k hkl).2.1); (try have y1 := Qae HF.out.bel (HN.out dq hdq).2.2); (try have y2 := Qae HF.out.bel (HN.out j hj).1); (try have y3 := Qae HF.out.bel (HN.out j hj).2.2))
   | (go_at_call 35; (with_reducible refine (Qdd _ c l p _ (Kd.C_below HC.out (Qa HF.out.bel zq1)) hc HT.out.pr.wf HM.out hp).mono ?_); rintro e w1 ⟨rfl, hb⟩; rw [hk]; dsimp only [pairR]; replace HF := am (HF.out.below (Qa zq1 hb)); (try clear t0 t1 t2 t3 t4 p0 p1 p2 p3 p4 p5 r0 r1 r2 r3 r4 r5 r6 f1 f2); (try clear y0); (try clear y1); (try clear y2); (try clear y3); (try clear y4); clear hb; obtain ⟨⟨t0, t1, t2, t3, t4⟩, ⟨p0, p1, p2, p3, p4, p5⟩, ⟨r0, r1, r2, r3, r4, r5, r6⟩, f1, f2⟩ := HF.out.all; (try have y0 := Qae HF.out.bel (HN.out k hkl).1); (try have y4 := Qae HF.out.bel (HN.out k hkl).2.1); (try have y1 := Qae HF.out.bel (HN.out dq hdq).2.2); (try have y2 := Qae HF.out.bel (HN.out j hj).1); (try have y3 := Qae HF.out.bel (HN.out j hj).2.2))
   | (go_at_call 84; (with_reducible refine (rwithin q p _ hq hp).mono ?_); rintro e w1 ⟨rfl, hb⟩; rw [hwi]; replace HF := am (HF.out.below (Qa zq1 hb)); (try clear t0 t1 t2 t3 t4 p0 p1 p2 p3 p4 p5 r0 r1 r2 r3 r4 r5 r6 f1 f2); (try clear y0); (try clear y1); (try clear y2); (try clear y3); (try clear y4); clear hb; obtain ⟨⟨t0, t1, t2, t3, t4⟩, ⟨p0, p1, p2, p3, p4, p5⟩, ⟨r0, r1, r2, r3, r4, r5, r6⟩, f1, f2⟩ := HF.out.all; (try have y0 := Qae HF.out.bel (HN.out k hkl).1); (try have y4 := Qae HF.out.bel (HN.out k hkl).2.1); (try have y1 := Qae HF.out.bel (HN.out dq hdq).2.2); (try have y2 := Qae HF.out.bel (HN.out j hj).1); (try have y3 := Qae HF.out.bel (HN.out j hj).2.2))
   | (go_at_call 81; (with_reducible refine (rto _ c l p _ (Kd.C_below HC.out (Qa HF.out.bel zq1)) hc HT.out.pr.wf HM.out hp HNP.out).mono ?_); rintro e w1 ⟨rfl, hb⟩; rw [hs]; dsimp only [spotR, nodeV]; replace HF := am (HF.out.below (Qa zq1 hb)); (try clear t0 t1 t2 t3 t4 p0 p1 p2 p3 p4 p5 r0 r1 r2 r3 r4 r5 r6 f1 f2); (try clear y0); (try clear y1); (try clear y2); (try clear y3); (try clear y4); clear hb; obtain ⟨⟨t0, t1, t2, t3, t4⟩, ⟨p0, p1, p2, p3, p4, p5⟩, ⟨r0, r1, r2, r3, r4, r5, r6⟩, f1, f2⟩ := HF.out.all; (try have y0 := Qae HF.out.bel (HN.out k hkl).1); (try have y4 := Qae HF.out.bel (HN.out k hkl).2.1); (try have y1 := Qae HF.out.bel (HN.out dq hdq).2.2); (try have y2 := Qae HF.out.bel (HN.out j hj).1); (try have y3 := Qae HF.out.bel (HN.out j hj).2.2))
   | (go_at_call 81; (with_reducible refine (rto _ c l q _ (Kd.C_below HC.out (Qa HF.out.bel zq1)) hc HT.out.pr.wf HM.out hq HNQ.out).mono ?_); rintro e w1 ⟨rfl, hb⟩; rw [hq2]; dsimp only [spotR, nodeV]; replace HF := am (HF.out.below (Qa zq1 hb)); (try clear t0 t1 t2 t3 t4 p0 p1 p2 p3 p4 p5 r0 r1 r2 r3 r4 r5 r6 f1 f2); (try clear y0); (try clear y1); (try clear y2); (try clear y3); (try clear y4); clear hb; obtain ⟨⟨t0, t1, t2, t3, t4⟩, ⟨p0, p1, p2, p3, p4, p5⟩, ⟨r0, r1, r2, r3, r4, r5, r6⟩, f1, f2⟩ := HF.out.all; (try have y0 := Qae HF.out.bel (HN.out k hkl).1); (try have y4 := Qae HF.out.bel (HN.out k hkl).2.1); (try have y1 := Qae HF.out.bel (HN.out dq hdq).2.2); (try have y2 := Qae HF.out.bel (HN.out j hj).1); (try have y3 := Qae HF.out.bel (HN.out j hj).2.2))
   | (go_at_call 83; (with_reducible refine (rcut _ c l d0 np _ (Kd.C_below HC.out (Qa HF.out.bel zq1)) hc zq3 HM2.out hdl).mono ?_); rintro e w1 ⟨u, rfl, hz, hb⟩; obtain ⟨A5, c5, hu, hc5, hC5⟩ := Kd.S_reads hz; subst hu; have HC5 := am (And.intro hc5 hC5); clear hz hc5 hC5; replace HF := am (HF.out.below (Qa zq1 hb)); (try clear t0 t1 t2 t3 t4 p0 p1 p2 p3 p4 p5 r0 r1 r2 r3 r4 r5 r6 f1 f2); (try clear y0); (try clear y1); (try clear y2); (try clear y3); (try clear y4); clear hb; obtain ⟨⟨t0, t1, t2, t3, t4⟩, ⟨p0, p1, p2, p3, p4, p5⟩, ⟨r0, r1, r2, r3, r4, r5, r6⟩, f1, f2⟩ := HF.out.all; (try have y0 := Qae HF.out.bel (HN.out k hkl).1); (try have y4 := Qae HF.out.bel (HN.out k hkl).2.1); (try have y1 := Qae HF.out.bel (HN.out dq hdq).2.2); (try have y2 := Qae HF.out.bel (HN.out j hj).1); (try have y3 := Qae HF.out.bel (HN.out j hj).2.2))
   | (go_at_call 82; (with_reducible refine (rput _ c5 (cutT l d0 np) dq nq k _ (Kd.C_below HC5.out.2 zq1) HC5.out.1 HL0.out.1 HM20.out (HL0.out.2 dq hdq)).mono ?_); rintro e w1 ⟨u, rfl, hz, hb⟩; obtain ⟨A4, c4, hu, hc4, hC4⟩ := Kd.S_reads hz; subst hu; have HC4 := am (And.intro hc4 hC4); clear hz hc4 hC4; replace HF := am (HF.out.below (Qa zq1 hb)); (try clear t0 t1 t2 t3 t4 p0 p1 p2 p3 p4 p5 r0 r1 r2 r3 r4 r5 r6 f1 f2); (try clear y0); (try clear y1); (try clear y2); (try clear y3); (try clear y4); clear hb; obtain ⟨⟨t0, t1, t2, t3, t4⟩, ⟨p0, p1, p2, p3, p4, p5⟩, ⟨r0, r1, r2, r3, r4, r5, r6⟩, f1, f2⟩ := HF.out.all; (try have y0 := Qae HF.out.bel (HN.out k hkl).1); (try have y4 := Qae HF.out.bel (HN.out k hkl).2.1); (try have y1 := Qae HF.out.bel (HN.out dq hdq).2.2); (try have y2 := Qae HF.out.bel (HN.out j hj).1); (try have y3 := Qae HF.out.bel (HN.out j hj).2.2)))
  first
   | (go_region_with (go_at_call 28; (with_reducible refine (Qcp _ _).mono ?_); rintro en w1 ⟨rfl, hb⟩; replace HF := am (HF.out.below (Qa zq1 hb)); (try clear t0 t1 t2 t3 t4 p0 p1 p2 p3 p4 p5 r0 r1 r2 r3 r4 r5 r6 f1 f2); (try clear y0); (try clear y1); (try clear y2); (try clear y3); (try clear y4); clear hb; obtain ⟨⟨t0, t1, t2, t3, t4⟩, ⟨p0, p1, p2, p3, p4, p5⟩, ⟨r0, r1, r2, r3, r4, r5, r6⟩, f1, f2⟩ := HF.out.all; (try have y0 := Qae HF.out.bel (HN.out k hkl).1); (try have y4 := Qae HF.out.bel (HN.out k hkl).2.1); (try have y1 := Qae HF.out.bel (HN.out dq hdq).2.2); (try have y2 := Qae HF.out.bel (HN.out j hj).1); (try have y3 := Qae HF.out.bel (HN.out j hj).2.2)); all_goals (go_wp2; exact Qbe (l := l) (r := { res0 with f0 := _ }) rfl HF.out _ rfl rfl hc (Kd.C_below HC.out HF.out.bel) (Nat.zero_le _) (Kd.C_nil _ _) (Nat.zero_le _) (Kd.C_nil _ _)))
   | (have H4 := HC4; exact Qbe (fn := Tryz.f61) (w := w) (W := w1) (l := putT (cutT l d0 np) dq nq k) (r := res0) (A1 := A4) (A2 := none) (A3 := none) (c1 := c4) (c2 := 0) (c3 := 0) zq25 HF.out _ rfl rfl HC4.out.1 HC4.out.2 (Nat.zero_le _) (Kd.C_nil _ _) (Nat.zero_le _) (Kd.C_nil _ _))
   | (exact Qbe (l := l) (r := res0) rfl HF.out _ rfl rfl hc (Kd.C_below HC.out HF.out.bel) (Nat.zero_le _) (Kd.C_nil _ _) (Nat.zero_le _) (Kd.C_nil _ _))
   | (trace_state; skip))
end
end Go.Proofs.YtbhjggbijkjmnaaGreatDoor.PZ
end
