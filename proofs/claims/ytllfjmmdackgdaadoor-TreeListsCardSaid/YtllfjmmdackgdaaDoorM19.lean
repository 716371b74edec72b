import Derived.Test.YtllfjmmdackgdaaDoorM16
import Derived.Deep.RegionHeld3
import Derived.Deep.RegionHeld2
import Derived.Deep.Cut
import Derived.Deep.QuietTactic
import Derived.BigQuiet
set_option linter.unusedVariables false
set_option linter.unusedSimpArgs false
/-! GRenameA -/
section
namespace Go.Proofs.YtllfjmmdackgdaaDoor.PZ
open Go.RowKit Go.Proofs.YtllfjmmdackgdaaDoorW.PrintWords Go.Proofs.YtllfjmmdackgdaaDoorW.PrintLast Go.Proofs.YtllfjmmdackgdaaDoorW.PrintMore Go.Proofs.YtllfjmmdackgdaaDoor.Ord TD
attribute [local go_sem ↓] Go.wp_at_zero Go.wp_at_succ
set_option maxRecDepth 100000
set_option linter.unusedVariables false
set_option linter.unusedSimpArgs false
theorem blk_new2 (w : World) (a b : Obj) : ((w.alloc a).alloc b).heap[w.heap.size + 1]? = some b := by
  have := blk_new (w.alloc a) b
  simpa using this
theorem ok_cut {l : List S58} (h : Ok l) {d : Nat} (hd : (nd l d).f0 = 2) (n : ByteArray) : Ok (cutT l d n) := by
  have hdl := Pr.lt_of_dir hd
  refine ⟨h.wf.cut hd n, fun k => ?_, by rw [cutT, setE_len]; exact h.len⟩
  unfold cutT
  rw [setE_f3 hdl]
  split
  · exact Nat.lt_of_le_of_lt (cut_len _ _) (h.small d)
  · exact h.small k
theorem spot_lt {l : List S58} {p nm : ByteArray} {d j : Nat} (h : Ok l) (hs : spotF l p = .inl (d, nm, some j)) : j < l.length := by
  obtain ⟨q, -, -, -, -, hd, ho⟩ := spotF_inl hs
  cases hl : look (nd l d).f3 nm with
  | none => rw [hl] at ho; cases ho
  | some e =>
    rw [hl] at ho
    injection ho with ho
    rw [ho]
    exact (h.wf.ino_lt (look_some hl).1).1
set_option maxHeartbeats 40000000 in
theorem rename_a (B b : Nat) (l : List S58) (x : Value) (p q : ByteArray) (rs : List Value) (w : World) (hst : St B b l (x :: .string p :: .string q :: rs) w) (ho : Ok l) (hp : p.size < 10000000) (hq : q.size < 10000000) (X : List S58 ⊕ Int) (h0 : (splitA p).2 = 0) (hzq : (splitA q).2 = 0) (hr : p ≠ rootP) (hrq : q ≠ rootP) (k : Nat) (hk : wk l (splitA p).1 0 = .inl k) (hC : ¬ ((nd l k).f0 = 2 ∧ q ≠ p ∧ withinA q p = true)) (n : Int) (hsa : spotF l p = .inr n) (hX : (match spotF l p with | .inr n => .inr n | .inl a => match spotF l q with | .inr n => .inr n | .inl c => moveF l k a c) = X) :
    Calls Tryd.prog 73 #[.pointer (some ⟨b, 0, none⟩)] w fun en w' => OpPost B b (x :: .string p :: .string q :: rs) w X en w' := by
  have Hhsa_ := Aside0.mk hsa
  clear hsa
  have hbl : b < w.heap.size := by obtain ⟨_, v, h, _⟩ := hst; exact blk_lt h
  have hBb : B ≤ b := hst.1
  have hBw : B ≤ w.heap.size := by omega
  have hk2 : w.cell? ⟨b, 2, none⟩ = some (.string p) := by obtain ⟨_, v, h, _⟩ := hst; exact (blk_cell h 2).trans rfl
  have hk3 : w.cell? ⟨b, 3, none⟩ = some (.string q) := by obtain ⟨_, v, h, _⟩ := hst; exact (blk_cell h 3).trans rfl
  obtain ⟨_, v, hw, hS⟩ := id hst
  obtain ⟨g, cap, rfl, hBg, hgl, -⟩ := Kd.S_form hS ho.wf.pos
  have HW := Aside0.mk hw
  have HS := Aside0.mk hS
  have hk0 : w.cell? ⟨b, 0, none⟩ = some (.slice (some ⟨g, 0, none⟩) l.length cap) := (blk_cell hw 0).trans rfl
  clear hw hS
  have HST := Aside0.mk hst
  have HO := Aside0.mk ho
  have HB := Aside0.mk (Below.refl w.heap.size w)
  clear hst ho
  have hpr : (p.toList == [47]) = false := beq_eq_false_iff_ne.2 fun h => hr (bytes_ext (h.trans (beq_iff_eq.1 root_eq).symm))
  have hqr : (q.toList == [47]) = false := beq_eq_false_iff_ne.2 fun h => hrq (bytes_ext (h.trans (beq_iff_eq.1 root_eq).symm))
  have hkl : k < l.length := wk_lt HO.out.wf HO.out.wf.pos hk
  have HK := Aside0.mk hk
  have HX := Aside0.mk hX
  clear hk hX
  have HCC := Aside0.mk hC
  clear hC
  go_enter Tryd.func73, Tryd.ntmps73
  go_wp2_with (first
    | (go_at_call 56; (with_reducible refine (names_walk p _ hp).mono ?_); rintro e w1 ⟨h1, hb⟩; rw [if_pos h0] at h1; obtain ⟨An, cn, rfl, hcn, hCn⟩ := h1; have HCN := Aside0.mk hCn; clear hCn; have n0_ := Aside0.mk (below_step (by repeat (first | exact HB.out | with_reducible apply below_drew1 | with_reducible apply below_alloc | with_reducible apply pw_below_drewN)) hb); clear HB hb; have HB := n0_; clear n0_; have hk2_ := (HB.out.cell (p := ⟨b, 2, none⟩) hbl).trans hk2; have hk3_ := (HB.out.cell (p := ⟨b, 3, none⟩) hbl).trans hk3)
    | (go_at_call 56; (with_reducible refine (names_walk q _ hq).mono ?_); rintro e w1q ⟨h1, hb⟩; rw [if_pos hzq] at h1; obtain ⟨Anq, cnq, rfl, hcnq, hCn⟩ := h1; have HCNq := Aside0.mk hCn; clear hCn; have HCN2 := Aside0.mk (Kd.C_below HCN.out hb); have n0_ := Aside0.mk (below_step (by repeat (first | exact HB.out | with_reducible apply below_drew1 | with_reducible apply below_alloc | with_reducible apply pw_below_drewN)) hb); clear HB hb; have HB := n0_; clear n0_; have hk2_ := (HB.out.cell (p := ⟨b, 2, none⟩) hbl).trans hk2; have hk3_ := (HB.out.cell (p := ⟨b, 3, none⟩) hbl).trans hk3)
    | (go_at_call 81; (with_reducible refine (need_ok _ _).mono ?_); rintro e w9 ⟨rfl, h9⟩; subst w9)
    | (go_at_call 55; (with_reducible refine (place_walk B b l _ An cn p _ (St.below HST.out (by repeat (first | exact HB.out | with_reducible apply below_drew1 | with_reducible apply below_alloc | with_reducible apply pw_below_drewN))) HO.out HCN2.out hcn).mono ?_); rintro e w2 ⟨h1, hb⟩; rw [HK.out] at h1; subst h1; have n0_ := Aside0.mk (below_step (by repeat (first | exact HB.out | with_reducible apply below_drew1 | with_reducible apply below_alloc | with_reducible apply pw_below_drewN)) hb); clear HB hb; have HB := n0_; clear n0_; have hk2_ := (HB.out.cell (p := ⟨b, 2, none⟩) hbl).trans hk2; have hk3_ := (HB.out.cell (p := ⟨b, 3, none⟩) hbl).trans hk3))
  go_cut [] from 6 (fun w' => Below w.heap.size w w')
  case first =>
    cases hd : ((nd l k).f0 == 2) with
    | false =>
      go_quiet (first | (go_at_call 82; refine Calls.quiet_of_same (mdir_walk B b l _ k _ hkl (St.below HST.out (by repeat (first | exact HB.out | with_reducible apply below_drew1 | with_reducible apply below_alloc | with_reducible apply pw_below_drewN))) hd)) | (go_at_call 81; refine Calls.quiet_of_same (need_ok _ _)))
      go_wp2
      go_meet
      case rel => exact (by repeat (first | exact HB.out | with_reducible apply below_drew1 | with_reducible apply below_alloc | with_reducible apply pw_below_drewN))
    | true =>
      by_cases hqp : q = p
      · have hqpb : (q.toList == p.toList) = true := by rw [hqp]; exact beq_self_eq_true _
        clear hqp
        go_quiet (first | (go_at_call 82; refine Calls.quiet_of_same (mdir_walk B b l _ k _ hkl (St.below HST.out (by repeat (first | exact HB.out | with_reducible apply below_drew1 | with_reducible apply below_alloc | with_reducible apply pw_below_drewN))) hd)) | (go_at_call 81; refine Calls.quiet_of_same (need_ok _ _)))
        go_wp2
        go_meet
        case rel => exact (by repeat (first | exact HB.out | with_reducible apply below_drew1 | with_reducible apply below_alloc | with_reducible apply pw_below_drewN))
      · have hqpb : (q.toList == p.toList) = false := beq_eq_false_iff_ne.2 fun h => hqp (bytes_ext h)
        cases hwi : withinA q p with
        | true => exact absurd ⟨beq_iff_eq.1 hd, hqp, hwi⟩ HCC.out
        | false =>
          clear hqp
          go_region_held3 (fun w' => w'.cell? ⟨b, 2, none⟩ = some (.string p) ∧ w'.cell? ⟨b, 3, none⟩ = some (.string q)) (go_keep) (first | (go_at_call 82; (with_reducible refine (mdir_walk B b l _ k _ hkl (St.below HST.out (by repeat (first | exact HB.out | with_reducible apply below_drew1 | with_reducible apply below_alloc | with_reducible apply pw_below_drewN))) hd).mono ?_); rintro e w9 ⟨rfl, h9⟩; subst w9) | (go_at_call 24; (with_reducible refine (within_walk q p _ hq hp hwi).mono ?_); rintro e w7 ⟨rfl, hb⟩; have n0_ := Aside0.mk (below_step (by repeat (first | exact HB.out | with_reducible apply below_drew1 | with_reducible apply below_alloc | with_reducible apply pw_below_drewN)) hb); clear HB hb; have HB := n0_; clear n0_; have hk2_ := (HB.out.cell (p := ⟨b, 2, none⟩) hbl).trans hk2; have hk3_ := (HB.out.cell (p := ⟨b, 3, none⟩) hbl).trans hk3) | (go_at_call 81; (with_reducible refine (need_ok _ _).mono ?_); rintro e w9 ⟨rfl, h9⟩; subst w9))
          all_goals go_wp2
          all_goals go_meet
          all_goals exact (by repeat (first | exact HB.out | with_reducible apply below_drew1 | with_reducible apply below_alloc | with_reducible apply pw_below_drewN))
  case rest =>
    clear HB
    have HB := Aside0.mk hcut
    have hk2_ := (HB.out.cell (p := ⟨b, 2, none⟩) hbl).trans hk2
    have hk3_ := (HB.out.cell (p := ⟨b, 3, none⟩) hbl).trans hk3
    clear hcut
    have hX := HX.out
    clear HX
    have hsa := Hhsa_.out
    clear Hhsa_
    rw [hsa] at hX
    dsimp only at hX
    subst hX
    have HSA := Aside0.mk hsa
    clear hsa
    go_wp2
    go_region_held2 (fun w' => w'.cell? ⟨b, 2, none⟩ = some (.string p) ∧ w'.cell? ⟨b, 3, none⟩ = some (.string q)) (first | exact hF.out.elim | go_keep) (first | (go_at_call 92; (with_reducible refine calls_dead (v := .agg #[.int .i64 0, .string p, .int .i64 0]) hF.out.elim ?_); intro hF1; clear hF1; dsimp only) | (go_at_call 92; (with_reducible refine calls_dead (v := .agg #[.int .i64 0, .string p, .int .i64 0]) ((to_walk B b l _ p _ (St.below HST.out (by repeat (first | exact HB.out | with_reducible apply below_drew1 | with_reducible apply below_alloc | with_reducible apply pw_below_drewN))) HO.out hp hr).mono ?_) ?_); (rintro e w3 ⟨h1, hb⟩; rw [HSA.out] at h1; subst h1; have n0_ := Aside0.mk (below_step (by repeat (first | exact HB.out | with_reducible apply below_drew1 | with_reducible apply below_alloc | with_reducible apply pw_below_drewN)) hb); clear HB hb; have HB := n0_; clear n0_; have hk2_ := (HB.out.cell (p := ⟨b, 2, none⟩) hbl).trans hk2; exact ⟨rfl, rfl, BW.mono (by repeat (first | exact HB.out | with_reducible apply below_drew1 | with_reducible apply below_alloc | with_reducible apply pw_below_drewN)) hBw⟩); (intro hF0; have hF := Aside0.mk hF0; clear hF0; dsimp only)))
    all_goals exact hF.out.elim
end Go.Proofs.YtllfjmmdackgdaaDoor.PZ
end
