import Derived.Test.YtllfjmmdackgdaaDoorM16
set_option linter.unusedVariables false
set_option linter.unusedSimpArgs false
/-! GLink -/
section
namespace Go.Proofs.YtllfjmmdackgdaaDoor.PZ
open Go.RowKit Go.Proofs.YtllfjmmdackgdaaDoorW.PrintWords Go.Proofs.YtllfjmmdackgdaaDoorW.PrintLast Go.Proofs.YtllfjmmdackgdaaDoorW.PrintMore Go.Proofs.YtllfjmmdackgdaaDoor.Ord TD
attribute [local go_sem ↓] Go.wp_at_zero Go.wp_at_succ
set_option maxRecDepth 100000
set_option linter.unusedVariables false
set_option linter.unusedSimpArgs false
set_option maxHeartbeats 4000000 in
theorem link_walk (B b : Nat) (l : List S58) (x : Value) (p q : ByteArray) (rs : List Value) (w : World) (hst : St B b l (x :: .string p :: .string q :: rs) w) (ho : Ok l) (hp : p.size < 10000000) (hq : q.size < 10000000) :
    Calls Tryd.prog 70 #[.pointer (some ⟨b, 0, none⟩)] w fun en w' => (match linkF l p q with | .inl l' => en = .returned (.tuple #[]) ∧ St B b l' (x :: .string p :: .string q :: rs) w' | .inr n => en = .panicked (wrong n)) ∧ BW B w w' := by
  have hbl : b < w.heap.size := by obtain ⟨_, v, h, _⟩ := hst; exact blk_lt h
  have hBb : B ≤ b := hst.1
  have hBw : B ≤ w.heap.size := by omega
  have hk2 : w.cell? ⟨b, 2, none⟩ = some (.string p) := by obtain ⟨_, v, h, _⟩ := hst; exact (blk_cell h 2).trans rfl
  have hk3 : w.cell? ⟨b, 3, none⟩ = some (.string q) := by obtain ⟨_, v, h, _⟩ := hst; exact (blk_cell h 3).trans rfl
  have HST := Aside0.mk hst
  have HO := Aside0.mk ho
  have HB := Aside0.mk (Below.refl w.heap.size w)
  clear hst ho
  unfold linkF
  by_cases h0 : (splitA p).2 = 0
  · rw [if_neg (fun h => h h0)]
    by_cases hzq : (splitA q).2 = 0
    · rw [if_neg (fun h => h hzq)]
      cases hk : wk l (splitA p).1 0 with
      | inr n =>
        dsimp only
        have HK := Aside0.mk hk
        clear hk
        go_enter Tryd.func70, Tryd.ntmps70
        go_wp2_with (first
          | (go_at_call 56; (with_reducible refine (names_walk p _ hp).mono ?_); rintro e w1 ⟨h1, hb⟩; rw [if_pos h0] at h1; obtain ⟨An, cn, rfl, hcn, hCn⟩ := h1; have HCN := Aside0.mk hCn; clear hCn; have n0_ := Aside0.mk (below_step (by repeat (first | exact HB.out | with_reducible apply below_drew1 | with_reducible apply below_alloc | with_reducible apply pw_below_drewN)) hb); clear HB hb; have HB := n0_; clear n0_; have hk2_ := (HB.out.cell (p := ⟨b, 2, none⟩) hbl).trans hk2; have hk3_ := (HB.out.cell (p := ⟨b, 3, none⟩) hbl).trans hk3)
          | (go_at_call 56; (with_reducible refine (names_walk q _ hq).mono ?_); rintro e w1q ⟨h1, hb⟩; rw [if_pos hzq] at h1; obtain ⟨Anq, cnq, rfl, hcnq, hCn⟩ := h1; have HCNq := Aside0.mk hCn; clear hCn; have HCN2 := Aside0.mk (Kd.C_below HCN.out hb); have n0_ := Aside0.mk (below_step (by repeat (first | exact HB.out | with_reducible apply below_drew1 | with_reducible apply below_alloc | with_reducible apply pw_below_drewN)) hb); clear HB hb; have HB := n0_; clear n0_; have hk2_ := (HB.out.cell (p := ⟨b, 2, none⟩) hbl).trans hk2; have hk3_ := (HB.out.cell (p := ⟨b, 3, none⟩) hbl).trans hk3)
          | (go_at_call 55; (with_reducible refine (place_walk B b l _ An cn p _ (St.below HST.out (by repeat (first | exact HB.out | with_reducible apply below_drew1 | with_reducible apply below_alloc | with_reducible apply pw_below_drewN))) HO.out HCN2.out hcn).mono ?_); rintro e w2 ⟨h1, hb⟩; rw [HK.out] at h1; subst h1; have n0_ := Aside0.mk (below_step (by repeat (first | exact HB.out | with_reducible apply below_drew1 | with_reducible apply below_alloc | with_reducible apply pw_below_drewN)) hb); clear HB hb; have HB := n0_; clear n0_; have hk2_ := (HB.out.cell (p := ⟨b, 2, none⟩) hbl).trans hk2; exact ⟨rfl, rfl, BW.mono (by repeat (first | exact HB.out | with_reducible apply below_drew1 | with_reducible apply below_alloc | with_reducible apply pw_below_drewN)) hBw⟩))
      | inl k =>
        dsimp only
        have hkl : k < l.length := wk_lt HO.out.wf HO.out.wf.pos hk
        have HK := Aside0.mk hk
        clear hk
        cases hd : ((nd l k).f0 == 2) with
        | true =>
          rw [if_pos (beq_iff_eq.1 hd)]
          go_enter Tryd.func70, Tryd.ntmps70
          go_wp2_with (first
            | (go_at_call 56; (with_reducible refine (names_walk p _ hp).mono ?_); rintro e w1 ⟨h1, hb⟩; rw [if_pos h0] at h1; obtain ⟨An, cn, rfl, hcn, hCn⟩ := h1; have HCN := Aside0.mk hCn; clear hCn; have n0_ := Aside0.mk (below_step (by repeat (first | exact HB.out | with_reducible apply below_drew1 | with_reducible apply below_alloc | with_reducible apply pw_below_drewN)) hb); clear HB hb; have HB := n0_; clear n0_; have hk2_ := (HB.out.cell (p := ⟨b, 2, none⟩) hbl).trans hk2; have hk3_ := (HB.out.cell (p := ⟨b, 3, none⟩) hbl).trans hk3)
            | (go_at_call 56; (with_reducible refine (names_walk q _ hq).mono ?_); rintro e w1q ⟨h1, hb⟩; rw [if_pos hzq] at h1; obtain ⟨Anq, cnq, rfl, hcnq, hCn⟩ := h1; have HCNq := Aside0.mk hCn; clear hCn; have HCN2 := Aside0.mk (Kd.C_below HCN.out hb); have n0_ := Aside0.mk (below_step (by repeat (first | exact HB.out | with_reducible apply below_drew1 | with_reducible apply below_alloc | with_reducible apply pw_below_drewN)) hb); clear HB hb; have HB := n0_; clear n0_; have hk2_ := (HB.out.cell (p := ⟨b, 2, none⟩) hbl).trans hk2; have hk3_ := (HB.out.cell (p := ⟨b, 3, none⟩) hbl).trans hk3)
            | (go_at_call 55; (with_reducible refine (place_walk B b l _ An cn p _ (St.below HST.out (by repeat (first | exact HB.out | with_reducible apply below_drew1 | with_reducible apply below_alloc | with_reducible apply pw_below_drewN))) HO.out HCN2.out hcn).mono ?_); rintro e w2 ⟨h1, hb⟩; rw [HK.out] at h1; subst h1; have n0_ := Aside0.mk (below_step (by repeat (first | exact HB.out | with_reducible apply below_drew1 | with_reducible apply below_alloc | with_reducible apply pw_below_drewN)) hb); clear HB hb; have HB := n0_; clear n0_; have hk2_ := (HB.out.cell (p := ⟨b, 2, none⟩) hbl).trans hk2; have hk3_ := (HB.out.cell (p := ⟨b, 3, none⟩) hbl).trans hk3)
            | (go_at_call 82; (with_reducible refine (mdir_walk B b l _ k _ hkl (St.below HST.out (by repeat (first | exact HB.out | with_reducible apply below_drew1 | with_reducible apply below_alloc | with_reducible apply pw_below_drewN))) hd).mono ?_); rintro e w9 ⟨rfl, h9⟩; subst w9)
            | (go_at_call 81; (with_reducible refine (need_bad 23 _).mono ?_); rintro e w9 ⟨rfl, h9⟩; subst w9; exact ⟨rfl, rfl, BW.mono (by repeat (first | exact HB.out | with_reducible apply below_drew1 | with_reducible apply below_alloc | with_reducible apply pw_below_drewN)) hBw⟩))
        | false =>
          rw [if_neg (beq_eq_false_iff_ne.1 hd)]
          by_cases hr : q = rootP
          · rw [if_pos hr]
            have hqr : (q.toList == [47]) = true := by rw [hr]; exact root_eq
            clear hr
            go_enter Tryd.func70, Tryd.ntmps70
            go_wp2_with (first
              | (go_at_call 56; (with_reducible refine (names_walk p _ hp).mono ?_); rintro e w1 ⟨h1, hb⟩; rw [if_pos h0] at h1; obtain ⟨An, cn, rfl, hcn, hCn⟩ := h1; have HCN := Aside0.mk hCn; clear hCn; have n0_ := Aside0.mk (below_step (by repeat (first | exact HB.out | with_reducible apply below_drew1 | with_reducible apply below_alloc | with_reducible apply pw_below_drewN)) hb); clear HB hb; have HB := n0_; clear n0_; have hk2_ := (HB.out.cell (p := ⟨b, 2, none⟩) hbl).trans hk2; have hk3_ := (HB.out.cell (p := ⟨b, 3, none⟩) hbl).trans hk3)
              | (go_at_call 56; (with_reducible refine (names_walk q _ hq).mono ?_); rintro e w1q ⟨h1, hb⟩; rw [if_pos hzq] at h1; obtain ⟨Anq, cnq, rfl, hcnq, hCn⟩ := h1; have HCNq := Aside0.mk hCn; clear hCn; have HCN2 := Aside0.mk (Kd.C_below HCN.out hb); have n0_ := Aside0.mk (below_step (by repeat (first | exact HB.out | with_reducible apply below_drew1 | with_reducible apply below_alloc | with_reducible apply pw_below_drewN)) hb); clear HB hb; have HB := n0_; clear n0_; have hk2_ := (HB.out.cell (p := ⟨b, 2, none⟩) hbl).trans hk2; have hk3_ := (HB.out.cell (p := ⟨b, 3, none⟩) hbl).trans hk3)
              | (go_at_call 55; (with_reducible refine (place_walk B b l _ An cn p _ (St.below HST.out (by repeat (first | exact HB.out | with_reducible apply below_drew1 | with_reducible apply below_alloc | with_reducible apply pw_below_drewN))) HO.out HCN2.out hcn).mono ?_); rintro e w2 ⟨h1, hb⟩; rw [HK.out] at h1; subst h1; have n0_ := Aside0.mk (below_step (by repeat (first | exact HB.out | with_reducible apply below_drew1 | with_reducible apply below_alloc | with_reducible apply pw_below_drewN)) hb); clear HB hb; have HB := n0_; clear n0_; have hk2_ := (HB.out.cell (p := ⟨b, 2, none⟩) hbl).trans hk2; have hk3_ := (HB.out.cell (p := ⟨b, 3, none⟩) hbl).trans hk3)
              | (go_at_call 82; (with_reducible refine (mdir_walk B b l _ k _ hkl (St.below HST.out (by repeat (first | exact HB.out | with_reducible apply below_drew1 | with_reducible apply below_alloc | with_reducible apply pw_below_drewN))) hd).mono ?_); rintro e w9 ⟨rfl, h9⟩; subst w9)
              | (go_at_call 81; (with_reducible refine (need_ok _ _).mono ?_); rintro e w9 ⟨rfl, h9⟩; subst w9)
              | (go_at_call 81; (with_reducible refine (need_bad 24 _).mono ?_); rintro e w9 ⟨rfl, h9⟩; subst w9; exact ⟨rfl, rfl, BW.mono (by repeat (first | exact HB.out | with_reducible apply below_drew1 | with_reducible apply below_alloc | with_reducible apply pw_below_drewN)) hBw⟩))
          · rw [if_neg hr]
            have hqr : (q.toList == [47]) = false := beq_eq_false_iff_ne.2 fun h => hr (bytes_ext (h.trans (beq_iff_eq.1 root_eq).symm))
            cases hs : spotF l q with
            | inr n =>
              dsimp only
              have HS := Aside0.mk hs
              clear hs
              go_enter Tryd.func70, Tryd.ntmps70
              go_wp2_with (first
                | (go_at_call 56; (with_reducible refine (names_walk p _ hp).mono ?_); rintro e w1 ⟨h1, hb⟩; rw [if_pos h0] at h1; obtain ⟨An, cn, rfl, hcn, hCn⟩ := h1; have HCN := Aside0.mk hCn; clear hCn; have n0_ := Aside0.mk (below_step (by repeat (first | exact HB.out | with_reducible apply below_drew1 | with_reducible apply below_alloc | with_reducible apply pw_below_drewN)) hb); clear HB hb; have HB := n0_; clear n0_; have hk2_ := (HB.out.cell (p := ⟨b, 2, none⟩) hbl).trans hk2; have hk3_ := (HB.out.cell (p := ⟨b, 3, none⟩) hbl).trans hk3)
                | (go_at_call 56; (with_reducible refine (names_walk q _ hq).mono ?_); rintro e w1q ⟨h1, hb⟩; rw [if_pos hzq] at h1; obtain ⟨Anq, cnq, rfl, hcnq, hCn⟩ := h1; have HCNq := Aside0.mk hCn; clear hCn; have HCN2 := Aside0.mk (Kd.C_below HCN.out hb); have n0_ := Aside0.mk (below_step (by repeat (first | exact HB.out | with_reducible apply below_drew1 | with_reducible apply below_alloc | with_reducible apply pw_below_drewN)) hb); clear HB hb; have HB := n0_; clear n0_; have hk2_ := (HB.out.cell (p := ⟨b, 2, none⟩) hbl).trans hk2; have hk3_ := (HB.out.cell (p := ⟨b, 3, none⟩) hbl).trans hk3)
                | (go_at_call 55; (with_reducible refine (place_walk B b l _ An cn p _ (St.below HST.out (by repeat (first | exact HB.out | with_reducible apply below_drew1 | with_reducible apply below_alloc | with_reducible apply pw_below_drewN))) HO.out HCN2.out hcn).mono ?_); rintro e w2 ⟨h1, hb⟩; rw [HK.out] at h1; subst h1; have n0_ := Aside0.mk (below_step (by repeat (first | exact HB.out | with_reducible apply below_drew1 | with_reducible apply below_alloc | with_reducible apply pw_below_drewN)) hb); clear HB hb; have HB := n0_; clear n0_; have hk2_ := (HB.out.cell (p := ⟨b, 2, none⟩) hbl).trans hk2; have hk3_ := (HB.out.cell (p := ⟨b, 3, none⟩) hbl).trans hk3)
                | (go_at_call 82; (with_reducible refine (mdir_walk B b l _ k _ hkl (St.below HST.out (by repeat (first | exact HB.out | with_reducible apply below_drew1 | with_reducible apply below_alloc | with_reducible apply pw_below_drewN))) hd).mono ?_); rintro e w9 ⟨rfl, h9⟩; subst w9)
                | (go_at_call 81; (with_reducible refine (need_ok _ _).mono ?_); rintro e w9 ⟨rfl, h9⟩; subst w9)
                | (go_at_call 92; (with_reducible refine (to_walk B b l _ q _ (St.below HST.out (by repeat (first | exact HB.out | with_reducible apply below_drew1 | with_reducible apply below_alloc | with_reducible apply pw_below_drewN))) HO.out hq hr).mono ?_); rintro e w3 ⟨h1, hb⟩; rw [HS.out] at h1; subst h1; have n0_ := Aside0.mk (below_step (by repeat (first | exact HB.out | with_reducible apply below_drew1 | with_reducible apply below_alloc | with_reducible apply pw_below_drewN)) hb); clear HB hb; have HB := n0_; clear n0_; have hk2_ := (HB.out.cell (p := ⟨b, 2, none⟩) hbl).trans hk2; exact ⟨rfl, rfl, BW.mono (by repeat (first | exact HB.out | with_reducible apply below_drew1 | with_reducible apply below_alloc | with_reducible apply pw_below_drewN)) hBw⟩))
            | inl s =>
              obtain ⟨d, nm, o⟩ := s
              have HS := Aside0.mk hs
              have hdl : d < l.length := (spotF_inl hs).choose_spec.2.2.2.2.1
              clear hs
              cases o with
              | some j =>
                dsimp only
                have hj : decide ((j : Int) < 0) = false := decide_eq_false (by omega)
                go_enter Tryd.func70, Tryd.ntmps70
                go_wp2_with (first
                  | (go_at_call 56; (with_reducible refine (names_walk p _ hp).mono ?_); rintro e w1 ⟨h1, hb⟩; rw [if_pos h0] at h1; obtain ⟨An, cn, rfl, hcn, hCn⟩ := h1; have HCN := Aside0.mk hCn; clear hCn; have n0_ := Aside0.mk (below_step (by repeat (first | exact HB.out | with_reducible apply below_drew1 | with_reducible apply below_alloc | with_reducible apply pw_below_drewN)) hb); clear HB hb; have HB := n0_; clear n0_; have hk2_ := (HB.out.cell (p := ⟨b, 2, none⟩) hbl).trans hk2; have hk3_ := (HB.out.cell (p := ⟨b, 3, none⟩) hbl).trans hk3)
                  | (go_at_call 56; (with_reducible refine (names_walk q _ hq).mono ?_); rintro e w1q ⟨h1, hb⟩; rw [if_pos hzq] at h1; obtain ⟨Anq, cnq, rfl, hcnq, hCn⟩ := h1; have HCNq := Aside0.mk hCn; clear hCn; have HCN2 := Aside0.mk (Kd.C_below HCN.out hb); have n0_ := Aside0.mk (below_step (by repeat (first | exact HB.out | with_reducible apply below_drew1 | with_reducible apply below_alloc | with_reducible apply pw_below_drewN)) hb); clear HB hb; have HB := n0_; clear n0_; have hk2_ := (HB.out.cell (p := ⟨b, 2, none⟩) hbl).trans hk2; have hk3_ := (HB.out.cell (p := ⟨b, 3, none⟩) hbl).trans hk3)
                  | (go_at_call 55; (with_reducible refine (place_walk B b l _ An cn p _ (St.below HST.out (by repeat (first | exact HB.out | with_reducible apply below_drew1 | with_reducible apply below_alloc | with_reducible apply pw_below_drewN))) HO.out HCN2.out hcn).mono ?_); rintro e w2 ⟨h1, hb⟩; rw [HK.out] at h1; subst h1; have n0_ := Aside0.mk (below_step (by repeat (first | exact HB.out | with_reducible apply below_drew1 | with_reducible apply below_alloc | with_reducible apply pw_below_drewN)) hb); clear HB hb; have HB := n0_; clear n0_; have hk2_ := (HB.out.cell (p := ⟨b, 2, none⟩) hbl).trans hk2; have hk3_ := (HB.out.cell (p := ⟨b, 3, none⟩) hbl).trans hk3)
                  | (go_at_call 82; (with_reducible refine (mdir_walk B b l _ k _ hkl (St.below HST.out (by repeat (first | exact HB.out | with_reducible apply below_drew1 | with_reducible apply below_alloc | with_reducible apply pw_below_drewN))) hd).mono ?_); rintro e w9 ⟨rfl, h9⟩; subst w9)
                  | (go_at_call 81; (with_reducible refine (need_ok _ _).mono ?_); rintro e w9 ⟨rfl, h9⟩; subst w9)
                  | (go_at_call 92; (with_reducible refine (to_walk B b l _ q _ (St.below HST.out (by repeat (first | exact HB.out | with_reducible apply below_drew1 | with_reducible apply below_alloc | with_reducible apply pw_below_drewN))) HO.out hq hr).mono ?_); rintro e w3 ⟨h1, hb⟩; rw [HS.out] at h1; subst h1; have n0_ := Aside0.mk (below_step (by repeat (first | exact HB.out | with_reducible apply below_drew1 | with_reducible apply below_alloc | with_reducible apply pw_below_drewN)) hb); clear HB hb; have HB := n0_; clear n0_; have hk2_ := (HB.out.cell (p := ⟨b, 2, none⟩) hbl).trans hk2; unfold spotV; dsimp only [nodeV])
                  | (go_at_call 81; (with_reducible refine (need_bad 24 _).mono ?_); rintro e w9 ⟨rfl, h9⟩; subst w9; exact ⟨rfl, rfl, BW.mono (by repeat (first | exact HB.out | with_reducible apply below_drew1 | with_reducible apply below_alloc | with_reducible apply pw_below_drewN)) hBw⟩))
              | none =>
                dsimp only
                obtain ⟨hBb', v, hw, hS⟩ := HST.out
                obtain ⟨A, cap, rfl, hcap, hC⟩ := Kd.S_reads hS
                have HW := Aside0.mk hw
                have HC := Aside0.mk hC
                clear hw hS hC hBb'
                have hk0 : (0 : Int) ≤ (k : Int) := by omega
                have hk1 : (k : Int) < (l.length : Int) := by omega
                by_cases hl : (nd l k).f1 < 200
                · rw [if_pos hl]
                  have hll : decide ((rd_T58 l (k : Int)).f1 < 200) = true := decide_eq_true hl
                  clear hl
                  cases hf : fullB l d with
                  | true =>
                    rw [if_pos rfl]
                    go_enter Tryd.func70, Tryd.ntmps70
                    go_wp2_with (first
                      | (go_at_call 56; (with_reducible refine (names_walk p _ hp).mono ?_); rintro e w1 ⟨h1, hb⟩; rw [if_pos h0] at h1; obtain ⟨An, cn, rfl, hcn, hCn⟩ := h1; have HCN := Aside0.mk hCn; clear hCn; have n0_ := Aside0.mk (below_step (by repeat (first | exact HB.out | with_reducible apply below_drew1 | with_reducible apply below_alloc | with_reducible apply pw_below_drewN)) hb); clear HB hb; have HB := n0_; clear n0_; have hk2_ := (HB.out.cell (p := ⟨b, 2, none⟩) hbl).trans hk2; have hk3_ := (HB.out.cell (p := ⟨b, 3, none⟩) hbl).trans hk3)
                      | (go_at_call 56; (with_reducible refine (names_walk q _ hq).mono ?_); rintro e w1q ⟨h1, hb⟩; rw [if_pos hzq] at h1; obtain ⟨Anq, cnq, rfl, hcnq, hCn⟩ := h1; have HCNq := Aside0.mk hCn; clear hCn; have HCN2 := Aside0.mk (Kd.C_below HCN.out hb); have n0_ := Aside0.mk (below_step (by repeat (first | exact HB.out | with_reducible apply below_drew1 | with_reducible apply below_alloc | with_reducible apply pw_below_drewN)) hb); clear HB hb; have HB := n0_; clear n0_; have hk2_ := (HB.out.cell (p := ⟨b, 2, none⟩) hbl).trans hk2; have hk3_ := (HB.out.cell (p := ⟨b, 3, none⟩) hbl).trans hk3)
                      | (go_at_call 55; (with_reducible refine (place_walk B b l _ An cn p _ (St.below HST.out (by repeat (first | exact HB.out | with_reducible apply below_drew1 | with_reducible apply below_alloc | with_reducible apply pw_below_drewN))) HO.out HCN2.out hcn).mono ?_); rintro e w2 ⟨h1, hb⟩; rw [HK.out] at h1; subst h1; have n0_ := Aside0.mk (below_step (by repeat (first | exact HB.out | with_reducible apply below_drew1 | with_reducible apply below_alloc | with_reducible apply pw_below_drewN)) hb); clear HB hb; have HB := n0_; clear n0_; have hk2_ := (HB.out.cell (p := ⟨b, 2, none⟩) hbl).trans hk2; have hk3_ := (HB.out.cell (p := ⟨b, 3, none⟩) hbl).trans hk3)
                      | (go_at_call 82; (with_reducible refine (mdir_walk B b l _ k _ hkl (St.below HST.out (by repeat (first | exact HB.out | with_reducible apply below_drew1 | with_reducible apply below_alloc | with_reducible apply pw_below_drewN))) hd).mono ?_); rintro e w9 ⟨rfl, h9⟩; subst w9)
                      | (go_at_call 81; (with_reducible refine (need_ok _ _).mono ?_); rintro e w9 ⟨rfl, h9⟩; subst w9)
                      | (go_at_call 92; (with_reducible refine (to_walk B b l _ q _ (St.below HST.out (by repeat (first | exact HB.out | with_reducible apply below_drew1 | with_reducible apply below_alloc | with_reducible apply pw_below_drewN))) HO.out hq hr).mono ?_); rintro e w3 ⟨h1, hb⟩; rw [HS.out] at h1; subst h1; have n0_ := Aside0.mk (below_step (by repeat (first | exact HB.out | with_reducible apply below_drew1 | with_reducible apply below_alloc | with_reducible apply pw_below_drewN)) hb); clear HB hb; have HB := n0_; clear n0_; have hk2_ := (HB.out.cell (p := ⟨b, 2, none⟩) hbl).trans hk2; have hw2 := blk_below HW.out (below_alloc HB.out (.cells #[.int .i64 (d : Int), .string nm, .int .i64 (-1)] 121)); have hC2 := Kd.C_below HC.out (below_alloc HB.out (.cells #[.int .i64 (d : Int), .string nm, .int .i64 (-1)] 121)); obtain ⟨ad, A2, c2, A3, c3, hA, -, hx1, -, hx3, -, -, -, -⟩ := at_T58 hC2 (k : Int) (by omega) (by omega); subst hA; rw [Int.toNat_natCast] at hx1 hx3; have hy0 := (blk_cell hw2 0).trans (show _ = some (Value.slice (some ad) l.length cap) from rfl); clear hw2 hC2; unfold spotV; dsimp only [nodeV])
                      | (go_at_call 93; (with_reducible refine (mfull_walk B b l _ d _ hdl (St.below HST.out (by repeat (first | exact HB.out | with_reducible apply below_drew1 | with_reducible apply below_alloc | with_reducible apply pw_below_drewN))) hf).mono ?_); rintro e w9 ⟨rfl, h9⟩; subst w9)
                      | (go_at_call 81; (with_reducible refine (need_bad 27 _).mono ?_); rintro e w9 ⟨rfl, h9⟩; subst w9; exact ⟨rfl, rfl, BW.mono (by repeat (first | exact HB.out | with_reducible apply below_drew1 | with_reducible apply below_alloc | with_reducible apply pw_below_drewN)) hBw⟩))
                  | false =>
                    rw [if_neg (by decide)]
                    have hkm : k < 1000000 := by have := HO.out.len; omega
                    go_enter Tryd.func70, Tryd.ntmps70
                    go_wp2_with (first
                      | (go_at_call 56; (with_reducible refine (names_walk p _ hp).mono ?_); rintro e w1 ⟨h1, hb⟩; rw [if_pos h0] at h1; obtain ⟨An, cn, rfl, hcn, hCn⟩ := h1; have HCN := Aside0.mk hCn; clear hCn; have n0_ := Aside0.mk (below_step (by repeat (first | exact HB.out | with_reducible apply below_drew1 | with_reducible apply below_alloc | with_reducible apply pw_below_drewN)) hb); clear HB hb; have HB := n0_; clear n0_; have hk2_ := (HB.out.cell (p := ⟨b, 2, none⟩) hbl).trans hk2; have hk3_ := (HB.out.cell (p := ⟨b, 3, none⟩) hbl).trans hk3)
                      | (go_at_call 56; (with_reducible refine (names_walk q _ hq).mono ?_); rintro e w1q ⟨h1, hb⟩; rw [if_pos hzq] at h1; obtain ⟨Anq, cnq, rfl, hcnq, hCn⟩ := h1; have HCNq := Aside0.mk hCn; clear hCn; have HCN2 := Aside0.mk (Kd.C_below HCN.out hb); have n0_ := Aside0.mk (below_step (by repeat (first | exact HB.out | with_reducible apply below_drew1 | with_reducible apply below_alloc | with_reducible apply pw_below_drewN)) hb); clear HB hb; have HB := n0_; clear n0_; have hk2_ := (HB.out.cell (p := ⟨b, 2, none⟩) hbl).trans hk2; have hk3_ := (HB.out.cell (p := ⟨b, 3, none⟩) hbl).trans hk3)
                      | (go_at_call 55; (with_reducible refine (place_walk B b l _ An cn p _ (St.below HST.out (by repeat (first | exact HB.out | with_reducible apply below_drew1 | with_reducible apply below_alloc | with_reducible apply pw_below_drewN))) HO.out HCN2.out hcn).mono ?_); rintro e w2 ⟨h1, hb⟩; rw [HK.out] at h1; subst h1; have n0_ := Aside0.mk (below_step (by repeat (first | exact HB.out | with_reducible apply below_drew1 | with_reducible apply below_alloc | with_reducible apply pw_below_drewN)) hb); clear HB hb; have HB := n0_; clear n0_; have hk2_ := (HB.out.cell (p := ⟨b, 2, none⟩) hbl).trans hk2; have hk3_ := (HB.out.cell (p := ⟨b, 3, none⟩) hbl).trans hk3)
                      | (go_at_call 82; (with_reducible refine (mdir_walk B b l _ k _ hkl (St.below HST.out (by repeat (first | exact HB.out | with_reducible apply below_drew1 | with_reducible apply below_alloc | with_reducible apply pw_below_drewN))) hd).mono ?_); rintro e w9 ⟨rfl, h9⟩; subst w9)
                      | (go_at_call 81; (with_reducible refine (need_ok _ _).mono ?_); rintro e w9 ⟨rfl, h9⟩; subst w9)
                      | (go_at_call 92; (with_reducible refine (to_walk B b l _ q _ (St.below HST.out (by repeat (first | exact HB.out | with_reducible apply below_drew1 | with_reducible apply below_alloc | with_reducible apply pw_below_drewN))) HO.out hq hr).mono ?_); rintro e w3 ⟨h1, hb⟩; rw [HS.out] at h1; subst h1; have n0_ := Aside0.mk (below_step (by repeat (first | exact HB.out | with_reducible apply below_drew1 | with_reducible apply below_alloc | with_reducible apply pw_below_drewN)) hb); clear HB hb; have HB := n0_; clear n0_; have hk2_ := (HB.out.cell (p := ⟨b, 2, none⟩) hbl).trans hk2; have hw2 := blk_below HW.out (below_alloc HB.out (.cells #[.int .i64 (d : Int), .string nm, .int .i64 (-1)] 121)); have hC2 := Kd.C_below HC.out (below_alloc HB.out (.cells #[.int .i64 (d : Int), .string nm, .int .i64 (-1)] 121)); obtain ⟨ad, A2, c2, A3, c3, hA, -, hx1, -, hx3, -, -, -, -⟩ := at_T58 hC2 (k : Int) (by omega) (by omega); subst hA; rw [Int.toNat_natCast] at hx1 hx3; have hy0 := (blk_cell hw2 0).trans (show _ = some (Value.slice (some ad) l.length cap) from rfl); clear hw2 hC2; unfold spotV; dsimp only [nodeV])
                      | (go_at_call 93; (with_reducible refine (mfull_walk B b l _ d _ hdl (St.below HST.out (by repeat (first | exact HB.out | with_reducible apply below_drew1 | with_reducible apply below_alloc | with_reducible apply pw_below_drewN))) hf).mono ?_); rintro e w9 ⟨rfl, h9⟩; subst w9)
                      | (go_at_call 94; (with_reducible refine (mput_walk B b l _ d nm (-1) k _ hdl (St.below HST.out (by repeat (first | exact HB.out | with_reducible apply below_drew1 | with_reducible apply below_alloc | with_reducible apply pw_below_drewN))) HO.out hkm).mono ?_); rintro e w5 ⟨rfl, hst5, hb5⟩; have HST5 := Aside0.mk hst5; have HB5 := Aside0.mk (BW.trans (BW.mono (by repeat (first | exact HB.out | with_reducible apply below_drew1 | with_reducible apply below_alloc | with_reducible apply pw_below_drewN)) hBw) hb5); clear hst5 hb5))
                    go_end0
                    exact ⟨⟨rfl, HST5.out⟩, HB5.out⟩
                · rw [if_neg hl]
                  have hll : decide ((rd_T58 l (k : Int)).f1 < 200) = false := decide_eq_false hl
                  clear hl
                  go_enter Tryd.func70, Tryd.ntmps70
                  go_wp2_with (first
                    | (go_at_call 56; (with_reducible refine (names_walk p _ hp).mono ?_); rintro e w1 ⟨h1, hb⟩; rw [if_pos h0] at h1; obtain ⟨An, cn, rfl, hcn, hCn⟩ := h1; have HCN := Aside0.mk hCn; clear hCn; have n0_ := Aside0.mk (below_step (by repeat (first | exact HB.out | with_reducible apply below_drew1 | with_reducible apply below_alloc | with_reducible apply pw_below_drewN)) hb); clear HB hb; have HB := n0_; clear n0_; have hk2_ := (HB.out.cell (p := ⟨b, 2, none⟩) hbl).trans hk2; have hk3_ := (HB.out.cell (p := ⟨b, 3, none⟩) hbl).trans hk3)
                    | (go_at_call 56; (with_reducible refine (names_walk q _ hq).mono ?_); rintro e w1q ⟨h1, hb⟩; rw [if_pos hzq] at h1; obtain ⟨Anq, cnq, rfl, hcnq, hCn⟩ := h1; have HCNq := Aside0.mk hCn; clear hCn; have HCN2 := Aside0.mk (Kd.C_below HCN.out hb); have n0_ := Aside0.mk (below_step (by repeat (first | exact HB.out | with_reducible apply below_drew1 | with_reducible apply below_alloc | with_reducible apply pw_below_drewN)) hb); clear HB hb; have HB := n0_; clear n0_; have hk2_ := (HB.out.cell (p := ⟨b, 2, none⟩) hbl).trans hk2; have hk3_ := (HB.out.cell (p := ⟨b, 3, none⟩) hbl).trans hk3)
                    | (go_at_call 55; (with_reducible refine (place_walk B b l _ An cn p _ (St.below HST.out (by repeat (first | exact HB.out | with_reducible apply below_drew1 | with_reducible apply below_alloc | with_reducible apply pw_below_drewN))) HO.out HCN2.out hcn).mono ?_); rintro e w2 ⟨h1, hb⟩; rw [HK.out] at h1; subst h1; have n0_ := Aside0.mk (below_step (by repeat (first | exact HB.out | with_reducible apply below_drew1 | with_reducible apply below_alloc | with_reducible apply pw_below_drewN)) hb); clear HB hb; have HB := n0_; clear n0_; have hk2_ := (HB.out.cell (p := ⟨b, 2, none⟩) hbl).trans hk2; have hk3_ := (HB.out.cell (p := ⟨b, 3, none⟩) hbl).trans hk3)
                    | (go_at_call 82; (with_reducible refine (mdir_walk B b l _ k _ hkl (St.below HST.out (by repeat (first | exact HB.out | with_reducible apply below_drew1 | with_reducible apply below_alloc | with_reducible apply pw_below_drewN))) hd).mono ?_); rintro e w9 ⟨rfl, h9⟩; subst w9)
                    | (go_at_call 81; (with_reducible refine (need_ok _ _).mono ?_); rintro e w9 ⟨rfl, h9⟩; subst w9)
                    | (go_at_call 92; (with_reducible refine (to_walk B b l _ q _ (St.below HST.out (by repeat (first | exact HB.out | with_reducible apply below_drew1 | with_reducible apply below_alloc | with_reducible apply pw_below_drewN))) HO.out hq hr).mono ?_); rintro e w3 ⟨h1, hb⟩; rw [HS.out] at h1; subst h1; have n0_ := Aside0.mk (below_step (by repeat (first | exact HB.out | with_reducible apply below_drew1 | with_reducible apply below_alloc | with_reducible apply pw_below_drewN)) hb); clear HB hb; have HB := n0_; clear n0_; have hk2_ := (HB.out.cell (p := ⟨b, 2, none⟩) hbl).trans hk2; have hw2 := blk_below HW.out (below_alloc HB.out (.cells #[.int .i64 (d : Int), .string nm, .int .i64 (-1)] 121)); have hC2 := Kd.C_below HC.out (below_alloc HB.out (.cells #[.int .i64 (d : Int), .string nm, .int .i64 (-1)] 121)); obtain ⟨ad, A2, c2, A3, c3, hA, -, hx1, -, hx3, -, -, -, -⟩ := at_T58 hC2 (k : Int) (by omega) (by omega); subst hA; rw [Int.toNat_natCast] at hx1 hx3; have hy0 := (blk_cell hw2 0).trans (show _ = some (Value.slice (some ad) l.length cap) from rfl); clear hw2 hC2; unfold spotV; dsimp only [nodeV])
                    | (go_at_call 81; (with_reducible refine (need_bad 26 _).mono ?_); rintro e w9 ⟨rfl, h9⟩; subst w9; exact ⟨rfl, rfl, BW.mono (by repeat (first | exact HB.out | with_reducible apply below_drew1 | with_reducible apply below_alloc | with_reducible apply pw_below_drewN)) hBw⟩))
    · rw [if_pos hzq]
      dsimp only
      go_enter Tryd.func70, Tryd.ntmps70
      go_wp2_with (first
        | (go_at_call 56; (with_reducible refine (names_walk p _ hp).mono ?_); rintro e w1 ⟨h1, hb⟩; rw [if_pos h0] at h1; obtain ⟨An, cn, rfl, hcn, hCn⟩ := h1; have HCN := Aside0.mk hCn; clear hCn; have n0_ := Aside0.mk (below_step (by repeat (first | exact HB.out | with_reducible apply below_drew1 | with_reducible apply below_alloc | with_reducible apply pw_below_drewN)) hb); clear HB hb; have HB := n0_; clear n0_; have hk2_ := (HB.out.cell (p := ⟨b, 2, none⟩) hbl).trans hk2; have hk3_ := (HB.out.cell (p := ⟨b, 3, none⟩) hbl).trans hk3)
        | (go_at_call 56; (with_reducible refine (names_walk q _ hq).mono ?_); rintro e w1q ⟨h1, hb⟩; rw [if_neg hzq] at h1; subst h1; have n0_ := Aside0.mk (below_step (by repeat (first | exact HB.out | with_reducible apply below_drew1 | with_reducible apply below_alloc | with_reducible apply pw_below_drewN)) hb); clear HB hb; have HB := n0_; clear n0_; have hk2_ := (HB.out.cell (p := ⟨b, 2, none⟩) hbl).trans hk2; exact ⟨rfl, rfl, BW.mono (by repeat (first | exact HB.out | with_reducible apply below_drew1 | with_reducible apply below_alloc | with_reducible apply pw_below_drewN)) hBw⟩))
  · rw [if_pos h0]
    dsimp only
    go_enter Tryd.func70, Tryd.ntmps70
    go_wp2_with (first
      | (go_at_call 56; (with_reducible refine (names_walk p _ hp).mono ?_); rintro e w1 ⟨h1, hb⟩; rw [if_neg h0] at h1; subst h1; have n0_ := Aside0.mk (below_step (by repeat (first | exact HB.out | with_reducible apply below_drew1 | with_reducible apply below_alloc | with_reducible apply pw_below_drewN)) hb); clear HB hb; have HB := n0_; clear n0_; have hk2_ := (HB.out.cell (p := ⟨b, 2, none⟩) hbl).trans hk2; exact ⟨rfl, rfl, BW.mono (by repeat (first | exact HB.out | with_reducible apply below_drew1 | with_reducible apply below_alloc | with_reducible apply pw_below_drewN)) hBw⟩))
end Go.Proofs.YtllfjmmdackgdaaDoor.PZ
end
/-! GUnlink -/
section
namespace Go.Proofs.YtllfjmmdackgdaaDoor.PZ
open Go.RowKit Go.Proofs.YtllfjmmdackgdaaDoorW.PrintWords Go.Proofs.YtllfjmmdackgdaaDoorW.PrintLast Go.Proofs.YtllfjmmdackgdaaDoorW.PrintMore Go.Proofs.YtllfjmmdackgdaaDoor.Ord TD
attribute [local go_sem ↓] Go.wp_at_zero Go.wp_at_succ
set_option maxRecDepth 100000
set_option linter.unusedVariables false
set_option linter.unusedSimpArgs false
set_option maxHeartbeats 4000000 in
theorem unlink_walk (B b : Nat) (l : List S58) (x : Value) (p : ByteArray) (rs : List Value) (w : World) (hst : St B b l (x :: .string p :: rs) w) (ho : Ok l) (hp : p.size < 10000000) :
    Calls Tryd.prog 71 #[.pointer (some ⟨b, 0, none⟩)] w fun en w' => (match unlinkF l p with | .inl l' => en = .returned (.tuple #[]) ∧ St B b l' (x :: .string p :: rs) w' | .inr n => en = .panicked (wrong n)) ∧ BW B w w' := by
  have hbl : b < w.heap.size := by obtain ⟨_, v, h, _⟩ := hst; exact blk_lt h
  have hBb : B ≤ b := hst.1
  have hBw : B ≤ w.heap.size := by omega
  have hk2 : w.cell? ⟨b, 2, none⟩ = some (.string p) := by obtain ⟨_, v, h, _⟩ := hst; exact (blk_cell h 2).trans rfl
  have HST := Aside0.mk hst
  have HO := Aside0.mk ho
  have HB := Aside0.mk (Below.refl w.heap.size w)
  clear hst ho
  unfold unlinkF placeF
  by_cases h0 : (splitA p).2 = 0
  · rw [if_pos h0]
    cases hk : wk l (splitA p).1 0 with
    | inr n =>
      dsimp only
      have HK := Aside0.mk hk
      clear hk
      go_enter Tryd.func71, Tryd.ntmps71
      go_wp2_with (first
        | (go_at_call 56; (with_reducible refine (names_walk p _ hp).mono ?_); rintro e w1 ⟨h1, hb⟩; rw [if_pos h0] at h1; obtain ⟨An, cn, rfl, hcn, hCn⟩ := h1; have HCN := Aside0.mk hCn; clear hCn; have n0_ := Aside0.mk (below_step (by repeat (first | exact HB.out | with_reducible apply below_drew1 | with_reducible apply below_alloc | with_reducible apply pw_below_drewN)) hb); clear HB hb; have HB := n0_; clear n0_; have hk2_ := (HB.out.cell (p := ⟨b, 2, none⟩) hbl).trans hk2)
        | (go_at_call 55; (with_reducible refine (place_walk B b l _ An cn p _ (St.below HST.out (by repeat (first | exact HB.out | with_reducible apply below_drew1 | with_reducible apply below_alloc | with_reducible apply pw_below_drewN))) HO.out HCN.out hcn).mono ?_); rintro e w2 ⟨h1, hb⟩; rw [HK.out] at h1; subst h1; have n0_ := Aside0.mk (below_step (by repeat (first | exact HB.out | with_reducible apply below_drew1 | with_reducible apply below_alloc | with_reducible apply pw_below_drewN)) hb); clear HB hb; have HB := n0_; clear n0_; have hk2_ := (HB.out.cell (p := ⟨b, 2, none⟩) hbl).trans hk2; exact ⟨rfl, rfl, BW.mono (by repeat (first | exact HB.out | with_reducible apply below_drew1 | with_reducible apply below_alloc | with_reducible apply pw_below_drewN)) hBw⟩))
    | inl k =>
      dsimp only
      have hkl : k < l.length := wk_lt HO.out.wf HO.out.wf.pos hk
      have HK := Aside0.mk hk
      clear hk
      cases hd : ((nd l k).f0 == 2) with
      | true =>
        rw [if_pos (beq_iff_eq.1 hd)]
        go_enter Tryd.func71, Tryd.ntmps71
        go_wp2_with (first
          | (go_at_call 56; (with_reducible refine (names_walk p _ hp).mono ?_); rintro e w1 ⟨h1, hb⟩; rw [if_pos h0] at h1; obtain ⟨An, cn, rfl, hcn, hCn⟩ := h1; have HCN := Aside0.mk hCn; clear hCn; have n0_ := Aside0.mk (below_step (by repeat (first | exact HB.out | with_reducible apply below_drew1 | with_reducible apply below_alloc | with_reducible apply pw_below_drewN)) hb); clear HB hb; have HB := n0_; clear n0_; have hk2_ := (HB.out.cell (p := ⟨b, 2, none⟩) hbl).trans hk2)
          | (go_at_call 55; (with_reducible refine (place_walk B b l _ An cn p _ (St.below HST.out (by repeat (first | exact HB.out | with_reducible apply below_drew1 | with_reducible apply below_alloc | with_reducible apply pw_below_drewN))) HO.out HCN.out hcn).mono ?_); rintro e w2 ⟨h1, hb⟩; rw [HK.out] at h1; subst h1; have n0_ := Aside0.mk (below_step (by repeat (first | exact HB.out | with_reducible apply below_drew1 | with_reducible apply below_alloc | with_reducible apply pw_below_drewN)) hb); clear HB hb; have HB := n0_; clear n0_; have hk2_ := (HB.out.cell (p := ⟨b, 2, none⟩) hbl).trans hk2)
          | (go_at_call 82; (with_reducible refine (mdir_walk B b l _ k _ hkl (St.below HST.out (by repeat (first | exact HB.out | with_reducible apply below_drew1 | with_reducible apply below_alloc | with_reducible apply pw_below_drewN))) hd).mono ?_); rintro e w9 ⟨rfl, h9⟩; subst w9)
          | (go_at_call 81; (with_reducible refine (need_bad 23 _).mono ?_); rintro e w9 ⟨rfl, h9⟩; subst w9; exact ⟨rfl, rfl, BW.mono (by repeat (first | exact HB.out | with_reducible apply below_drew1 | with_reducible apply below_alloc | with_reducible apply pw_below_drewN)) hBw⟩))
      | false =>
        rw [if_neg (beq_eq_false_iff_ne.1 hd)]
        have hr : p ≠ rootP := fun h => by
          have h2 := HK.out
          rw [h, splitA_root] at h2
          injection h2 with h2
          subst h2
          exact (beq_eq_false_iff_ne.1 hd) HO.out.wf.root
        cases hs : spotF l p with
        | inr n =>
          dsimp only
          have HS := Aside0.mk hs
          clear hs
          go_enter Tryd.func71, Tryd.ntmps71
          go_wp2_with (first
            | (go_at_call 56; (with_reducible refine (names_walk p _ hp).mono ?_); rintro e w1 ⟨h1, hb⟩; rw [if_pos h0] at h1; obtain ⟨An, cn, rfl, hcn, hCn⟩ := h1; have HCN := Aside0.mk hCn; clear hCn; have n0_ := Aside0.mk (below_step (by repeat (first | exact HB.out | with_reducible apply below_drew1 | with_reducible apply below_alloc | with_reducible apply pw_below_drewN)) hb); clear HB hb; have HB := n0_; clear n0_; have hk2_ := (HB.out.cell (p := ⟨b, 2, none⟩) hbl).trans hk2)
            | (go_at_call 55; (with_reducible refine (place_walk B b l _ An cn p _ (St.below HST.out (by repeat (first | exact HB.out | with_reducible apply below_drew1 | with_reducible apply below_alloc | with_reducible apply pw_below_drewN))) HO.out HCN.out hcn).mono ?_); rintro e w2 ⟨h1, hb⟩; rw [HK.out] at h1; subst h1; have n0_ := Aside0.mk (below_step (by repeat (first | exact HB.out | with_reducible apply below_drew1 | with_reducible apply below_alloc | with_reducible apply pw_below_drewN)) hb); clear HB hb; have HB := n0_; clear n0_; have hk2_ := (HB.out.cell (p := ⟨b, 2, none⟩) hbl).trans hk2)
            | (go_at_call 82; (with_reducible refine (mdir_walk B b l _ k _ hkl (St.below HST.out (by repeat (first | exact HB.out | with_reducible apply below_drew1 | with_reducible apply below_alloc | with_reducible apply pw_below_drewN))) hd).mono ?_); rintro e w9 ⟨rfl, h9⟩; subst w9)
            | (go_at_call 81; (with_reducible refine (need_ok _ _).mono ?_); rintro e w9 ⟨rfl, h9⟩; subst w9)
            | (go_at_call 92; (with_reducible refine (to_walk B b l _ p _ (St.below HST.out (by repeat (first | exact HB.out | with_reducible apply below_drew1 | with_reducible apply below_alloc | with_reducible apply pw_below_drewN))) HO.out hp hr).mono ?_); rintro e w3 ⟨h1, hb⟩; rw [HS.out] at h1; subst h1; have n0_ := Aside0.mk (below_step (by repeat (first | exact HB.out | with_reducible apply below_drew1 | with_reducible apply below_alloc | with_reducible apply pw_below_drewN)) hb); clear HB hb; have HB := n0_; clear n0_; have hk2_ := (HB.out.cell (p := ⟨b, 2, none⟩) hbl).trans hk2; exact ⟨rfl, rfl, BW.mono (by repeat (first | exact HB.out | with_reducible apply below_drew1 | with_reducible apply below_alloc | with_reducible apply pw_below_drewN)) hBw⟩))
        | inl s =>
          obtain ⟨d, nm, o⟩ := s
          dsimp only
          have HS := Aside0.mk hs
          have hdl : d < l.length := (spotF_inl hs).choose_spec.2.2.2.2.1
          clear hs
          go_enter Tryd.func71, Tryd.ntmps71
          go_wp2_with (first
            | (go_at_call 56; (with_reducible refine (names_walk p _ hp).mono ?_); rintro e w1 ⟨h1, hb⟩; rw [if_pos h0] at h1; obtain ⟨An, cn, rfl, hcn, hCn⟩ := h1; have HCN := Aside0.mk hCn; clear hCn; have n0_ := Aside0.mk (below_step (by repeat (first | exact HB.out | with_reducible apply below_drew1 | with_reducible apply below_alloc | with_reducible apply pw_below_drewN)) hb); clear HB hb; have HB := n0_; clear n0_; have hk2_ := (HB.out.cell (p := ⟨b, 2, none⟩) hbl).trans hk2)
            | (go_at_call 55; (with_reducible refine (place_walk B b l _ An cn p _ (St.below HST.out (by repeat (first | exact HB.out | with_reducible apply below_drew1 | with_reducible apply below_alloc | with_reducible apply pw_below_drewN))) HO.out HCN.out hcn).mono ?_); rintro e w2 ⟨h1, hb⟩; rw [HK.out] at h1; subst h1; have n0_ := Aside0.mk (below_step (by repeat (first | exact HB.out | with_reducible apply below_drew1 | with_reducible apply below_alloc | with_reducible apply pw_below_drewN)) hb); clear HB hb; have HB := n0_; clear n0_; have hk2_ := (HB.out.cell (p := ⟨b, 2, none⟩) hbl).trans hk2)
            | (go_at_call 82; (with_reducible refine (mdir_walk B b l _ k _ hkl (St.below HST.out (by repeat (first | exact HB.out | with_reducible apply below_drew1 | with_reducible apply below_alloc | with_reducible apply pw_below_drewN))) hd).mono ?_); rintro e w9 ⟨rfl, h9⟩; subst w9)
            | (go_at_call 81; (with_reducible refine (need_ok _ _).mono ?_); rintro e w9 ⟨rfl, h9⟩; subst w9)
            | (go_at_call 92; (with_reducible refine (to_walk B b l _ p _ (St.below HST.out (by repeat (first | exact HB.out | with_reducible apply below_drew1 | with_reducible apply below_alloc | with_reducible apply pw_below_drewN))) HO.out hp hr).mono ?_); rintro e w3 ⟨h1, hb⟩; rw [HS.out] at h1; subst h1; have n0_ := Aside0.mk (below_step (by repeat (first | exact HB.out | with_reducible apply below_drew1 | with_reducible apply below_alloc | with_reducible apply pw_below_drewN)) hb); clear HB hb; have HB := n0_; clear n0_; have hk2_ := (HB.out.cell (p := ⟨b, 2, none⟩) hbl).trans hk2; unfold spotV)
            | (go_at_call 95; (with_reducible refine (mcut_walk B b l _ d nm (nodeV o) _ hdl (St.below HST.out (by repeat (first | exact HB.out | with_reducible apply below_drew1 | with_reducible apply below_alloc | with_reducible apply pw_below_drewN))) HO.out).mono ?_); rintro e w4 ⟨rfl, hst4, hb4⟩; have HST4 := Aside0.mk hst4; have HB4 := Aside0.mk (BW.trans (BW.mono (by repeat (first | exact HB.out | with_reducible apply below_drew1 | with_reducible apply below_alloc | with_reducible apply pw_below_drewN)) hBw) hb4); clear hst4 hb4))
          go_end0
          exact ⟨⟨rfl, HST4.out⟩, HB4.out⟩
  · rw [if_neg h0]
    dsimp only
    go_enter Tryd.func71, Tryd.ntmps71
    go_wp2_with (first
      | (go_at_call 56; (with_reducible refine (names_walk p _ hp).mono ?_); rintro e w1 ⟨h1, hb⟩; rw [if_neg h0] at h1; subst h1; have n0_ := Aside0.mk (below_step (by repeat (first | exact HB.out | with_reducible apply below_drew1 | with_reducible apply below_alloc | with_reducible apply pw_below_drewN)) hb); clear HB hb; have HB := n0_; clear n0_; have hk2_ := (HB.out.cell (p := ⟨b, 2, none⟩) hbl).trans hk2; exact ⟨rfl, rfl, BW.mono (by repeat (first | exact HB.out | with_reducible apply below_drew1 | with_reducible apply below_alloc | with_reducible apply pw_below_drewN)) hBw⟩))
end Go.Proofs.YtllfjmmdackgdaaDoor.PZ
end
