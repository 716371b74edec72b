import Derived.Test.YtllfjmmdackgdaaDoorM20
import Derived.Test.YtllfjmmdackgdaaDoorM21
import Derived.Deep.RegionHeld3
import Derived.Deep.RegionHeld2
import Derived.Deep.Cut
import Derived.Deep.QuietTactic
import Derived.BigQuiet
import Derived.Test.YtllfjmmdackgdaaDoorM16
set_option linter.unusedVariables false
set_option linter.unusedSimpArgs false
/-! GRename -/
section
namespace Go.Proofs.YtllfjmmdackgdaaDoor.PZ
open Go.RowKit Go.Proofs.YtllfjmmdackgdaaDoorW.PrintWords Go.Proofs.YtllfjmmdackgdaaDoorW.PrintLast Go.Proofs.YtllfjmmdackgdaaDoorW.PrintMore Go.Proofs.YtllfjmmdackgdaaDoor.Ord TD
attribute [local go_sem ↓] Go.wp_at_zero Go.wp_at_succ
set_option maxRecDepth 100000
set_option linter.unusedVariables false
set_option linter.unusedSimpArgs false
set_option maxHeartbeats 40000000 in
theorem rename_core (B b : Nat) (l : List S58) (x : Value) (p q : ByteArray) (rs : List Value) (w : World) (hst : St B b l (x :: .string p :: .string q :: rs) w) (ho : Ok l) (hp : p.size < 10000000) (hq : q.size < 10000000) (X : List S58 ⊕ Int) (h0 : (splitA p).2 = 0) (hzq : (splitA q).2 = 0) (hr : p ≠ rootP) (hrq : q ≠ rootP) (k : Nat) (hk : wk l (splitA p).1 0 = .inl k) (hC : ¬ ((nd l k).f0 = 2 ∧ q ≠ p ∧ withinA q p = true)) (hX : (match spotF l p with | .inr n => .inr n | .inl a => match spotF l q with | .inr n => .inr n | .inl c => moveF l k a c) = X) :
    Calls Tryd.prog 73 #[.pointer (some ⟨b, 0, none⟩)] w fun en w' => OpPost B b (x :: .string p :: .string q :: rs) w X en w' := by
  cases hsa : spotF l p with
  | inr n => exact rename_a B b l x p q rs w hst ho hp hq X h0 hzq hr hrq k hk hC n hsa hX
  | inl a =>
    cases hsb : spotF l q with
    | inr n => exact rename_b B b l x p q rs w hst ho hp hq X h0 hzq hr hrq k hk hC a hsa n hsb hX
    | inl c => exact rename_c B b l x p q rs w hst ho hp hq X h0 hzq hr hrq k hk hC a c hsa hsb hX
set_option maxHeartbeats 4000000 in
theorem rename_walk (B b : Nat) (l : List S58) (x : Value) (p q : ByteArray) (rs : List Value) (w : World) (hst : St B b l (x :: .string p :: .string q :: rs) w) (ho : Ok l) (hp : p.size < 10000000) (hq : q.size < 10000000) :
    Calls Tryd.prog 73 #[.pointer (some ⟨b, 0, none⟩)] w fun en w' => (match renameF l p q with | .inl l' => en = .returned (.tuple #[]) ∧ St B b l' (x :: .string p :: .string q :: rs) w' | .inr n => en = .panicked (wrong n)) ∧ BW B w w' := by
  have hbl : b < w.heap.size := by obtain ⟨_, v, h, _⟩ := hst; exact blk_lt h
  have hBb : B ≤ b := hst.1
  have hBw : B ≤ w.heap.size := by omega
  have hk2 : w.cell? ⟨b, 2, none⟩ = some (.string p) := by obtain ⟨_, v, h, _⟩ := hst; exact (blk_cell h 2).trans rfl
  have hk3 : w.cell? ⟨b, 3, none⟩ = some (.string q) := by obtain ⟨_, v, h, _⟩ := hst; exact (blk_cell h 3).trans rfl
  have HST := Aside0.mk hst
  have HO := Aside0.mk ho
  have HB := Aside0.mk (Below.refl w.heap.size w)
  clear hst ho
  unfold renameF
  by_cases h0 : (splitA p).2 = 0
  · rw [if_neg (fun h => h h0)]
    by_cases hzq : (splitA q).2 = 0
    · rw [if_neg (fun h => h hzq)]
      by_cases hr : p = rootP
      · rw [if_pos (.inl hr)]
        have hpr : (p.toList == [47]) = true := by rw [hr]; exact root_eq
        clear hr
        go_enter Tryd.func73, Tryd.ntmps73
        go_wp2_with (first
          | (go_at_call 56; (with_reducible refine (names_walk p _ hp).mono ?_); rintro e w1 ⟨h1, hb⟩; rw [if_pos h0] at h1; obtain ⟨An, cn, rfl, hcn, hCn⟩ := h1; have HCN := Aside0.mk hCn; clear hCn; have n0_ := Aside0.mk (below_step (by repeat (first | exact HB.out | with_reducible apply below_drew1 | with_reducible apply below_alloc | with_reducible apply pw_below_drewN)) hb); clear HB hb; have HB := n0_; clear n0_; have hk2_ := (HB.out.cell (p := ⟨b, 2, none⟩) hbl).trans hk2; have hk3_ := (HB.out.cell (p := ⟨b, 3, none⟩) hbl).trans hk3)
          | (go_at_call 56; (with_reducible refine (names_walk q _ hq).mono ?_); rintro e w1q ⟨h1, hb⟩; rw [if_pos hzq] at h1; obtain ⟨Anq, cnq, rfl, hcnq, hCn⟩ := h1; have HCNq := Aside0.mk hCn; clear hCn; have HCN2 := Aside0.mk (Kd.C_below HCN.out hb); have n0_ := Aside0.mk (below_step (by repeat (first | exact HB.out | with_reducible apply below_drew1 | with_reducible apply below_alloc | with_reducible apply pw_below_drewN)) hb); clear HB hb; have HB := n0_; clear n0_; have hk2_ := (HB.out.cell (p := ⟨b, 2, none⟩) hbl).trans hk2; have hk3_ := (HB.out.cell (p := ⟨b, 3, none⟩) hbl).trans hk3)
          | (go_at_call 81; (with_reducible refine (need_bad 29 _).mono ?_); rintro e w9 ⟨rfl, h9⟩; subst w9; exact ⟨rfl, rfl, BW.mono (by repeat (first | exact HB.out | with_reducible apply below_drew1 | with_reducible apply below_alloc | with_reducible apply pw_below_drewN)) hBw⟩))
      · have hpr : (p.toList == [47]) = false := beq_eq_false_iff_ne.2 fun h => hr (bytes_ext (h.trans (beq_iff_eq.1 root_eq).symm))
        by_cases hrq : q = rootP
        · rw [if_pos (.inr hrq)]
          have hqr : (q.toList == [47]) = true := by rw [hrq]; exact root_eq
          clear hrq
          go_enter Tryd.func73, Tryd.ntmps73
          go_wp2_with (first
            | (go_at_call 56; (with_reducible refine (names_walk p _ hp).mono ?_); rintro e w1 ⟨h1, hb⟩; rw [if_pos h0] at h1; obtain ⟨An, cn, rfl, hcn, hCn⟩ := h1; have HCN := Aside0.mk hCn; clear hCn; have n0_ := Aside0.mk (below_step (by repeat (first | exact HB.out | with_reducible apply below_drew1 | with_reducible apply below_alloc | with_reducible apply pw_below_drewN)) hb); clear HB hb; have HB := n0_; clear n0_; have hk2_ := (HB.out.cell (p := ⟨b, 2, none⟩) hbl).trans hk2; have hk3_ := (HB.out.cell (p := ⟨b, 3, none⟩) hbl).trans hk3)
            | (go_at_call 56; (with_reducible refine (names_walk q _ hq).mono ?_); rintro e w1q ⟨h1, hb⟩; rw [if_pos hzq] at h1; obtain ⟨Anq, cnq, rfl, hcnq, hCn⟩ := h1; have HCNq := Aside0.mk hCn; clear hCn; have HCN2 := Aside0.mk (Kd.C_below HCN.out hb); have n0_ := Aside0.mk (below_step (by repeat (first | exact HB.out | with_reducible apply below_drew1 | with_reducible apply below_alloc | with_reducible apply pw_below_drewN)) hb); clear HB hb; have HB := n0_; clear n0_; have hk2_ := (HB.out.cell (p := ⟨b, 2, none⟩) hbl).trans hk2; have hk3_ := (HB.out.cell (p := ⟨b, 3, none⟩) hbl).trans hk3)
            | (go_at_call 81; (with_reducible refine (need_bad 29 _).mono ?_); rintro e w9 ⟨rfl, h9⟩; subst w9; exact ⟨rfl, rfl, BW.mono (by repeat (first | exact HB.out | with_reducible apply below_drew1 | with_reducible apply below_alloc | with_reducible apply pw_below_drewN)) hBw⟩))
        · rw [if_neg (fun h => h.elim hr hrq)]
          have hqr : (q.toList == [47]) = false := beq_eq_false_iff_ne.2 fun h => hrq (bytes_ext (h.trans (beq_iff_eq.1 root_eq).symm))
          cases hk : wk l (splitA p).1 0 with
          | inr n =>
            dsimp only
            have HK := Aside0.mk hk
            clear hk
            go_enter Tryd.func73, Tryd.ntmps73
            go_wp2_with (first
              | (go_at_call 56; (with_reducible refine (names_walk p _ hp).mono ?_); rintro e w1 ⟨h1, hb⟩; rw [if_pos h0] at h1; obtain ⟨An, cn, rfl, hcn, hCn⟩ := h1; have HCN := Aside0.mk hCn; clear hCn; have n0_ := Aside0.mk (below_step (by repeat (first | exact HB.out | with_reducible apply below_drew1 | with_reducible apply below_alloc | with_reducible apply pw_below_drewN)) hb); clear HB hb; have HB := n0_; clear n0_; have hk2_ := (HB.out.cell (p := ⟨b, 2, none⟩) hbl).trans hk2; have hk3_ := (HB.out.cell (p := ⟨b, 3, none⟩) hbl).trans hk3)
              | (go_at_call 56; (with_reducible refine (names_walk q _ hq).mono ?_); rintro e w1q ⟨h1, hb⟩; rw [if_pos hzq] at h1; obtain ⟨Anq, cnq, rfl, hcnq, hCn⟩ := h1; have HCNq := Aside0.mk hCn; clear hCn; have HCN2 := Aside0.mk (Kd.C_below HCN.out hb); have n0_ := Aside0.mk (below_step (by repeat (first | exact HB.out | with_reducible apply below_drew1 | with_reducible apply below_alloc | with_reducible apply pw_below_drewN)) hb); clear HB hb; have HB := n0_; clear n0_; have hk2_ := (HB.out.cell (p := ⟨b, 2, none⟩) hbl).trans hk2; have hk3_ := (HB.out.cell (p := ⟨b, 3, none⟩) hbl).trans hk3)
              | (go_at_call 81; (with_reducible refine (need_ok _ _).mono ?_); rintro e w9 ⟨rfl, h9⟩; subst w9)
              | (go_at_call 55; (with_reducible refine (place_walk B b l _ An cn p _ (St.below HST.out (by repeat (first | exact HB.out | with_reducible apply below_drew1 | with_reducible apply below_alloc | with_reducible apply pw_below_drewN))) HO.out HCN2.out hcn).mono ?_); rintro e w2 ⟨h1, hb⟩; rw [HK.out] at h1; subst h1; have n0_ := Aside0.mk (below_step (by repeat (first | exact HB.out | with_reducible apply below_drew1 | with_reducible apply below_alloc | with_reducible apply pw_below_drewN)) hb); clear HB hb; have HB := n0_; clear n0_; have hk2_ := (HB.out.cell (p := ⟨b, 2, none⟩) hbl).trans hk2; exact ⟨rfl, rfl, BW.mono (by repeat (first | exact HB.out | with_reducible apply below_drew1 | with_reducible apply below_alloc | with_reducible apply pw_below_drewN)) hBw⟩))
          | inl k =>
            dsimp only
            by_cases hC : (nd l k).f0 = 2 ∧ q ≠ p ∧ withinA q p = true
            · rw [if_pos hC]
              obtain ⟨hd, hqp, hwi⟩ := hC
              have hd := beq_iff_eq.2 hd
              have hqpb : (q.toList == p.toList) = false := beq_eq_false_iff_ne.2 fun h => hqp (bytes_ext h)
              clear hqp
              have hkl : k < l.length := wk_lt HO.out.wf HO.out.wf.pos hk
              have HK := Aside0.mk hk
              clear hk
              go_enter Tryd.func73, Tryd.ntmps73
              go_wp2_with (first
                | (go_at_call 56; (with_reducible refine (names_walk p _ hp).mono ?_); rintro e w1 ⟨h1, hb⟩; rw [if_pos h0] at h1; obtain ⟨An, cn, rfl, hcn, hCn⟩ := h1; have HCN := Aside0.mk hCn; clear hCn; have n0_ := Aside0.mk (below_step (by repeat (first | exact HB.out | with_reducible apply below_drew1 | with_reducible apply below_alloc | with_reducible apply pw_below_drewN)) hb); clear HB hb; have HB := n0_; clear n0_; have hk2_ := (HB.out.cell (p := ⟨b, 2, none⟩) hbl).trans hk2; have hk3_ := (HB.out.cell (p := ⟨b, 3, none⟩) hbl).trans hk3)
                | (go_at_call 56; (with_reducible refine (names_walk q _ hq).mono ?_); rintro e w1q ⟨h1, hb⟩; rw [if_pos hzq] at h1; obtain ⟨Anq, cnq, rfl, hcnq, hCn⟩ := h1; have HCNq := Aside0.mk hCn; clear hCn; have HCN2 := Aside0.mk (Kd.C_below HCN.out hb); have n0_ := Aside0.mk (below_step (by repeat (first | exact HB.out | with_reducible apply below_drew1 | with_reducible apply below_alloc | with_reducible apply pw_below_drewN)) hb); clear HB hb; have HB := n0_; clear n0_; have hk2_ := (HB.out.cell (p := ⟨b, 2, none⟩) hbl).trans hk2; have hk3_ := (HB.out.cell (p := ⟨b, 3, none⟩) hbl).trans hk3)
                | (go_at_call 81; (with_reducible refine (need_ok _ _).mono ?_); rintro e w9 ⟨rfl, h9⟩; subst w9)
                | (go_at_call 55; (with_reducible refine (place_walk B b l _ An cn p _ (St.below HST.out (by repeat (first | exact HB.out | with_reducible apply below_drew1 | with_reducible apply below_alloc | with_reducible apply pw_below_drewN))) HO.out HCN2.out hcn).mono ?_); rintro e w2 ⟨h1, hb⟩; rw [HK.out] at h1; subst h1; have n0_ := Aside0.mk (below_step (by repeat (first | exact HB.out | with_reducible apply below_drew1 | with_reducible apply below_alloc | with_reducible apply pw_below_drewN)) hb); clear HB hb; have HB := n0_; clear n0_; have hk2_ := (HB.out.cell (p := ⟨b, 2, none⟩) hbl).trans hk2; have hk3_ := (HB.out.cell (p := ⟨b, 3, none⟩) hbl).trans hk3))
              go_region_held2 (fun w' => w'.cell? ⟨b, 2, none⟩ = some (.string p) ∧ w'.cell? ⟨b, 3, none⟩ = some (.string q)) (first | exact hF.out.elim | go_keep) (first | (go_at_call 82; (with_reducible refine (mdir_walk B b l _ k _ hkl (St.below HST.out (by repeat (first | exact HB.out | with_reducible apply below_drew1 | with_reducible apply below_alloc | with_reducible apply pw_below_drewN))) hd).mono ?_); rintro e w9 ⟨rfl, h9⟩; subst w9) | (go_at_call 24; (with_reducible refine (within_walk q p _ hq hp hwi).mono ?_); rintro e w7 ⟨rfl, hb⟩; have n0_ := Aside0.mk (below_step (by repeat (first | exact HB.out | with_reducible apply below_drew1 | with_reducible apply below_alloc | with_reducible apply pw_below_drewN)) hb); clear HB hb; have HB := n0_; clear n0_; have hk2_ := (HB.out.cell (p := ⟨b, 2, none⟩) hbl).trans hk2; have hk3_ := (HB.out.cell (p := ⟨b, 3, none⟩) hbl).trans hk3) | (go_at_call 81; (with_reducible refine calls_dead (v := .tuple #[]) ((need_bad 29 _).mono ?hm) ?hd); (case hm => rintro e w9 ⟨rfl, h9⟩; subst w9; exact ⟨rfl, rfl, BW.mono (by repeat (first | exact HB.out | with_reducible apply below_drew1 | with_reducible apply below_alloc | with_reducible apply pw_below_drewN)) hBw⟩); intro hF0; have hF := Aside0.mk hF0; clear hF0; dsimp only))
              all_goals exact hF.out.elim
            · rw [if_neg hC]
              exact rename_core B b l x p q rs w HST.out HO.out hp hq _ h0 hzq hr hrq k hk hC rfl
    · rw [if_pos hzq]
      dsimp only
      go_enter Tryd.func73, Tryd.ntmps73
      go_wp2_with (first
        | (go_at_call 56; (with_reducible refine (names_walk p _ hp).mono ?_); rintro e w1 ⟨h1, hb⟩; rw [if_pos h0] at h1; obtain ⟨An, cn, rfl, hcn, hCn⟩ := h1; have HCN := Aside0.mk hCn; clear hCn; have n0_ := Aside0.mk (below_step (by repeat (first | exact HB.out | with_reducible apply below_drew1 | with_reducible apply below_alloc | with_reducible apply pw_below_drewN)) hb); clear HB hb; have HB := n0_; clear n0_; have hk2_ := (HB.out.cell (p := ⟨b, 2, none⟩) hbl).trans hk2; have hk3_ := (HB.out.cell (p := ⟨b, 3, none⟩) hbl).trans hk3)
        | (go_at_call 56; (with_reducible refine (names_walk q _ hq).mono ?_); rintro e w1q ⟨h1, hb⟩; rw [if_neg hzq] at h1; subst h1; have n0_ := Aside0.mk (below_step (by repeat (first | exact HB.out | with_reducible apply below_drew1 | with_reducible apply below_alloc | with_reducible apply pw_below_drewN)) hb); clear HB hb; have HB := n0_; clear n0_; have hk2_ := (HB.out.cell (p := ⟨b, 2, none⟩) hbl).trans hk2; exact ⟨rfl, rfl, BW.mono (by repeat (first | exact HB.out | with_reducible apply below_drew1 | with_reducible apply below_alloc | with_reducible apply pw_below_drewN)) hBw⟩))
  · rw [if_pos h0]
    dsimp only
    go_enter Tryd.func73, Tryd.ntmps73
    go_wp2_with (first
      | (go_at_call 56; (with_reducible refine (names_walk p _ hp).mono ?_); rintro e w1 ⟨h1, hb⟩; rw [if_neg h0] at h1; subst h1; have n0_ := Aside0.mk (below_step (by repeat (first | exact HB.out | with_reducible apply below_drew1 | with_reducible apply below_alloc | with_reducible apply pw_below_drewN)) hb); clear HB hb; have HB := n0_; clear n0_; have hk2_ := (HB.out.cell (p := ⟨b, 2, none⟩) hbl).trans hk2; exact ⟨rfl, rfl, BW.mono (by repeat (first | exact HB.out | with_reducible apply below_drew1 | with_reducible apply below_alloc | with_reducible apply pw_below_drewN)) hBw⟩))
end Go.Proofs.YtllfjmmdackgdaaDoor.PZ
end
/-! GFile -/
section
namespace Go.Proofs.YtllfjmmdackgdaaDoor.PZ
open Go.RowKit Go.Proofs.YtllfjmmdackgdaaDoorW.PrintWords Go.Proofs.YtllfjmmdackgdaaDoorW.PrintLast Go.Proofs.YtllfjmmdackgdaaDoorW.PrintMore Go.Proofs.YtllfjmmdackgdaaDoor.Ord TD
attribute [local go_sem ↓] Go.wp_at_zero Go.wp_at_succ
set_option maxRecDepth 100000
set_option linter.unusedVariables false
set_option linter.unusedSimpArgs false
set_option maxHeartbeats 4000000 in
theorem file_walk (B b : Nat) (l : List S58) (x : Value) (p : ByteArray) (rs : List Value) (g cap : Nat) (w : World) (hBb : B ≤ b) (hw : Wk w b (.slice (some ⟨g, 0, none⟩) l.length cap) (x :: .string p :: rs)) (hS : Kd.S k58 58 w B (fun k => k ≠ b) (.slice (some ⟨g, 0, none⟩) l.length cap) l) (ho : Ok l) (hp : p.size < 10000000) :
    Calls Tryd.prog 96 #[.pointer (some ⟨b, 0, none⟩)] w fun en w' => (match fileF l p with | .inl k => en = .returned (.pointer (some ⟨g, k * 4, none⟩)) | .inr n => en = .panicked (wrong n)) ∧ Below w.heap.size w w' := by
  have hst : St B b l (x :: .string p :: rs) w := ⟨hBb, _, hw, hS⟩
  have hbl : b < w.heap.size := blk_lt hw
  have hBw : w.heap.size ≤ w.heap.size := Nat.le_refl _
  have hk2 : w.cell? ⟨b, 2, none⟩ = some (.string p) := (blk_cell hw 2).trans rfl
  have hk0 : w.cell? ⟨b, 0, none⟩ = some (.slice (some ⟨g, 0, none⟩) l.length cap) := (blk_cell hw 0).trans rfl
  have HST := Aside0.mk hst
  have HO := Aside0.mk ho
  have HB := Aside0.mk (Below.refl w.heap.size w)
  clear hst ho hw hS
  unfold fileF placeF
  by_cases h0 : (splitA p).2 = 0
  · rw [if_pos h0]
    cases hk : wk l (splitA p).1 0 with
    | inr n =>
      dsimp only
      have HK := Aside0.mk hk
      clear hk
      go_enter Tryd.func96, Tryd.ntmps96
      go_wp2_with (first
        | (go_at_call 56; (with_reducible refine (names_walk p _ hp).mono ?_); rintro e w1 ⟨h1, hb⟩; rw [if_pos h0] at h1; obtain ⟨An, cn, rfl, hcn, hCn⟩ := h1; have HCN := Aside0.mk hCn; clear hCn; have n0_ := Aside0.mk (below_step (by repeat (first | exact HB.out | with_reducible apply below_drew1 | with_reducible apply below_alloc | with_reducible apply pw_below_drewN)) hb); clear HB hb; have HB := n0_; clear n0_; have hk2_ := (HB.out.cell (p := ⟨b, 2, none⟩) hbl).trans hk2)
        | (go_at_call 55; (with_reducible refine (place_walk B b l _ An cn p _ (St.below HST.out (by repeat (first | exact HB.out | with_reducible apply below_drew1 | with_reducible apply below_alloc | with_reducible apply pw_below_drewN))) HO.out HCN.out hcn).mono ?_); rintro e w2 ⟨h1, hb⟩; rw [HK.out] at h1; subst h1; have n0_ := Aside0.mk (below_step (by repeat (first | exact HB.out | with_reducible apply below_drew1 | with_reducible apply below_alloc | with_reducible apply pw_below_drewN)) hb); clear HB hb; have HB := n0_; clear n0_; have hk2_ := (HB.out.cell (p := ⟨b, 2, none⟩) hbl).trans hk2; exact ⟨rfl, rfl, Below.mono (by repeat (first | exact HB.out | with_reducible apply below_drew1 | with_reducible apply below_alloc | with_reducible apply pw_below_drewN)) hBw⟩))
    | inl k =>
      dsimp only
      have hkl : k < l.length := wk_lt HO.out.wf HO.out.wf.pos hk
      have HK := Aside0.mk hk
      clear hk
      cases hd : ((nd l k).f0 == 2) with
      | true =>
        rw [if_pos (beq_iff_eq.1 hd)]
        dsimp only
        go_enter Tryd.func96, Tryd.ntmps96
        go_wp2_with (first
          | (go_at_call 56; (with_reducible refine (names_walk p _ hp).mono ?_); rintro e w1 ⟨h1, hb⟩; rw [if_pos h0] at h1; obtain ⟨An, cn, rfl, hcn, hCn⟩ := h1; have HCN := Aside0.mk hCn; clear hCn; have n0_ := Aside0.mk (below_step (by repeat (first | exact HB.out | with_reducible apply below_drew1 | with_reducible apply below_alloc | with_reducible apply pw_below_drewN)) hb); clear HB hb; have HB := n0_; clear n0_; have hk2_ := (HB.out.cell (p := ⟨b, 2, none⟩) hbl).trans hk2)
          | (go_at_call 55; (with_reducible refine (place_walk B b l _ An cn p _ (St.below HST.out (by repeat (first | exact HB.out | with_reducible apply below_drew1 | with_reducible apply below_alloc | with_reducible apply pw_below_drewN))) HO.out HCN.out hcn).mono ?_); rintro e w2 ⟨h1, hb⟩; rw [HK.out] at h1; subst h1; have n0_ := Aside0.mk (below_step (by repeat (first | exact HB.out | with_reducible apply below_drew1 | with_reducible apply below_alloc | with_reducible apply pw_below_drewN)) hb); clear HB hb; have HB := n0_; clear n0_; have hk2_ := (HB.out.cell (p := ⟨b, 2, none⟩) hbl).trans hk2)
          | (go_at_call 82; (with_reducible refine (mdir_walk B b l _ k _ hkl (St.below HST.out (by repeat (first | exact HB.out | with_reducible apply below_drew1 | with_reducible apply below_alloc | with_reducible apply pw_below_drewN))) hd).mono ?_); rintro e w9 ⟨rfl, h9⟩; subst w9)
          | (go_at_call 81; (with_reducible refine (need_bad 23 _).mono ?_); rintro e w9 ⟨rfl, h9⟩; subst w9; exact ⟨rfl, rfl, Below.mono (by repeat (first | exact HB.out | with_reducible apply below_drew1 | with_reducible apply below_alloc | with_reducible apply pw_below_drewN)) hBw⟩))
      | false =>
        rw [if_neg (beq_eq_false_iff_ne.1 hd)]
        dsimp only
        have hz0 : (0 : Int) ≤ (k : Int) := by omega
        have hz1 : (k : Int) < (l.length : Int) := by omega
        go_enter Tryd.func96, Tryd.ntmps96
        go_wp2_with (first
          | (go_at_call 56; (with_reducible refine (names_walk p _ hp).mono ?_); rintro e w1 ⟨h1, hb⟩; rw [if_pos h0] at h1; obtain ⟨An, cn, rfl, hcn, hCn⟩ := h1; have HCN := Aside0.mk hCn; clear hCn; have n0_ := Aside0.mk (below_step (by repeat (first | exact HB.out | with_reducible apply below_drew1 | with_reducible apply below_alloc | with_reducible apply pw_below_drewN)) hb); clear HB hb; have HB := n0_; clear n0_; have hk2_ := (HB.out.cell (p := ⟨b, 2, none⟩) hbl).trans hk2)
          | (go_at_call 55; (with_reducible refine (place_walk B b l _ An cn p _ (St.below HST.out (by repeat (first | exact HB.out | with_reducible apply below_drew1 | with_reducible apply below_alloc | with_reducible apply pw_below_drewN))) HO.out HCN.out hcn).mono ?_); rintro e w2 ⟨h1, hb⟩; rw [HK.out] at h1; subst h1; have n0_ := Aside0.mk (below_step (by repeat (first | exact HB.out | with_reducible apply below_drew1 | with_reducible apply below_alloc | with_reducible apply pw_below_drewN)) hb); clear HB hb; have HB := n0_; clear n0_; have hk2_ := (HB.out.cell (p := ⟨b, 2, none⟩) hbl).trans hk2; have hk0_ := (HB.out.cell (p := ⟨b, 0, none⟩) hbl).trans hk0)
          | (go_at_call 82; (with_reducible refine (mdir_walk B b l _ k _ hkl (St.below HST.out (by repeat (first | exact HB.out | with_reducible apply below_drew1 | with_reducible apply below_alloc | with_reducible apply pw_below_drewN))) hd).mono ?_); rintro e w9 ⟨rfl, h9⟩; subst w9)
          | (go_at_call 81; (with_reducible refine (need_ok _ _).mono ?_); rintro e w9 ⟨rfl, h9⟩; subst w9))
        go_ret
        exact ⟨rfl, HB.out⟩
  · rw [if_neg h0]
    dsimp only
    go_enter Tryd.func96, Tryd.ntmps96
    go_wp2_with (first
      | (go_at_call 56; (with_reducible refine (names_walk p _ hp).mono ?_); rintro e w1 ⟨h1, hb⟩; rw [if_neg h0] at h1; subst h1; have n0_ := Aside0.mk (below_step (by repeat (first | exact HB.out | with_reducible apply below_drew1 | with_reducible apply below_alloc | with_reducible apply pw_below_drewN)) hb); clear HB hb; have HB := n0_; clear n0_; have hk2_ := (HB.out.cell (p := ⟨b, 2, none⟩) hbl).trans hk2; exact ⟨rfl, rfl, Below.mono (by repeat (first | exact HB.out | with_reducible apply below_drew1 | with_reducible apply below_alloc | with_reducible apply pw_below_drewN)) hBw⟩))
end Go.Proofs.YtllfjmmdackgdaaDoor.PZ
end
/-! GSized -/
section
namespace Go.Proofs.YtllfjmmdackgdaaDoor.PZ
open Go.RowKit Go.Proofs.YtllfjmmdackgdaaDoorW.PrintWords Go.Proofs.YtllfjmmdackgdaaDoorW.PrintLast Go.Proofs.YtllfjmmdackgdaaDoorW.PrintMore Go.Proofs.YtllfjmmdackgdaaDoor.Ord TD
attribute [local go_sem ↓] Go.wp_at_zero Go.wp_at_succ
set_option maxRecDepth 100000
set_option linter.unusedVariables false
set_option linter.unusedSimpArgs false
theorem sized_take (b : List Int) (n : Nat) : b.take (min b.length (List.replicate n (0 : Int)).length) ++ (List.replicate n (0 : Int)).drop (min b.length (List.replicate n (0 : Int)).length) = sizedF b n := by
  unfold sizedF
  rw [List.length_replicate, List.drop_replicate]
  rcases Nat.le_total b.length n with h | h
  · rw [Nat.min_eq_left h, List.take_of_length_le (Nat.le_refl _), List.take_of_length_le h]
  · rw [Nat.min_eq_right h, Nat.sub_self, Nat.sub_eq_zero_of_le h]
theorem info5s : (Tryd.prog.info? 5).map (·.size) = some 1 := by kernel_rfl
theorem sized_walk (A : Option Addr) (c : Nat) (bs : List Int) (n : Nat) (w : World) (hC : Kd.C (Kd.int .u8) w A bs.length bs) (hc : bs.length ≤ c) (hn : n < 1000000000) :
    Calls Tryd.prog 97 #[.slice A bs.length c, .int .i64 n] w fun e w' => ∃ v, e = .returned v ∧ Kd.R (Kd.int .u8) 5 w' w.heap.size (fun _ => True) v (sizedF bs n) ∧ Below w.heap.size w w' := by
  have HC := Aside0.mk hC
  clear hC
  go_enter Tryd.func97, Tryd.ntmps97
  have hz0 : (0 : Int) ≤ (n : Int) := by omega
  have hzl : (n : Int).toNat * 1 ≤ 281474976710656 := by omega
  go_wp2_with (first
    | ((with_reducible refine gate_dst (N := 7) rfl ?_); go_loud (refine Kd.R_make (Kd.int .u8) (w0 := w) w.heap.size 5 rfl (N := 7) rfl 37 _ _ rfl (n : Int) rfl rfl Tryd.underlying37 (.int .u8 0) 1 info5 rfl (by decide) (by omega) (0 : Int) (ok := fun _ => True) (okp := fun _ => True) rfl (fun _ hk => hk) trivial hz0 hzl (Below.refl _ _) (Nat.le_refl _) ?_); intro v1 w1 ho hb hg hnew; clear hg hnew; rw [Int.toNat_natCast] at ho; have HO := Aside0.mk ho; have HB := Aside0.mk hb; clear ho hb)
    | ((with_reducible refine gate_builtin (b := .copy) (xs := #[.tmp 8, .tmp 9]) rfl ?_); go_loud (refine Kd.R_copy (0 : Int) (enc := fun x => .int .u8 x) (w0 := w) w.heap.size rfl _ _ 37 37 5 rfl Tryd.underlying37 info5s _ (List.replicate n (0 : Int)) bs A bs.length c (fun _ => True) rfl rfl HO.out (Kd.C_below HC.out HB.out) HB.out HB.out.size ?_); intro w2 hr hb hg; have HR := Aside0.mk hr; have HB2 := Aside0.mk hb; clear hr hb hg))
  go_ret
  refine ⟨_, rfl, ?_, HB2.out⟩
  rw [← sized_take]
  exact HR.out
end Go.Proofs.YtllfjmmdackgdaaDoor.PZ
end
/-! GTrunc -/
section
namespace Go.Proofs.YtllfjmmdackgdaaDoor.PZ
open Go.RowKit Go.Proofs.YtllfjmmdackgdaaDoorW.PrintWords Go.Proofs.YtllfjmmdackgdaaDoorW.PrintLast Go.Proofs.YtllfjmmdackgdaaDoorW.PrintMore Go.Proofs.YtllfjmmdackgdaaDoor.Ord TD
attribute [local go_sem ↓] Go.wp_at_zero Go.wp_at_succ
set_option maxRecDepth 100000
set_option linter.unusedVariables false
set_option linter.unusedSimpArgs false
theorem fileF_lt {l : List S58} {p : ByteArray} {k : Nat} (ho : Ok l) (h : fileF l p = .inl k) : k < l.length ∧ (nd l k).f0 ≠ 2 ∧ (splitA p).2 = 0 ∧ wk l (splitA p).1 0 = .inl k := by
  unfold fileF placeF at h
  by_cases h0 : (splitA p).2 = 0
  · rw [if_pos h0] at h
    cases hk : wk l (splitA p).1 0 with
    | inr n => rw [hk] at h; cases h
    | inl j =>
      rw [hk] at h
      dsimp only at h
      split at h
      · cases h
      · rename_i hn
        injection h with h
        subst h
        exact ⟨wk_lt ho.wf ho.wf.pos hk, hn, h0, rfl⟩
  · rw [if_neg h0] at h
    cases h
set_option maxHeartbeats 4000000 in
theorem trunc_walk (B b : Nat) (l : List S58) (x y z : Value) (p : ByteArray) (n : Int) (rs : List Value) (w : World) (hst : St B b l (x :: .string p :: y :: z :: .int .i64 n :: rs) w) (ho : Ok l) (hp : p.size < 10000000) (hd : ∀ k, (nd l k).f2.length < 1000000000) :
    Calls Tryd.prog 76 #[.pointer (some ⟨b, 0, none⟩)] w fun en w' => OpPost B b (x :: .string p :: y :: z :: .int .i64 n :: rs) w (truncF l p n) en w' := by
  obtain ⟨hBb, v, hw, hS⟩ := hst
  have hbl := blk_lt hw
  have hBw : B ≤ w.heap.size := by omega
  have hk5 : w.cell? ⟨b, 5, none⟩ = some (.int .i64 n) := (blk_cell hw 5).trans rfl
  obtain ⟨g, cap, rfl, hBg, hgl, -⟩ := Kd.S_form hS ho.wf.pos
  have HW := Aside0.mk hw
  have HS := Aside0.mk hS
  have HO := Aside0.mk ho
  clear hw hS ho
  unfold truncF
  cases hf : fileF l p with
  | inr e =>
    dsimp only
    have HF := Aside0.mk hf
    clear hf
    go_enter Tryd.func76, Tryd.ntmps76
    go_wp2_with (first | (go_at_call 96; (with_reducible refine (file_walk B b l _ p _ g cap _ hBb HW.out HS.out HO.out hp).mono ?_); rintro e w1 ⟨h1, hb⟩; rw [HF.out] at h1; subst h1; exact ⟨rfl, rfl, BW.mono hb hBw⟩))
  | inl k =>
    dsimp only
    have hkl := (fileF_lt HO.out hf).1
    have HF := Aside0.mk hf
    clear hf
    by_cases hn : 0 ≤ n ∧ n ≤ 46368
    · rw [if_pos hn]
      obtain ⟨hn0, hn1⟩ := hn
      obtain ⟨m, rfl⟩ : ∃ m : Nat, n = m := ⟨n.toNat, by omega⟩
      have hd0 : decide ((0 : Int) ≤ (m : Int)) = true := decide_eq_true hn0
      have hd1 : decide ((m : Int) ≤ 46368) = true := decide_eq_true hn1
      rw [Int.toNat_natCast]
      have hdk := hd k
      go_enter Tryd.func76, Tryd.ntmps76
      go_wp2_with (first
        | (go_at_call 96; (with_reducible refine (file_walk B b l _ p _ g cap _ hBb HW.out HS.out HO.out hp).mono ?_); rintro e w1 ⟨h1, hb⟩; rw [HF.out] at h1; subst h1; have hk5_ := (hb.cell (p := ⟨b, 5, none⟩) hbl).trans hk5; have HW1 := Aside0.mk (blk_below HW.out hb); have hS1 := Kd.S_below HS.out hb; have hbl1 := blk_lt HW1.out; have hB1 : B ≤ w1.heap.size := (by omega); obtain ⟨v2, v3, -, -, hx2, -, hR2, -, hfr, hgb, -, -, hput⟩ := S_node hbl1 hS1 k hkl hB1; obtain ⟨A2, c2, rfl, hl2, hC2⟩ := Kd.R_reads hR2; have hf2 := hfr 2; have HP := Aside0.mk hput; have HC := Aside0.mk hC2; have HB := Aside0.mk hb; have hgl1 := World.block_lt_of_cell? _ _ hx2; clear hb hS1 hR2 hfr hput hC2)
        | (go_at_call 81; (with_reducible refine (need_ok _ _).mono ?_); rintro e w9 ⟨rfl, h9⟩; subst w9))
      have hgb5 : g ≠ b := hgb
      go_region_with (first | (go_at_call 97; (with_reducible refine (sized_walk A2 c2 (nd l k).f2 m _ ?hC hl2 ?hm).mono ?_); (case hC => exact Kd.C_drew HC.out); (case hm => omega); rintro e w2 ⟨v4, rfl, hr, hb⟩; obtain ⟨A4, n4, c4, rfl⟩ := R_any hr; have HB2 := Aside0.mk (below_step (below_drew1 (Below.refl w1.heap.size w1)) hb); have HR := Aside0.mk (Kd.R_lower hr (show w1.heap.size ≤ w1.drew.heap.size from Nat.le_refl _)); have hy2 : w2.cell? ⟨g, k * 4 + 2, none⟩ = some (.slice A2 (nd l k).f2.length c2) := (HB2.out.cell (p := ⟨g, k * 4 + 2, none⟩) hgl1).trans hx2; have hyf : w2.frozen? ⟨g, k * 4 + 2, none⟩ = false := (HB2.out.frozen (p := ⟨g, k * 4 + 2, none⟩) hgl1).trans hf2; have hy5 : w2.cell? ⟨b, 5, none⟩ = some (.int .i64 (m : Int)) := (HB2.out.cell (p := ⟨b, 5, none⟩) hbl1).trans hk5_; have HKP : ∀ v, Aside0 ((w2.setCell ⟨g, k * 4 + 2, none⟩ v).cell? ⟨b, 5, none⟩ = some (.int .i64 (m : Int))) := fun v => ⟨(cell_far (W := w2) (p := ⟨g, k * 4 + 2, none⟩) (a := ⟨b, 5, none⟩) (Ne.symm hgb) v).trans hy5⟩; clear hr hb))
      all_goals go_wp2
      all_goals go_end0
      all_goals refine ⟨⟨rfl, hBb, _, blk_far (p := ⟨g, k * 4 + 2, none⟩) (blk_below HW1.out HB2.out) (Ne.symm hgb) _, HP.out w2 _ _ HB2.out HR.out⟩, ?_⟩
      all_goals exact (BW.trans (BW.mono HB.out hBw) (BW.mono HB2.out hB1)).setN hBg (Kd.S_below (Kd.S_below HS.out HB.out) HB2.out) (k * 4 + 2) _
    · rw [if_neg hn]
      by_cases h0 : 0 ≤ n
      · have hd0 : decide ((0 : Int) ≤ n) = true := decide_eq_true h0
        have hd1 : decide (n ≤ 46368) = false := decide_eq_false fun h => hn ⟨h0, h⟩
        clear hn h0
        go_enter Tryd.func76, Tryd.ntmps76
        go_wp2_with (first
          | (go_at_call 96; (with_reducible refine (file_walk B b l _ p _ g cap _ hBb HW.out HS.out HO.out hp).mono ?_); rintro e w1 ⟨h1, hb⟩; rw [HF.out] at h1; subst h1; have hk5_ := (hb.cell (p := ⟨b, 5, none⟩) hbl).trans hk5; have HW1 := Aside0.mk (blk_below HW.out hb); have hS1 := Kd.S_below HS.out hb; have hbl1 := blk_lt HW1.out; have hB1 : B ≤ w1.heap.size := (by omega); obtain ⟨v2, v3, -, -, hx2, -, hR2, -, hfr, hgb, -, -, hput⟩ := S_node hbl1 hS1 k hkl hB1; obtain ⟨A2, c2, rfl, hl2, hC2⟩ := Kd.R_reads hR2; have hf2 := hfr 2; have HP := Aside0.mk hput; have HC := Aside0.mk hC2; have HB := Aside0.mk hb; have hgl1 := World.block_lt_of_cell? _ _ hx2; clear hb hS1 hR2 hfr hput hC2)
          | (go_at_call 81; (with_reducible refine (need_bad 28 _).mono ?_); rintro e w9 ⟨rfl, h9⟩; subst w9; exact ⟨rfl, rfl, BW.mono HB.out hBw⟩))
      · have hd0 : decide ((0 : Int) ≤ n) = false := decide_eq_false h0
        clear hn h0
        go_enter Tryd.func76, Tryd.ntmps76
        go_wp2_with (first
          | (go_at_call 96; (with_reducible refine (file_walk B b l _ p _ g cap _ hBb HW.out HS.out HO.out hp).mono ?_); rintro e w1 ⟨h1, hb⟩; rw [HF.out] at h1; subst h1; have hk5_ := (hb.cell (p := ⟨b, 5, none⟩) hbl).trans hk5; have HW1 := Aside0.mk (blk_below HW.out hb); have hS1 := Kd.S_below HS.out hb; have hbl1 := blk_lt HW1.out; have hB1 : B ≤ w1.heap.size := (by omega); obtain ⟨v2, v3, -, -, hx2, -, hR2, -, hfr, hgb, -, -, hput⟩ := S_node hbl1 hS1 k hkl hB1; obtain ⟨A2, c2, rfl, hl2, hC2⟩ := Kd.R_reads hR2; have hf2 := hfr 2; have HP := Aside0.mk hput; have HC := Aside0.mk hC2; have HB := Aside0.mk hb; have hgl1 := World.block_lt_of_cell? _ _ hx2; clear hb hS1 hR2 hfr hput hC2)
          | (go_at_call 81; (with_reducible refine (need_bad 28 _).mono ?_); rintro e w9 ⟨rfl, h9⟩; subst w9; exact ⟨rfl, rfl, BW.mono HB.out hBw⟩))
end Go.Proofs.YtllfjmmdackgdaaDoor.PZ
end
