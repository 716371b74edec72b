import Derived.Test.YtllfjmmdackgdaaDoorM16
set_option linter.unusedVariables false
set_option linter.unusedSimpArgs false
/-! GRmdir -/
section
namespace Go.Proofs.YtllfjmmdackgdaaDoor.PZ
open Go.RowKit Go.Proofs.YtllfjmmdackgdaaDoorW.PrintWords Go.Proofs.YtllfjmmdackgdaaDoorW.PrintLast Go.Proofs.YtllfjmmdackgdaaDoorW.PrintMore Go.Proofs.YtllfjmmdackgdaaDoor.Ord TD
attribute [local go_sem ↓] Go.wp_at_zero Go.wp_at_succ
set_option maxRecDepth 100000
set_option linter.unusedVariables false
set_option linter.unusedSimpArgs false
set_option maxHeartbeats 4000000 in
theorem rmdir_walk (B b : Nat) (l : List S58) (x : Value) (p : ByteArray) (rs : List Value) (w : World) (hst : St B b l (x :: .string p :: rs) w) (ho : Ok l) (hp : p.size < 10000000) :
    Calls Tryd.prog 72 #[.pointer (some ⟨b, 0, none⟩)] w fun en w' => (match rmdirF l p with | .inl l' => en = .returned (.tuple #[]) ∧ St B b l' (x :: .string p :: rs) w' | .inr n => en = .panicked (wrong n)) ∧ BW B w w' := by
  have hbl : b < w.heap.size := by obtain ⟨_, v, h, _⟩ := hst; exact blk_lt h
  have hBb : B ≤ b := hst.1
  have hBw : B ≤ w.heap.size := by omega
  have hk2 : w.cell? ⟨b, 2, none⟩ = some (.string p) := by obtain ⟨_, v, h, _⟩ := hst; exact (blk_cell h 2).trans rfl
  have HST := Aside0.mk hst
  have HO := Aside0.mk ho
  have HB := Aside0.mk (Below.refl w.heap.size w)
  clear hst ho
  unfold rmdirF placeF
  by_cases h0 : (splitA p).2 = 0
  · rw [if_pos h0]
    cases hk : wk l (splitA p).1 0 with
    | inr n =>
      dsimp only
      have HK := Aside0.mk hk
      clear hk
      go_enter Tryd.func72, Tryd.ntmps72
      go_wp2_with (first
        | (go_at_call 56; (with_reducible refine (names_walk p _ hp).mono ?_); rintro e w1 ⟨h1, hb⟩; rw [if_pos h0] at h1; obtain ⟨An, cn, rfl, hcn, hCn⟩ := h1; have HCN := Aside0.mk hCn; clear hCn; have n0_ := Aside0.mk (below_step (by repeat (first | exact HB.out | with_reducible apply below_drew1 | with_reducible apply below_alloc | with_reducible apply pw_below_drewN)) hb); clear HB hb; have HB := n0_; clear n0_; have hk2_ := (HB.out.cell (p := ⟨b, 2, none⟩) hbl).trans hk2)
        | (go_at_call 55; (with_reducible refine (place_walk B b l _ An cn p _ (St.below HST.out (by repeat (first | exact HB.out | with_reducible apply below_drew1 | with_reducible apply below_alloc | with_reducible apply pw_below_drewN))) HO.out HCN.out hcn).mono ?_); rintro e w2 ⟨h1, hb⟩; rw [HK.out] at h1; subst h1; have n0_ := Aside0.mk (below_step (by repeat (first | exact HB.out | with_reducible apply below_drew1 | with_reducible apply below_alloc | with_reducible apply pw_below_drewN)) hb); clear HB hb; have HB := n0_; clear n0_; have hk2_ := (HB.out.cell (p := ⟨b, 2, none⟩) hbl).trans hk2; exact ⟨rfl, rfl, BW.mono (by repeat (first | exact HB.out | with_reducible apply below_drew1 | with_reducible apply below_alloc | with_reducible apply pw_below_drewN)) hBw⟩))
    | inl k =>
      dsimp only
      have hkl : k < l.length := wk_lt HO.out.wf HO.out.wf.pos hk
      have HK := Aside0.mk hk
      clear hk
      cases hd : ((nd l k).f0 == 2) with
      | false =>
        rw [if_neg (beq_eq_false_iff_ne.1 hd)]
        go_enter Tryd.func72, Tryd.ntmps72
        go_wp2_with (first
          | (go_at_call 56; (with_reducible refine (names_walk p _ hp).mono ?_); rintro e w1 ⟨h1, hb⟩; rw [if_pos h0] at h1; obtain ⟨An, cn, rfl, hcn, hCn⟩ := h1; have HCN := Aside0.mk hCn; clear hCn; have n0_ := Aside0.mk (below_step (by repeat (first | exact HB.out | with_reducible apply below_drew1 | with_reducible apply below_alloc | with_reducible apply pw_below_drewN)) hb); clear HB hb; have HB := n0_; clear n0_; have hk2_ := (HB.out.cell (p := ⟨b, 2, none⟩) hbl).trans hk2)
          | (go_at_call 55; (with_reducible refine (place_walk B b l _ An cn p _ (St.below HST.out (by repeat (first | exact HB.out | with_reducible apply below_drew1 | with_reducible apply below_alloc | with_reducible apply pw_below_drewN))) HO.out HCN.out hcn).mono ?_); rintro e w2 ⟨h1, hb⟩; rw [HK.out] at h1; subst h1; have n0_ := Aside0.mk (below_step (by repeat (first | exact HB.out | with_reducible apply below_drew1 | with_reducible apply below_alloc | with_reducible apply pw_below_drewN)) hb); clear HB hb; have HB := n0_; clear n0_; have hk2_ := (HB.out.cell (p := ⟨b, 2, none⟩) hbl).trans hk2)
          | (go_at_call 82; (with_reducible refine (mdir_walk B b l _ k _ hkl (St.below HST.out (by repeat (first | exact HB.out | with_reducible apply below_drew1 | with_reducible apply below_alloc | with_reducible apply pw_below_drewN))) hd).mono ?_); rintro e w9 ⟨rfl, h9⟩; subst w9)
          | (go_at_call 81; (with_reducible refine (need_bad 22 _).mono ?_); rintro e w9 ⟨rfl, h9⟩; subst w9; exact ⟨rfl, rfl, BW.mono (by repeat (first | exact HB.out | with_reducible apply below_drew1 | with_reducible apply below_alloc | with_reducible apply pw_below_drewN)) hBw⟩))
      | true =>
        rw [if_pos (beq_iff_eq.1 hd)]
        obtain ⟨hBb', v, hw, hS⟩ := HST.out
        obtain ⟨A, cap, rfl, hcap, hC⟩ := Kd.S_reads hS
        have HW := Aside0.mk hw
        have HC := Aside0.mk hC
        clear hw hS hC hBb'
        have hk0 : (0 : Int) ≤ (k : Int) := by omega
        have hk1 : (k : Int) < (l.length : Int) := by omega
        by_cases hz : k = 0 ∨ (nd l k).f3 ≠ []
        · rw [if_pos hz]
          by_cases hz0 : k = 0
          · have hkz : ((k : Int) != 0) = false := by rw [hz0]; rfl
            clear hz0 hz
            go_enter Tryd.func72, Tryd.ntmps72
            go_wp2_with (first
              | (go_at_call 56; (with_reducible refine (names_walk p _ hp).mono ?_); rintro e w1 ⟨h1, hb⟩; rw [if_pos h0] at h1; obtain ⟨An, cn, rfl, hcn, hCn⟩ := h1; have HCN := Aside0.mk hCn; clear hCn; have n0_ := Aside0.mk (below_step (by repeat (first | exact HB.out | with_reducible apply below_drew1 | with_reducible apply below_alloc | with_reducible apply pw_below_drewN)) hb); clear HB hb; have HB := n0_; clear n0_; have hk2_ := (HB.out.cell (p := ⟨b, 2, none⟩) hbl).trans hk2)
              | (go_at_call 55; (with_reducible refine (place_walk B b l _ An cn p _ (St.below HST.out (by repeat (first | exact HB.out | with_reducible apply below_drew1 | with_reducible apply below_alloc | with_reducible apply pw_below_drewN))) HO.out HCN.out hcn).mono ?_); rintro e w2 ⟨h1, hb⟩; rw [HK.out] at h1; subst h1; have n0_ := Aside0.mk (below_step (by repeat (first | exact HB.out | with_reducible apply below_drew1 | with_reducible apply below_alloc | with_reducible apply pw_below_drewN)) hb); clear HB hb; have HB := n0_; clear n0_; have hk2_ := (HB.out.cell (p := ⟨b, 2, none⟩) hbl).trans hk2; have hw2 := blk_below HW.out HB.out; have hC2 := Kd.C_below HC.out HB.out; obtain ⟨ad, A2, c2, A3, c3, hA, -, -, -, hx3, -, -, -, -⟩ := at_T58 hC2 (k : Int) (by omega) (by omega); subst hA; rw [Int.toNat_natCast] at hx3; have hy0 := (blk_cell hw2 0).trans (show _ = some (Value.slice (some ad) l.length cap) from rfl); clear hw2 hC2)
              | (go_at_call 82; (with_reducible refine (mdir_walk B b l _ k _ hkl (St.below HST.out (by repeat (first | exact HB.out | with_reducible apply below_drew1 | with_reducible apply below_alloc | with_reducible apply pw_below_drewN))) hd).mono ?_); rintro e w9 ⟨rfl, h9⟩; subst w9)
              | (go_at_call 81; (with_reducible refine (need_ok _ _).mono ?_); rintro e w9 ⟨rfl, h9⟩; subst w9)
              | (go_at_call 81; (with_reducible refine (need_bad 25 _).mono ?_); rintro e w9 ⟨rfl, h9⟩; subst w9; exact ⟨rfl, rfl, BW.mono (by repeat (first | exact HB.out | with_reducible apply below_drew1 | with_reducible apply below_alloc | with_reducible apply pw_below_drewN)) hBw⟩))
          · have hkz : ((k : Int) != 0) = true := bne_iff_ne.2 (by omega)
            have hne : (((rd_T58 l (k : Int)).f3.length : Int) == 0) = false := beq_eq_false_iff_ne.2 (fun h => hz.elim hz0 (fun h2 => h2 (List.length_eq_zero_iff.1 (Int.ofNat.inj h))))
            go_enter Tryd.func72, Tryd.ntmps72
            go_wp2_with (first
              | (go_at_call 56; (with_reducible refine (names_walk p _ hp).mono ?_); rintro e w1 ⟨h1, hb⟩; rw [if_pos h0] at h1; obtain ⟨An, cn, rfl, hcn, hCn⟩ := h1; have HCN := Aside0.mk hCn; clear hCn; have n0_ := Aside0.mk (below_step (by repeat (first | exact HB.out | with_reducible apply below_drew1 | with_reducible apply below_alloc | with_reducible apply pw_below_drewN)) hb); clear HB hb; have HB := n0_; clear n0_; have hk2_ := (HB.out.cell (p := ⟨b, 2, none⟩) hbl).trans hk2)
              | (go_at_call 55; (with_reducible refine (place_walk B b l _ An cn p _ (St.below HST.out (by repeat (first | exact HB.out | with_reducible apply below_drew1 | with_reducible apply below_alloc | with_reducible apply pw_below_drewN))) HO.out HCN.out hcn).mono ?_); rintro e w2 ⟨h1, hb⟩; rw [HK.out] at h1; subst h1; have n0_ := Aside0.mk (below_step (by repeat (first | exact HB.out | with_reducible apply below_drew1 | with_reducible apply below_alloc | with_reducible apply pw_below_drewN)) hb); clear HB hb; have HB := n0_; clear n0_; have hk2_ := (HB.out.cell (p := ⟨b, 2, none⟩) hbl).trans hk2; have hw2 := blk_below HW.out HB.out; have hC2 := Kd.C_below HC.out HB.out; obtain ⟨ad, A2, c2, A3, c3, hA, -, -, -, hx3, -, -, -, -⟩ := at_T58 hC2 (k : Int) (by omega) (by omega); subst hA; rw [Int.toNat_natCast] at hx3; have hy0 := (blk_cell hw2 0).trans (show _ = some (Value.slice (some ad) l.length cap) from rfl); clear hw2 hC2)
              | (go_at_call 82; (with_reducible refine (mdir_walk B b l _ k _ hkl (St.below HST.out (by repeat (first | exact HB.out | with_reducible apply below_drew1 | with_reducible apply below_alloc | with_reducible apply pw_below_drewN))) hd).mono ?_); rintro e w9 ⟨rfl, h9⟩; subst w9)
              | (go_at_call 81; (with_reducible refine (need_ok _ _).mono ?_); rintro e w9 ⟨rfl, h9⟩; subst w9)
              | (go_at_call 81; (with_reducible refine (need_bad 25 _).mono ?_); rintro e w9 ⟨rfl, h9⟩; subst w9; exact ⟨rfl, rfl, BW.mono (by repeat (first | exact HB.out | with_reducible apply below_drew1 | with_reducible apply below_alloc | with_reducible apply pw_below_drewN)) hBw⟩))
        · rw [if_neg hz]
          have hz0 : ¬ k = 0 := fun h => hz (.inl h)
          have hkz : ((k : Int) != 0) = true := bne_iff_ne.2 (by omega)
          have hze : (nd l k).f3 = [] := Classical.byContradiction fun h => hz (.inr h)
          have hne : (((rd_T58 l (k : Int)).f3.length : Int) == 0) = true := beq_iff_eq.2 (by show ((nd l k).f3.length : Int) = 0; rw [hze]; rfl)
          have hr : p ≠ rootP := fun h => by
            have h2 := HK.out
            rw [h, splitA_root] at h2
            injection h2 with h2
            exact hz0 h2.symm
          cases hs : spotF l p with
          | inr n =>
            dsimp only
            have HS := Aside0.mk hs
            clear hs
            go_enter Tryd.func72, Tryd.ntmps72
            go_wp2_with (first
              | (go_at_call 56; (with_reducible refine (names_walk p _ hp).mono ?_); rintro e w1 ⟨h1, hb⟩; rw [if_pos h0] at h1; obtain ⟨An, cn, rfl, hcn, hCn⟩ := h1; have HCN := Aside0.mk hCn; clear hCn; have n0_ := Aside0.mk (below_step (by repeat (first | exact HB.out | with_reducible apply below_drew1 | with_reducible apply below_alloc | with_reducible apply pw_below_drewN)) hb); clear HB hb; have HB := n0_; clear n0_; have hk2_ := (HB.out.cell (p := ⟨b, 2, none⟩) hbl).trans hk2)
              | (go_at_call 55; (with_reducible refine (place_walk B b l _ An cn p _ (St.below HST.out (by repeat (first | exact HB.out | with_reducible apply below_drew1 | with_reducible apply below_alloc | with_reducible apply pw_below_drewN))) HO.out HCN.out hcn).mono ?_); rintro e w2 ⟨h1, hb⟩; rw [HK.out] at h1; subst h1; have n0_ := Aside0.mk (below_step (by repeat (first | exact HB.out | with_reducible apply below_drew1 | with_reducible apply below_alloc | with_reducible apply pw_below_drewN)) hb); clear HB hb; have HB := n0_; clear n0_; have hk2_ := (HB.out.cell (p := ⟨b, 2, none⟩) hbl).trans hk2; have hw2 := blk_below HW.out HB.out; have hC2 := Kd.C_below HC.out HB.out; obtain ⟨ad, A2, c2, A3, c3, hA, -, -, -, hx3, -, -, -, -⟩ := at_T58 hC2 (k : Int) (by omega) (by omega); subst hA; rw [Int.toNat_natCast] at hx3; have hy0 := (blk_cell hw2 0).trans (show _ = some (Value.slice (some ad) l.length cap) from rfl); clear hw2 hC2)
              | (go_at_call 82; (with_reducible refine (mdir_walk B b l _ k _ hkl (St.below HST.out (by repeat (first | exact HB.out | with_reducible apply below_drew1 | with_reducible apply below_alloc | with_reducible apply pw_below_drewN))) hd).mono ?_); rintro e w9 ⟨rfl, h9⟩; subst w9)
              | (go_at_call 81; (with_reducible refine (need_ok _ _).mono ?_); rintro e w9 ⟨rfl, h9⟩; subst w9)
              | (go_at_call 92; (with_reducible refine (to_walk B b l _ p _ (St.below HST.out (by repeat (first | exact HB.out | with_reducible apply below_drew1 | with_reducible apply below_alloc | with_reducible apply pw_below_drewN))) HO.out hp hr).mono ?_); rintro e w3 ⟨h1, hb⟩; rw [HS.out] at h1; subst h1; have n0_ := Aside0.mk (below_step (by repeat (first | exact HB.out | with_reducible apply below_drew1 | with_reducible apply below_alloc | with_reducible apply pw_below_drewN)) hb); clear HB hb; have HB := n0_; clear n0_; have hk2_ := (HB.out.cell (p := ⟨b, 2, none⟩) hbl).trans hk2; exact ⟨rfl, rfl, BW.mono (by repeat (first | exact HB.out | with_reducible apply below_drew1 | with_reducible apply below_alloc | with_reducible apply pw_below_drewN)) hBw⟩))
          | inl s =>
            obtain ⟨d, nm, o⟩ := s
            dsimp only
            have HS := Aside0.mk hs
            have hdl : d < l.length := (spotF_inl hs).choose_spec.2.2.2.2.1
            clear hs
            go_enter Tryd.func72, Tryd.ntmps72
            go_wp2_with (first
              | (go_at_call 56; (with_reducible refine (names_walk p _ hp).mono ?_); rintro e w1 ⟨h1, hb⟩; rw [if_pos h0] at h1; obtain ⟨An, cn, rfl, hcn, hCn⟩ := h1; have HCN := Aside0.mk hCn; clear hCn; have n0_ := Aside0.mk (below_step (by repeat (first | exact HB.out | with_reducible apply below_drew1 | with_reducible apply below_alloc | with_reducible apply pw_below_drewN)) hb); clear HB hb; have HB := n0_; clear n0_; have hk2_ := (HB.out.cell (p := ⟨b, 2, none⟩) hbl).trans hk2)
              | (go_at_call 55; (with_reducible refine (place_walk B b l _ An cn p _ (St.below HST.out (by repeat (first | exact HB.out | with_reducible apply below_drew1 | with_reducible apply below_alloc | with_reducible apply pw_below_drewN))) HO.out HCN.out hcn).mono ?_); rintro e w2 ⟨h1, hb⟩; rw [HK.out] at h1; subst h1; have n0_ := Aside0.mk (below_step (by repeat (first | exact HB.out | with_reducible apply below_drew1 | with_reducible apply below_alloc | with_reducible apply pw_below_drewN)) hb); clear HB hb; have HB := n0_; clear n0_; have hk2_ := (HB.out.cell (p := ⟨b, 2, none⟩) hbl).trans hk2; have hw2 := blk_below HW.out HB.out; have hC2 := Kd.C_below HC.out HB.out; obtain ⟨ad, A2, c2, A3, c3, hA, -, -, -, hx3, -, -, -, -⟩ := at_T58 hC2 (k : Int) (by omega) (by omega); subst hA; rw [Int.toNat_natCast] at hx3; have hy0 := (blk_cell hw2 0).trans (show _ = some (Value.slice (some ad) l.length cap) from rfl); clear hw2 hC2)
              | (go_at_call 82; (with_reducible refine (mdir_walk B b l _ k _ hkl (St.below HST.out (by repeat (first | exact HB.out | with_reducible apply below_drew1 | with_reducible apply below_alloc | with_reducible apply pw_below_drewN))) hd).mono ?_); rintro e w9 ⟨rfl, h9⟩; subst w9)
              | (go_at_call 81; (with_reducible refine (need_ok _ _).mono ?_); rintro e w9 ⟨rfl, h9⟩; subst w9)
              | (go_at_call 92; (with_reducible refine (to_walk B b l _ p _ (St.below HST.out (by repeat (first | exact HB.out | with_reducible apply below_drew1 | with_reducible apply below_alloc | with_reducible apply pw_below_drewN))) HO.out hp hr).mono ?_); rintro e w3 ⟨h1, hb⟩; rw [HS.out] at h1; subst h1; have n0_ := Aside0.mk (below_step (by repeat (first | exact HB.out | with_reducible apply below_drew1 | with_reducible apply below_alloc | with_reducible apply pw_below_drewN)) hb); clear HB hb; have HB := n0_; clear n0_; have hk2_ := (HB.out.cell (p := ⟨b, 2, none⟩) hbl).trans hk2; unfold spotV)
              | (go_at_call 95; (with_reducible refine (mcut_walk B b l _ d nm (nodeV o) _ hdl (St.below HST.out (by repeat (first | exact HB.out | with_reducible apply below_drew1 | with_reducible apply below_alloc | with_reducible apply pw_below_drewN))) HO.out).mono ?_); rintro e w4 ⟨rfl, hst4, hb4⟩; have HST4 := Aside0.mk hst4; have HB4 := Aside0.mk (BW.trans (BW.mono (by repeat (first | exact HB.out | with_reducible apply below_drew1 | with_reducible apply below_alloc | with_reducible apply pw_below_drewN)) hBw) hb4); clear hst4 hb4))
            go_end0
            exact ⟨⟨rfl, HST4.out⟩, HB4.out⟩
  · rw [if_neg h0]
    dsimp only
    go_enter Tryd.func72, Tryd.ntmps72
    go_wp2_with (first
      | (go_at_call 56; (with_reducible refine (names_walk p _ hp).mono ?_); rintro e w1 ⟨h1, hb⟩; rw [if_neg h0] at h1; subst h1; have n0_ := Aside0.mk (below_step (by repeat (first | exact HB.out | with_reducible apply below_drew1 | with_reducible apply below_alloc | with_reducible apply pw_below_drewN)) hb); clear HB hb; have HB := n0_; clear n0_; have hk2_ := (HB.out.cell (p := ⟨b, 2, none⟩) hbl).trans hk2; exact ⟨rfl, rfl, BW.mono (by repeat (first | exact HB.out | with_reducible apply below_drew1 | with_reducible apply below_alloc | with_reducible apply pw_below_drewN)) hBw⟩))
end Go.Proofs.YtllfjmmdackgdaaDoor.PZ
end
