import Derived.Test.YtllfjmmdackgdaaDoorM19
import Derived.Deep.RegionHeld3
import Derived.Deep.RegionHeld2
import Derived.Deep.Cut
import Derived.Deep.QuietTactic
import Derived.BigQuiet
set_option linter.unusedVariables false
set_option linter.unusedSimpArgs false
/-! GRenameC -/
section
namespace Go.Proofs.YtllfjmmdackgdaaDoor.PZ
open Go.RowKit Go.Proofs.YtllfjmmdackgdaaDoorW.PrintWords Go.Proofs.YtllfjmmdackgdaaDoorW.PrintLast Go.Proofs.YtllfjmmdackgdaaDoorW.PrintMore Go.Proofs.YtllfjmmdackgdaaDoor.Ord TD
attribute [local go_sem ↓] Go.wp_at_zero Go.wp_at_succ
set_option maxRecDepth 100000
set_option linter.unusedVariables false
set_option linter.unusedSimpArgs false
set_option maxHeartbeats 40000000 in
theorem rename_c (B b : Nat) (l : List S58) (x : Value) (p q : ByteArray) (rs : List Value) (w : World) (hst : St B b l (x :: .string p :: .string q :: rs) w) (ho : Ok l) (hp : p.size < 10000000) (hq : q.size < 10000000) (X : List S58 ⊕ Int) (h0 : (splitA p).2 = 0) (hzq : (splitA q).2 = 0) (hr : p ≠ rootP) (hrq : q ≠ rootP) (k : Nat) (hk : wk l (splitA p).1 0 = .inl k) (hC : ¬ ((nd l k).f0 = 2 ∧ q ≠ p ∧ withinA q p = true)) (a c : Nat × ByteArray × Option Nat) (hsa : spotF l p = .inl a) (hsb : spotF l q = .inl c) (hX : (match spotF l p with | .inr n => .inr n | .inl a => match spotF l q with | .inr n => .inr n | .inl c => moveF l k a c) = X) :
    Calls Tryd.prog 73 #[.pointer (some ⟨b, 0, none⟩)] w fun en w' => OpPost B b (x :: .string p :: .string q :: rs) w X en w' := by
  have Hhsa_ := Aside0.mk hsa
  clear hsa
  have Hhsb_ := Aside0.mk hsb
  clear hsb
  have hbl : b < w.heap.size := by obtain ⟨_, v, h, _⟩ := hst; exact blk_lt h
  have hBb : B ≤ b := hst.1
  have hBw : B ≤ w.heap.size := by omega
  have hk2 : w.cell? ⟨b, 2, none⟩ = some (.string p) := by obtain ⟨_, v, h, _⟩ := hst; exact (blk_cell h 2).trans rfl
  have hk3 : w.cell? ⟨b, 3, none⟩ = some (.string q) := by obtain ⟨_, v, h, _⟩ := hst; exact (blk_cell h 3).trans rfl
  obtain ⟨_, v, hw, hS⟩ := id hst
  obtain ⟨g, cap, rfl, hBg, hgl, -⟩ := Kd.S_form hS ho.wf.pos
  have HW := Aside0.mk hw
  have HS := Aside0.mk hS
  have hk0 : w.cell? ⟨b, 0, none⟩ = some (.slice (some ⟨g, 0, none⟩) l.length cap) := (blk_cell hw 0).trans rfl
  clear hw hS
  have HST := Aside0.mk hst
  have HO := Aside0.mk ho
  have HB := Aside0.mk (Below.refl w.heap.size w)
  clear hst ho
  have hpr : (p.toList == [47]) = false := beq_eq_false_iff_ne.2 fun h => hr (bytes_ext (h.trans (beq_iff_eq.1 root_eq).symm))
  have hqr : (q.toList == [47]) = false := beq_eq_false_iff_ne.2 fun h => hrq (bytes_ext (h.trans (beq_iff_eq.1 root_eq).symm))
  have hkl : k < l.length := wk_lt HO.out.wf HO.out.wf.pos hk
  have HK := Aside0.mk hk
  have HX := Aside0.mk hX
  clear hk hX
  have HCC := Aside0.mk hC
  clear hC
  go_enter Tryd.func73, Tryd.ntmps73
  go_wp2_with (first
    | (go_at_call 56; (with_reducible refine (names_walk p _ hp).mono ?_); rintro e w1 ⟨h1, hb⟩; rw [if_pos h0] at h1; obtain ⟨An, cn, rfl, hcn, hCn⟩ := h1; have HCN := Aside0.mk hCn; clear hCn; have n0_ := Aside0.mk (below_step (by repeat (first | exact HB.out | with_reducible apply below_drew1 | with_reducible apply below_alloc | with_reducible apply pw_below_drewN)) hb); clear HB hb; have HB := n0_; clear n0_; have hk2_ := (HB.out.cell (p := ⟨b, 2, none⟩) hbl).trans hk2; have hk3_ := (HB.out.cell (p := ⟨b, 3, none⟩) hbl).trans hk3)
    | (go_at_call 56; (with_reducible refine (names_walk q _ hq).mono ?_); rintro e w1q ⟨h1, hb⟩; rw [if_pos hzq] at h1; obtain ⟨Anq, cnq, rfl, hcnq, hCn⟩ := h1; have HCNq := Aside0.mk hCn; clear hCn; have HCN2 := Aside0.mk (Kd.C_below HCN.out hb); have n0_ := Aside0.mk (below_step (by repeat (first | exact HB.out | with_reducible apply below_drew1 | with_reducible apply below_alloc | with_reducible apply pw_below_drewN)) hb); clear HB hb; have HB := n0_; clear n0_; have hk2_ := (HB.out.cell (p := ⟨b, 2, none⟩) hbl).trans hk2; have hk3_ := (HB.out.cell (p := ⟨b, 3, none⟩) hbl).trans hk3)
    | (go_at_call 81; (with_reducible refine (need_ok _ _).mono ?_); rintro e w9 ⟨rfl, h9⟩; subst w9)
    | (go_at_call 55; (with_reducible refine (place_walk B b l _ An cn p _ (St.below HST.out (by repeat (first | exact HB.out | with_reducible apply below_drew1 | with_reducible apply below_alloc | with_reducible apply pw_below_drewN))) HO.out HCN2.out hcn).mono ?_); rintro e w2 ⟨h1, hb⟩; rw [HK.out] at h1; subst h1; have n0_ := Aside0.mk (below_step (by repeat (first | exact HB.out | with_reducible apply below_drew1 | with_reducible apply below_alloc | with_reducible apply pw_below_drewN)) hb); clear HB hb; have HB := n0_; clear n0_; have hk2_ := (HB.out.cell (p := ⟨b, 2, none⟩) hbl).trans hk2; have hk3_ := (HB.out.cell (p := ⟨b, 3, none⟩) hbl).trans hk3))
  go_cut [] from 6 (fun w' => Below w.heap.size w w')
  case first =>
    cases hd : ((nd l k).f0 == 2) with
    | false =>
      go_quiet (first | (go_at_call 82; refine Calls.quiet_of_same (mdir_walk B b l _ k _ hkl (St.below HST.out (by repeat (first | exact HB.out | with_reducible apply below_drew1 | with_reducible apply below_alloc | with_reducible apply pw_below_drewN))) hd)) | (go_at_call 81; refine Calls.quiet_of_same (need_ok _ _)))
      go_wp2
      go_meet
      case rel => exact (by repeat (first | exact HB.out | with_reducible apply below_drew1 | with_reducible apply below_alloc | with_reducible apply pw_below_drewN))
    | true =>
      by_cases hqp : q = p
      · have hqpb : (q.toList == p.toList) = true := by rw [hqp]; exact beq_self_eq_true _
        clear hqp
        go_quiet (first | (go_at_call 82; refine Calls.quiet_of_same (mdir_walk B b l _ k _ hkl (St.below HST.out (by repeat (first | exact HB.out | with_reducible apply below_drew1 | with_reducible apply below_alloc | with_reducible apply pw_below_drewN))) hd)) | (go_at_call 81; refine Calls.quiet_of_same (need_ok _ _)))
        go_wp2
        go_meet
        case rel => exact (by repeat (first | exact HB.out | with_reducible apply below_drew1 | with_reducible apply below_alloc | with_reducible apply pw_below_drewN))
      · have hqpb : (q.toList == p.toList) = false := beq_eq_false_iff_ne.2 fun h => hqp (bytes_ext h)
        cases hwi : withinA q p with
        | true => exact absurd ⟨beq_iff_eq.1 hd, hqp, hwi⟩ HCC.out
        | false =>
          clear hqp
          go_region_held3 (fun w' => w'.cell? ⟨b, 2, none⟩ = some (.string p) ∧ w'.cell? ⟨b, 3, none⟩ = some (.string q)) (go_keep) (first | (go_at_call 82; (with_reducible refine (mdir_walk B b l _ k _ hkl (St.below HST.out (by repeat (first | exact HB.out | with_reducible apply below_drew1 | with_reducible apply below_alloc | with_reducible apply pw_below_drewN))) hd).mono ?_); rintro e w9 ⟨rfl, h9⟩; subst w9) | (go_at_call 24; (with_reducible refine (within_walk q p _ hq hp hwi).mono ?_); rintro e w7 ⟨rfl, hb⟩; have n0_ := Aside0.mk (below_step (by repeat (first | exact HB.out | with_reducible apply below_drew1 | with_reducible apply below_alloc | with_reducible apply pw_below_drewN)) hb); clear HB hb; have HB := n0_; clear n0_; have hk2_ := (HB.out.cell (p := ⟨b, 2, none⟩) hbl).trans hk2; have hk3_ := (HB.out.cell (p := ⟨b, 3, none⟩) hbl).trans hk3) | (go_at_call 81; (with_reducible refine (need_ok _ _).mono ?_); rintro e w9 ⟨rfl, h9⟩; subst w9))
          all_goals go_wp2
          all_goals go_meet
          all_goals exact (by repeat (first | exact HB.out | with_reducible apply below_drew1 | with_reducible apply below_alloc | with_reducible apply pw_below_drewN))
  case rest =>
    clear HB
    have HB := Aside0.mk hcut
    have hk2_ := (HB.out.cell (p := ⟨b, 2, none⟩) hbl).trans hk2
    have hk3_ := (HB.out.cell (p := ⟨b, 3, none⟩) hbl).trans hk3
    clear hcut
    have hX := HX.out
    clear HX
    have hsa := Hhsa_.out
    clear Hhsa_
    have hsb := Hhsb_.out
    clear Hhsb_
    obtain ⟨d1, n1, o1⟩ := a
    have HSA := Aside0.mk hsa
    have hd1 : d1 < l.length := (spotF_inl hsa).choose_spec.2.2.2.2.1
    rw [hsa] at hX
    dsimp only at hX
    clear hsa
    obtain ⟨d2, n2, o2⟩ := c
    have HSB := Aside0.mk hsb
    have hd2 : d2 < l.length := (spotF_inl hsb).choose_spec.2.2.2.2.1
    rw [hsb] at hX
    dsimp only at hX
    clear hsb
    go_wp2
    go_cut [4, 5] from 6 (fun s4 s5 w' => ∃ ga gb, s4 = .pointer (some ⟨ga, 0, none⟩) ∧ s5 = .pointer (some ⟨gb, 0, none⟩) ∧ w'.cell? ⟨ga, 0, none⟩ = some (.int .i64 (d1 : Int)) ∧ w'.cell? ⟨ga, 1, none⟩ = some (.string n1) ∧ w'.cell? ⟨ga, 2, none⟩ = some (.int .i64 (nodeV o1)) ∧ w'.cell? ⟨gb, 0, none⟩ = some (.int .i64 (d2 : Int)) ∧ w'.cell? ⟨gb, 1, none⟩ = some (.string n2) ∧ w'.cell? ⟨gb, 2, none⟩ = some (.int .i64 (nodeV o2)) ∧ w.heap.size ≤ gb ∧ Below w.heap.size w w')
    case first =>
      have hszc := HB.out.size
      have hbnc := Nat.ne_of_gt (Nat.lt_of_lt_of_le hbl HB.out.size)
      have hbmc := Nat.ne_of_gt (Nat.lt_succ_of_lt (Nat.lt_of_lt_of_le hbl HB.out.size))
      go_region_held2 (fun w' => w'.cell? ⟨b, 2, none⟩ = some (.string p) ∧ w'.cell? ⟨b, 3, none⟩ = some (.string q)) (go_keep) (first | (go_at_call 92; (with_reducible refine (to_walk B b l _ p _ (St.below HST.out (by repeat (first | exact HB.out | with_reducible apply below_drew1 | with_reducible apply below_alloc | with_reducible apply pw_below_drewN))) HO.out hp hr).mono ?_); rintro e w3 ⟨h1, hb⟩; rw [HSA.out] at h1; subst h1; (try have qa := blk_below (blk_drew (blk_new wc _)) hb); (try have qa := blk_below (blk_drew (blk_alloc (blk_new wc _) _)) hb); (try have qb := blk_below (blk_drew (blk_new2 wc _ _)) hb); (try (have hza := blk_lt qa; have hzan := Nat.ne_of_lt hza)); (try (have hzb := blk_lt qb; have hzbn := Nat.ne_of_lt hzb)); (try (have qa0 : w3.cell? ⟨wc.heap.size, 0, none⟩ = some (.int .i64 0) := (blk_cell qa 0).trans rfl; have qaf0 : w3.frozen? ⟨wc.heap.size, 0, none⟩ = false := blk_frozen qa 0; have qa1 : w3.cell? ⟨wc.heap.size, 1, none⟩ = some (.string ⟨#[]⟩) := (blk_cell qa 1).trans rfl; have qaf1 : w3.frozen? ⟨wc.heap.size, 1, none⟩ = false := blk_frozen qa 1; have qa2 : w3.cell? ⟨wc.heap.size, 2, none⟩ = some (.int .i64 0) := (blk_cell qa 2).trans rfl; have qaf2 : w3.frozen? ⟨wc.heap.size, 2, none⟩ = false := blk_frozen qa 2)); (try (have qb0 : w3.cell? ⟨wc.heap.size + 1, 0, none⟩ = some (.int .i64 0) := (blk_cell qb 0).trans rfl; have qbf0 : w3.frozen? ⟨wc.heap.size + 1, 0, none⟩ = false := blk_frozen qb 0; have qb1 : w3.cell? ⟨wc.heap.size + 1, 1, none⟩ = some (.string ⟨#[]⟩) := (blk_cell qb 1).trans rfl; have qbf1 : w3.frozen? ⟨wc.heap.size + 1, 1, none⟩ = false := blk_frozen qb 1; have qb2 : w3.cell? ⟨wc.heap.size + 1, 2, none⟩ = some (.int .i64 0) := (blk_cell qb 2).trans rfl; have qbf2 : w3.frozen? ⟨wc.heap.size + 1, 2, none⟩ = false := blk_frozen qb 2)); have hs3 := hb.size; (try simp at hs3); have n0_ := Aside0.mk (below_step (by repeat (first | exact HB.out | with_reducible apply below_drew1 | with_reducible apply below_alloc | with_reducible apply pw_below_drewN)) hb); clear HB hb; have HB := n0_; clear n0_; have hk2_ := (HB.out.cell (p := ⟨b, 2, none⟩) hbl).trans hk2; have hk3_ := (HB.out.cell (p := ⟨b, 3, none⟩) hbl).trans hk3; have hbn3 := Nat.ne_of_gt (Nat.lt_of_lt_of_le hbl HB.out.size); have hbm3 := Nat.ne_of_gt (Nat.lt_succ_of_lt (Nat.lt_of_lt_of_le hbl HB.out.size)); have hsz_ := HB.out.size; unfold spotV; dsimp only) | (go_at_call 92; (with_reducible refine (to_walk B b l _ q _ (St.below HST.out (by repeat (first | exact HB.out | with_reducible apply below_drew1 | with_reducible apply below_alloc | with_reducible apply pw_below_drewN))) HO.out hq hrq).mono ?_); rintro e w4 ⟨h1, hb⟩; rw [HSB.out] at h1; subst h1; (try have ra := blk_below qa hb); (try have ra := blk_below (blk_alloc qa _) hb); (try have rb := blk_below qb hb); (try have rc := blk_below (blk_new w3 _) hb); (try have rc := blk_below (blk_alloc (blk_new w3 _) _) hb); (try have rd := blk_below (blk_new2 w3 _ _) hb); (try (have ra0 : w4.cell? ⟨wc.heap.size, 0, none⟩ = some (.int .i64 0) := (blk_cell ra 0).trans rfl; have raf0 : w4.frozen? ⟨wc.heap.size, 0, none⟩ = false := blk_frozen ra 0; have ra1 : w4.cell? ⟨wc.heap.size, 1, none⟩ = some (.string ⟨#[]⟩) := (blk_cell ra 1).trans rfl; have raf1 : w4.frozen? ⟨wc.heap.size, 1, none⟩ = false := blk_frozen ra 1; have ra2 : w4.cell? ⟨wc.heap.size, 2, none⟩ = some (.int .i64 0) := (blk_cell ra 2).trans rfl; have raf2 : w4.frozen? ⟨wc.heap.size, 2, none⟩ = false := blk_frozen ra 2)); (try (have rb0 : w4.cell? ⟨wc.heap.size + 1, 0, none⟩ = some (.int .i64 0) := (blk_cell rb 0).trans rfl; have rbf0 : w4.frozen? ⟨wc.heap.size + 1, 0, none⟩ = false := blk_frozen rb 0; have rb1 : w4.cell? ⟨wc.heap.size + 1, 1, none⟩ = some (.string ⟨#[]⟩) := (blk_cell rb 1).trans rfl; have rbf1 : w4.frozen? ⟨wc.heap.size + 1, 1, none⟩ = false := blk_frozen rb 1; have rb2 : w4.cell? ⟨wc.heap.size + 1, 2, none⟩ = some (.int .i64 0) := (blk_cell rb 2).trans rfl; have rbf2 : w4.frozen? ⟨wc.heap.size + 1, 2, none⟩ = false := blk_frozen rb 2)); (try (have rc0 : w4.cell? ⟨w3.heap.size, 0, none⟩ = some (.int .i64 0) := (blk_cell rc 0).trans rfl; have rcf0 : w4.frozen? ⟨w3.heap.size, 0, none⟩ = false := blk_frozen rc 0; have rc1 : w4.cell? ⟨w3.heap.size, 1, none⟩ = some (.string ⟨#[]⟩) := (blk_cell rc 1).trans rfl; have rcf1 : w4.frozen? ⟨w3.heap.size, 1, none⟩ = false := blk_frozen rc 1; have rc2 : w4.cell? ⟨w3.heap.size, 2, none⟩ = some (.int .i64 0) := (blk_cell rc 2).trans rfl; have rcf2 : w4.frozen? ⟨w3.heap.size, 2, none⟩ = false := blk_frozen rc 2)); (try (have rd0 : w4.cell? ⟨w3.heap.size + 1, 0, none⟩ = some (.int .i64 0) := (blk_cell rd 0).trans rfl; have rdf0 : w4.frozen? ⟨w3.heap.size + 1, 0, none⟩ = false := blk_frozen rd 0; have rd1 : w4.cell? ⟨w3.heap.size + 1, 1, none⟩ = some (.string ⟨#[]⟩) := (blk_cell rd 1).trans rfl; have rdf1 : w4.frozen? ⟨w3.heap.size + 1, 1, none⟩ = false := blk_frozen rd 1; have rd2 : w4.cell? ⟨w3.heap.size + 1, 2, none⟩ = some (.int .i64 0) := (blk_cell rd 2).trans rfl; have rdf2 : w4.frozen? ⟨w3.heap.size + 1, 2, none⟩ = false := blk_frozen rd 2)); (try (have hya := blk_lt ra; have hyan := Nat.ne_of_lt hya)); (try (have hyb := blk_lt rb; have hybn := Nat.ne_of_lt hyb)); (try (have hyc := blk_lt rc; have hycn := Nat.ne_of_lt hyc)); (try (have hyd := blk_lt rd; have hydn := Nat.ne_of_lt hyd)); have hs4 := hb.size; (try simp at hs4); have n0_ := Aside0.mk (below_step (by repeat (first | exact HB.out | with_reducible apply below_drew1 | with_reducible apply below_alloc | with_reducible apply pw_below_drewN)) hb); clear HB hb; have HB := n0_; clear n0_; have hk2_ := (HB.out.cell (p := ⟨b, 2, none⟩) hbl).trans hk2; have hk3_ := (HB.out.cell (p := ⟨b, 3, none⟩) hbl).trans hk3; have hbn4 := Nat.ne_of_gt (Nat.lt_of_lt_of_le hbl HB.out.size); have hbm4 := Nat.ne_of_gt (Nat.lt_succ_of_lt (Nat.lt_of_lt_of_le hbl HB.out.size)); have hsz_ := HB.out.size; unfold spotV; dsimp only))
      all_goals go_wp2
      all_goals go_meet
      all_goals refine ⟨_, _, rfl, rfl, ?_, ?_, ?_, ?_, ?_, ?_, ?_, (by repeat (first | exact HB.out | with_reducible apply below_drew1 | with_reducible apply below_alloc | with_reducible apply pw_below_drewN | (with_reducible refine Below.setCell ?_ (by first | exact Nat.le_refl _ | omega | (simp; omega)) _)))⟩
      all_goals first | omega | (go_simp; done)
    case rest =>
      obtain ⟨ga, gb, rfl, rfl, ha0, ha1, ha2, hb0, hb1, hb2, hgb, hBr⟩ := hcut
      clear HB
      have HB := Aside0.mk hBr
      clear hBr
      have hk2_ := (HB.out.cell (p := ⟨b, 2, none⟩) hbl).trans hk2
      have hk3_ := (HB.out.cell (p := ⟨b, 3, none⟩) hbl).trans hk3
      have hy0 := (HB.out.cell (p := ⟨b, 0, none⟩) hbl).trans hk0
      have hgg : gb ≠ g := by omega
      have hgb0 := World.block_lt_of_cell? _ _ hb0
      have hkm : k < 1000000 := by have := HO.out.len; omega
      have hdir1 : (nd l d1).f0 = 2 := (spotF_inl HSA.out).choose_spec.2.2.2.1
      have HWd := Aside0.mk (blk_below HW.out HB.out)
      have HSd := Aside0.mk (Kd.S_below HS.out HB.out)
      cases o2 with
      | none =>
        dsimp only [nodeV] at hb2
        have hjk : ((-1 : Int) == (k : Int)) = false := beq_eq_false_iff_ne.2 (by omega)
        have hj0 : decide ((-1 : Int) < 0) = true := rfl
        by_cases hdd : d1 = d2
        · have hdb : ((d1 : Int) == (d2 : Int)) = true := beq_iff_eq.2 (by rw [hdd])
          have hMV : moveF l k (d1, n1, o1) (d2, n2, none) = .inl (putT (cutT l d1 n1) d2 n2 k) := by unfold moveF; dsimp only; rw [if_pos (.inl hdd)]
          rw [hMV] at hX
          clear hMV
          subst hX
          clear hdd
          go_wp2_with (first | (go_at_call 81; (with_reducible refine (need_ok _ _).mono ?_); rintro e w9 ⟨rfl, h9⟩; subst w9) | (go_at_call 95; (with_reducible refine (mcut_walk2 B b l _ d1 n1 _ _ hd1 (St.below HST.out (by repeat (first | exact HB.out | with_reducible apply below_drew1 | with_reducible apply below_alloc | with_reducible apply pw_below_drewN))) HO.out).mono ?_); rintro e w5 ⟨rfl, hst5, hb5, hfr⟩; have hfr5 := hfr _ _ _ hy0; have hc0 := (hfr5 ⟨gb, 0, none⟩ hgb0 hgg).trans hb0; have hc1 := (hfr5 ⟨gb, 1, none⟩ hgb0 hgg).trans hb1; have hc2 := (hfr5 ⟨gb, 2, none⟩ hgb0 hgg).trans hb2; have HST5 := Aside0.mk hst5; have HB5 := Aside0.mk (BW.trans (BW.mono (by repeat (first | exact HB.out | with_reducible apply below_drew1 | with_reducible apply below_alloc | with_reducible apply pw_below_drewN)) hBw) hb5); clear hst5 hb5 hfr hfr5) | (go_at_call 94; (with_reducible refine (mput_walk B b _ _ d2 n2 _ k _ (by rw [cutT, setE_len]; exact hd2) HST5.out (ok_cut HO.out hdir1 _) hkm).mono ?_); rintro e w6 ⟨rfl, hst6, hb6⟩; have HST6 := Aside0.mk hst6; have HB6 := Aside0.mk (BW.trans HB5.out hb6); clear hst6 hb6))
          go_end0
          exact ⟨⟨rfl, HST6.out⟩, HB6.out⟩
        · have hdb : ((d1 : Int) == (d2 : Int)) = false := beq_eq_false_iff_ne.2 (by omega)
          cases hf : fullB l d2 with
          | true =>
            have hMV : moveF l k (d1, n1, o1) (d2, n2, none) = .inr 27 := by unfold moveF; dsimp only; rw [if_neg (fun h => h.elim hdd (fun h => by rw [hf] at h; cases h))]
            rw [hMV] at hX
            clear hMV
            subst hX
            clear hdd
            go_wp2_with (first | (go_at_call 93; (with_reducible refine (mfull_walk B b l _ d2 _ hd2 (St.below HST.out (by repeat (first | exact HB.out | with_reducible apply below_drew1 | with_reducible apply below_alloc | with_reducible apply pw_below_drewN))) hf).mono ?_); rintro e w9 ⟨rfl, h9⟩; subst w9) | (go_at_call 81; (with_reducible refine (need_bad 27 _).mono ?_); rintro e w9 ⟨rfl, h9⟩; subst w9; exact ⟨rfl, rfl, BW.mono (by repeat (first | exact HB.out | with_reducible apply below_drew1 | with_reducible apply below_alloc | with_reducible apply pw_below_drewN)) hBw⟩))
          | false =>
            have hMV : moveF l k (d1, n1, o1) (d2, n2, none) = .inl (putT (cutT l d1 n1) d2 n2 k) := by unfold moveF; dsimp only; rw [if_pos (.inr hf)]
            rw [hMV] at hX
            clear hMV
            subst hX
            clear hdd
            go_wp2_with (first | (go_at_call 93; (with_reducible refine (mfull_walk B b l _ d2 _ hd2 (St.below HST.out (by repeat (first | exact HB.out | with_reducible apply below_drew1 | with_reducible apply below_alloc | with_reducible apply pw_below_drewN))) hf).mono ?_); rintro e w9 ⟨rfl, h9⟩; subst w9) | (go_at_call 81; (with_reducible refine (need_ok _ _).mono ?_); rintro e w9 ⟨rfl, h9⟩; subst w9) | (go_at_call 95; (with_reducible refine (mcut_walk2 B b l _ d1 n1 _ _ hd1 (St.below HST.out (by repeat (first | exact HB.out | with_reducible apply below_drew1 | with_reducible apply below_alloc | with_reducible apply pw_below_drewN))) HO.out).mono ?_); rintro e w5 ⟨rfl, hst5, hb5, hfr⟩; have hfr5 := hfr _ _ _ hy0; have hc0 := (hfr5 ⟨gb, 0, none⟩ hgb0 hgg).trans hb0; have hc1 := (hfr5 ⟨gb, 1, none⟩ hgb0 hgg).trans hb1; have hc2 := (hfr5 ⟨gb, 2, none⟩ hgb0 hgg).trans hb2; have HST5 := Aside0.mk hst5; have HB5 := Aside0.mk (BW.trans (BW.mono (by repeat (first | exact HB.out | with_reducible apply below_drew1 | with_reducible apply below_alloc | with_reducible apply pw_below_drewN)) hBw) hb5); clear hst5 hb5 hfr hfr5) | (go_at_call 94; (with_reducible refine (mput_walk B b _ _ d2 n2 _ k _ (by rw [cutT, setE_len]; exact hd2) HST5.out (ok_cut HO.out hdir1 _) hkm).mono ?_); rintro e w6 ⟨rfl, hst6, hb6⟩; have HST6 := Aside0.mk hst6; have HB6 := Aside0.mk (BW.trans HB5.out hb6); clear hst6 hb6))
            go_end0
            exact ⟨⟨rfl, HST6.out⟩, HB6.out⟩
      | some j =>
        have hjl : j < l.length := spot_lt HO.out HSB.out
        dsimp only [nodeV] at hb2
        have hj0 : decide ((j : Int) < 0) = false := decide_eq_false (by omega)
        by_cases hjk' : j = k
        · have hjk : ((j : Int) == (k : Int)) = true := beq_iff_eq.2 (by rw [hjk'])
          have hMV : moveF l k (d1, n1, o1) (d2, n2, some j) = .inl l := by unfold moveF; dsimp only; rw [if_pos hjk']
          rw [hMV] at hX
          clear hMV
          subst hX
          clear hjk'
          go_wp2
          go_end0
          exact ⟨⟨rfl, St.below HST.out HB.out⟩, BW.mono HB.out hBw⟩
        · have hjk : ((j : Int) == (k : Int)) = false := beq_eq_false_iff_ne.2 (by omega)
          cases hdk : ((nd l k).f0 == 2) with
          | true =>
            cases hdj : ((nd l j).f0 == 2) with
            | false =>
              have hMV : moveF l k (d1, n1, o1) (d2, n2, some j) = .inr 22 := by unfold moveF; dsimp only; rw [if_neg hjk']; rw [if_pos ⟨beq_iff_eq.1 hdk, beq_eq_false_iff_ne.1 hdj⟩]
              rw [hMV] at hX
              clear hMV
              subst hX
              clear hjk'
              go_wp2_with (first | (go_at_call 82; (with_reducible refine (mdir_walk B b l _ k _ hkl (St.below HST.out (by repeat (first | exact HB.out | with_reducible apply below_drew1 | with_reducible apply below_alloc | with_reducible apply pw_below_drewN))) hdk).mono ?_); rintro e w9 ⟨rfl, h9⟩; subst w9) | (go_at_call 82; (with_reducible refine (mdir_walk B b l _ j _ hjl (St.below HST.out (by repeat (first | exact HB.out | with_reducible apply below_drew1 | with_reducible apply below_alloc | with_reducible apply pw_below_drewN))) hdj).mono ?_); rintro e w9 ⟨rfl, h9⟩; subst w9) | (go_at_call 81; (with_reducible refine (need_bad 22 _).mono ?_); rintro e w9 ⟨rfl, h9⟩; subst w9; exact ⟨rfl, rfl, BW.mono (by repeat (first | exact HB.out | with_reducible apply below_drew1 | with_reducible apply below_alloc | with_reducible apply pw_below_drewN)) hBw⟩))
            | true =>
              by_cases hz : (nd l j).f3 = []
              · have hne : (((nd l j).f3.length : Int) == 0) = true := by rw [hz]; rfl
                have hMV : moveF l k (d1, n1, o1) (d2, n2, some j) = .inl (putT (cutT l d1 n1) d2 n2 k) := by unfold moveF; dsimp only; rw [if_neg hjk']; rw [if_neg (fun h => h.2 (beq_iff_eq.1 hdj)), if_neg (fun h => h.1 (beq_iff_eq.1 hdk)), if_neg (fun h => h hz)]
                rw [hMV] at hX
                clear hMV
                subst hX
                clear hjk' hz
                obtain ⟨v2, v3, -, -, -, hx3, -, hR3, -, -, -, -, -⟩ := S_node (blk_lt HWd.out) HSd.out j hjl (Nat.le_trans hBw HB.out.size)
                obtain ⟨A3, c3, rfl, hl3, -⟩ := Kd.R_reads hR3
                clear hR3
                have hj1 : (0 : Int) ≤ (j : Int) := by omega
                have hj2 : (j : Int) < (l.length : Int) := by omega
                go_wp2_with (first | (go_at_call 82; (with_reducible refine (mdir_walk B b l _ k _ hkl (St.below HST.out (by repeat (first | exact HB.out | with_reducible apply below_drew1 | with_reducible apply below_alloc | with_reducible apply pw_below_drewN))) hdk).mono ?_); rintro e w9 ⟨rfl, h9⟩; subst w9) | (go_at_call 82; (with_reducible refine (mdir_walk B b l _ j _ hjl (St.below HST.out (by repeat (first | exact HB.out | with_reducible apply below_drew1 | with_reducible apply below_alloc | with_reducible apply pw_below_drewN))) hdj).mono ?_); rintro e w9 ⟨rfl, h9⟩; subst w9) | (go_at_call 81; (with_reducible refine (need_ok _ _).mono ?_); rintro e w9 ⟨rfl, h9⟩; subst w9))
                go_quiet ((go_at_call 81; refine Calls.quiet_of_same (need_ok _ _)))
                go_wp2_with (first | (go_at_call 95; (with_reducible refine (mcut_walk2 B b l _ d1 n1 _ _ hd1 (St.below HST.out (by repeat (first | exact HB.out | with_reducible apply below_drew1 | with_reducible apply below_alloc | with_reducible apply pw_below_drewN))) HO.out).mono ?_); rintro e w5 ⟨rfl, hst5, hb5, hfr⟩; have hfr5 := hfr _ _ _ hy0; have hc0 := (hfr5 ⟨gb, 0, none⟩ hgb0 hgg).trans hb0; have hc1 := (hfr5 ⟨gb, 1, none⟩ hgb0 hgg).trans hb1; have hc2 := (hfr5 ⟨gb, 2, none⟩ hgb0 hgg).trans hb2; have HST5 := Aside0.mk hst5; have HB5 := Aside0.mk (BW.trans (BW.mono (by repeat (first | exact HB.out | with_reducible apply below_drew1 | with_reducible apply below_alloc | with_reducible apply pw_below_drewN)) hBw) hb5); clear hst5 hb5 hfr hfr5) | (go_at_call 94; (with_reducible refine (mput_walk B b _ _ d2 n2 _ k _ (by rw [cutT, setE_len]; exact hd2) HST5.out (ok_cut HO.out hdir1 _) hkm).mono ?_); rintro e w6 ⟨rfl, hst6, hb6⟩; have HST6 := Aside0.mk hst6; have HB6 := Aside0.mk (BW.trans HB5.out hb6); clear hst6 hb6))
                go_end0
                exact ⟨⟨rfl, HST6.out⟩, HB6.out⟩
              · have hne : (((nd l j).f3.length : Int) == 0) = false := beq_eq_false_iff_ne.2 fun h => hz (List.length_eq_zero_iff.1 (Int.ofNat.inj h))
                have hMV : moveF l k (d1, n1, o1) (d2, n2, some j) = .inr 25 := by unfold moveF; dsimp only; rw [if_neg hjk']; rw [if_neg (fun h => h.2 (beq_iff_eq.1 hdj)), if_neg (fun h => h.1 (beq_iff_eq.1 hdk)), if_pos hz]
                rw [hMV] at hX
                clear hMV
                subst hX
                clear hjk' hz
                obtain ⟨v2, v3, -, -, -, hx3, -, hR3, -, -, -, -, -⟩ := S_node (blk_lt HWd.out) HSd.out j hjl (Nat.le_trans hBw HB.out.size)
                obtain ⟨A3, c3, rfl, hl3, -⟩ := Kd.R_reads hR3
                clear hR3
                have hj1 : (0 : Int) ≤ (j : Int) := by omega
                have hj2 : (j : Int) < (l.length : Int) := by omega
                go_wp2_with (first | (go_at_call 82; (with_reducible refine (mdir_walk B b l _ k _ hkl (St.below HST.out (by repeat (first | exact HB.out | with_reducible apply below_drew1 | with_reducible apply below_alloc | with_reducible apply pw_below_drewN))) hdk).mono ?_); rintro e w9 ⟨rfl, h9⟩; subst w9) | (go_at_call 82; (with_reducible refine (mdir_walk B b l _ j _ hjl (St.below HST.out (by repeat (first | exact HB.out | with_reducible apply below_drew1 | with_reducible apply below_alloc | with_reducible apply pw_below_drewN))) hdj).mono ?_); rintro e w9 ⟨rfl, h9⟩; subst w9) | (go_at_call 81; (with_reducible refine (need_ok _ _).mono ?_); rintro e w9 ⟨rfl, h9⟩; subst w9))
                go_region_with (go_at_call 81; (with_reducible refine calls_dead (v := .tuple #[]) ((need_bad 25 _).mono ?_) ?_); (rintro e w9 ⟨rfl, h9⟩; subst w9; exact ⟨rfl, rfl, BW.mono (by repeat (first | exact HB.out | with_reducible apply below_drew1 | with_reducible apply below_alloc | with_reducible apply pw_below_drewN)) hBw⟩); (intro hF0; have hF := Aside0.mk hF0; clear hF0; dsimp only))
                all_goals exact hF.out.elim
          | false =>
            cases hdj : ((nd l j).f0 == 2) with
            | true =>
              have hMV : moveF l k (d1, n1, o1) (d2, n2, some j) = .inr 23 := by unfold moveF; dsimp only; rw [if_neg hjk']; rw [if_neg (fun h => h.2 (beq_iff_eq.1 hdj)), if_pos ⟨beq_eq_false_iff_ne.1 hdk, beq_iff_eq.1 hdj⟩]
              rw [hMV] at hX
              clear hMV
              subst hX
              clear hjk'
              go_wp2_with (first | (go_at_call 82; (with_reducible refine (mdir_walk B b l _ k _ hkl (St.below HST.out (by repeat (first | exact HB.out | with_reducible apply below_drew1 | with_reducible apply below_alloc | with_reducible apply pw_below_drewN))) hdk).mono ?_); rintro e w9 ⟨rfl, h9⟩; subst w9) | (go_at_call 82; (with_reducible refine (mdir_walk B b l _ j _ hjl (St.below HST.out (by repeat (first | exact HB.out | with_reducible apply below_drew1 | with_reducible apply below_alloc | with_reducible apply pw_below_drewN))) hdj).mono ?_); rintro e w9 ⟨rfl, h9⟩; subst w9) | (go_at_call 81; (with_reducible refine (need_ok _ _).mono ?_); rintro e w9 ⟨rfl, h9⟩; subst w9) | (go_at_call 81; (with_reducible refine (need_bad 23 _).mono ?_); rintro e w9 ⟨rfl, h9⟩; subst w9; exact ⟨rfl, rfl, BW.mono (by repeat (first | exact HB.out | with_reducible apply below_drew1 | with_reducible apply below_alloc | with_reducible apply pw_below_drewN)) hBw⟩))
            | false =>
              by_cases hz : (nd l j).f3 = []
              · have hne : (((nd l j).f3.length : Int) == 0) = true := by rw [hz]; rfl
                have hMV : moveF l k (d1, n1, o1) (d2, n2, some j) = .inl (putT (cutT l d1 n1) d2 n2 k) := by unfold moveF; dsimp only; rw [if_neg hjk']; rw [if_neg (fun h => (beq_eq_false_iff_ne.1 hdk) h.1), if_neg (fun h => (beq_eq_false_iff_ne.1 hdj) h.2), if_neg (fun h => h hz)]
                rw [hMV] at hX
                clear hMV
                subst hX
                clear hjk' hz
                obtain ⟨v2, v3, -, -, -, hx3, -, hR3, -, -, -, -, -⟩ := S_node (blk_lt HWd.out) HSd.out j hjl (Nat.le_trans hBw HB.out.size)
                obtain ⟨A3, c3, rfl, hl3, -⟩ := Kd.R_reads hR3
                clear hR3
                have hj1 : (0 : Int) ≤ (j : Int) := by omega
                have hj2 : (j : Int) < (l.length : Int) := by omega
                go_wp2_with (first | (go_at_call 82; (with_reducible refine (mdir_walk B b l _ k _ hkl (St.below HST.out (by repeat (first | exact HB.out | with_reducible apply below_drew1 | with_reducible apply below_alloc | with_reducible apply pw_below_drewN))) hdk).mono ?_); rintro e w9 ⟨rfl, h9⟩; subst w9) | (go_at_call 82; (with_reducible refine (mdir_walk B b l _ j _ hjl (St.below HST.out (by repeat (first | exact HB.out | with_reducible apply below_drew1 | with_reducible apply below_alloc | with_reducible apply pw_below_drewN))) hdj).mono ?_); rintro e w9 ⟨rfl, h9⟩; subst w9) | (go_at_call 81; (with_reducible refine (need_ok _ _).mono ?_); rintro e w9 ⟨rfl, h9⟩; subst w9))
                go_quiet ((go_at_call 81; refine Calls.quiet_of_same (need_ok _ _)))
                go_wp2_with (first | (go_at_call 95; (with_reducible refine (mcut_walk2 B b l _ d1 n1 _ _ hd1 (St.below HST.out (by repeat (first | exact HB.out | with_reducible apply below_drew1 | with_reducible apply below_alloc | with_reducible apply pw_below_drewN))) HO.out).mono ?_); rintro e w5 ⟨rfl, hst5, hb5, hfr⟩; have hfr5 := hfr _ _ _ hy0; have hc0 := (hfr5 ⟨gb, 0, none⟩ hgb0 hgg).trans hb0; have hc1 := (hfr5 ⟨gb, 1, none⟩ hgb0 hgg).trans hb1; have hc2 := (hfr5 ⟨gb, 2, none⟩ hgb0 hgg).trans hb2; have HST5 := Aside0.mk hst5; have HB5 := Aside0.mk (BW.trans (BW.mono (by repeat (first | exact HB.out | with_reducible apply below_drew1 | with_reducible apply below_alloc | with_reducible apply pw_below_drewN)) hBw) hb5); clear hst5 hb5 hfr hfr5) | (go_at_call 94; (with_reducible refine (mput_walk B b _ _ d2 n2 _ k _ (by rw [cutT, setE_len]; exact hd2) HST5.out (ok_cut HO.out hdir1 _) hkm).mono ?_); rintro e w6 ⟨rfl, hst6, hb6⟩; have HST6 := Aside0.mk hst6; have HB6 := Aside0.mk (BW.trans HB5.out hb6); clear hst6 hb6))
                go_end0
                exact ⟨⟨rfl, HST6.out⟩, HB6.out⟩
              · have hne : (((nd l j).f3.length : Int) == 0) = false := beq_eq_false_iff_ne.2 fun h => hz (List.length_eq_zero_iff.1 (Int.ofNat.inj h))
                have hMV : moveF l k (d1, n1, o1) (d2, n2, some j) = .inr 25 := by unfold moveF; dsimp only; rw [if_neg hjk']; rw [if_neg (fun h => (beq_eq_false_iff_ne.1 hdk) h.1), if_neg (fun h => (beq_eq_false_iff_ne.1 hdj) h.2), if_pos hz]
                rw [hMV] at hX
                clear hMV
                subst hX
                clear hjk' hz
                obtain ⟨v2, v3, -, -, -, hx3, -, hR3, -, -, -, -, -⟩ := S_node (blk_lt HWd.out) HSd.out j hjl (Nat.le_trans hBw HB.out.size)
                obtain ⟨A3, c3, rfl, hl3, -⟩ := Kd.R_reads hR3
                clear hR3
                have hj1 : (0 : Int) ≤ (j : Int) := by omega
                have hj2 : (j : Int) < (l.length : Int) := by omega
                go_wp2_with (first | (go_at_call 82; (with_reducible refine (mdir_walk B b l _ k _ hkl (St.below HST.out (by repeat (first | exact HB.out | with_reducible apply below_drew1 | with_reducible apply below_alloc | with_reducible apply pw_below_drewN))) hdk).mono ?_); rintro e w9 ⟨rfl, h9⟩; subst w9) | (go_at_call 82; (with_reducible refine (mdir_walk B b l _ j _ hjl (St.below HST.out (by repeat (first | exact HB.out | with_reducible apply below_drew1 | with_reducible apply below_alloc | with_reducible apply pw_below_drewN))) hdj).mono ?_); rintro e w9 ⟨rfl, h9⟩; subst w9) | (go_at_call 81; (with_reducible refine (need_ok _ _).mono ?_); rintro e w9 ⟨rfl, h9⟩; subst w9))
                go_region_with (go_at_call 81; (with_reducible refine calls_dead (v := .tuple #[]) ((need_bad 25 _).mono ?_) ?_); (rintro e w9 ⟨rfl, h9⟩; subst w9; exact ⟨rfl, rfl, BW.mono (by repeat (first | exact HB.out | with_reducible apply below_drew1 | with_reducible apply below_alloc | with_reducible apply pw_below_drewN)) hBw⟩); (intro hF0; have hF := Aside0.mk hF0; clear hF0; dsimp only))
                all_goals exact hF.out.elim
end Go.Proofs.YtllfjmmdackgdaaDoor.PZ
end
