import Derived.Test.YtllfjmmdackgdaaDoorM05
set_option linter.unusedVariables false
set_option linter.unusedSimpArgs false
/-! PZx7 -/
section
namespace Go.Proofs.YtllfjmmdackgdaaDoor.PZ
open Go.RowKit Go.Proofs.YtllfjmmdackgdaaDoorW.PrintWords Go.Proofs.YtllfjmmdackgdaaDoorW.PrintLast Go.Proofs.YtllfjmmdackgdaaDoorW.PrintMore
attribute [local go_sem] max2_int min2_int max_two min_two max_three min_three max_four min_four   -- for this text's walks alone
set_option linter.unusedVariables false
set_option linter.unusedSimpArgs false
/-! ### tree_links: function 52 -/
mutual
def tree_links.l0 : Nat → List Int → List Int → List (S58) → Int → Int → List (S58) → Option (List Int × List Int)
  | 0, _, _, _, _, _, _ => none
  | k + 1, x4, x5, x19, x20, x21, x259000 => if x21 < x20 then (if 0 ≤ x21 then (if x21 < (x19.length : Int) then (if ((rd_T58 x19 x21).f0) = 2 then (if x21 < (x4.length : Int) then (tree_links.j1 k (x4.set (x21 : Int).toNat (wrap64 ((rd x4 x21) + 2))) x5 x21 x19 x20 x21 x259000 ((rd_T58 x19 x21).f0) ((rd_T58 x19 x21).f1) ((rd_T58 x19 x21).f2) ((rd_T58 x19 x21).f3)) else (none)) else (tree_links.j1 k x4 x5 x21 x19 x20 x21 x259000 ((rd_T58 x19 x21).f0) ((rd_T58 x19 x21).f1) ((rd_T58 x19 x21).f2) ((rd_T58 x19 x21).f3))) else (none)) else (none)) else (some (x4, x5))
def tree_links.j1 : Nat → List Int → List Int → Int → List (S58) → Int → Int → List (S58) → Int → Int → List Int → List (S102) → Option (List Int × List Int)
  | 0, _, _, _, _, _, _, _, _, _, _, _ => none
  | k + 1, x4, x5, x6, x19, x20, x21, x259000, x267000, x267001, x267002, x267003 => tree_links.l1 k x4 x5 x6 x19 x20 x21 x267003 (x267003.length : Int) 0 x259000
def tree_links.l1 : Nat → List Int → List Int → Int → List (S58) → Int → Int → List (S102) → Int → Int → List (S58) → Option (List Int × List Int)
  | 0, _, _, _, _, _, _, _, _, _, _ => none
  | k + 1, x4, x5, x6, x19, x20, x21, x36, x37, x38, x259000 => if x38 < x37 then (if 0 ≤ x38 then (if x38 < (x36.length : Int) then (if 0 ≤ ((rd_T102 x36 x38).f1) then (if ((rd_T102 x36 x38).f1) < (x5.length : Int) then ((some (x5.set (((rd_T102 x36 x38).f1) : Int).toNat (wrap64 ((rd x5 ((rd_T102 x36 x38).f1)) + 1)) : List Int)).bind fun y272 => (if ((rd_T102 x36 x38).f1) < (x259000.length : Int) then (if ((rd_T58 x259000 ((rd_T102 x36 x38).f1)).f0) = 2 then (if 0 ≤ x6 then (if x6 < (x4.length : Int) then (tree_links.l1 k (x4.set (x6 : Int).toNat (wrap64 ((rd x4 x6) + 1))) y272 x6 x19 x20 x21 x36 x37 (wrap64 (x38 + 1)) x259000) else (none)) else (none)) else (if ((rd_T102 x36 x38).f1) < (x4.length : Int) then (tree_links.l1 k (x4.set (((rd_T102 x36 x38).f1) : Int).toNat (wrap64 ((rd x4 ((rd_T102 x36 x38).f1)) + 1))) y272 x6 x19 x20 x21 x36 x37 (wrap64 (x38 + 1)) x259000) else (none))) else (none))) else (none)) else (none)) else (none)) else (none)) else (tree_links.l0 k x4 x5 x19 x20 (wrap64 (x21 + 1)) x259000)
end
def tree_links.f (k : Nat) (l0_0 : List (S58)) : Option (List Int × List Int) := if 0 ≤ (l0_0.length : Int) then (if ((l0_0.length : Int) : Int).toNat ≤ 35184372088832 then (tree_links.l0 k (List.replicate ((l0_0.length : Int) : Int).toNat 0) (List.replicate ((l0_0.length : Int) : Int).toNat 0) l0_0 (l0_0.length : Int) 0 l0_0) else (none)) else (none)
def tree_links.T1 : Bool × List (List Nat × List Nat) := (true, [([], []), ([0], [0]), ([1], [1]), ([2, 2], [2]), ([], []), ([4], [4]), ([5], [5]), ([6, 6], [6]), ([3, 0, 1, 2, 3], [3]), ([7, 8, 0, 1, 2, 3, 4, 5, 6, 7, 8], [7])])
def tree_links.B1 : List Nat := [0, 1, 3, 7, 0, 16, 48, 112, 15, 511]
theorem tree_links.tab1 : rtab .any (opsOf Tryd.f52 1) = tree_links.T1 := by kernel_rfl
theorem tree_links.bits1 : waitsOk tree_links.T1.2 tree_links.B1 = true := by kernel_rfl
set_option maxHeartbeats 8000000 in
set_option maxRecDepth 100000 in
theorem tree_links.calls (k : Nat) (A0_0 : Option Addr) (c0_0 : Nat) (l0_0 : List (S58)) (r1 : List Int) (r2 : List Int) (w : World) (hr0_0 : Kd.C k58 w A0_0 l0_0.length l0_0) (hc0_0 : l0_0.length ≤ c0_0) (h : tree_links.f k l0_0 = some (r1, r2)) :
    Calls Tryd.prog 52 #[.agg #[.slice A0_0 l0_0.length c0_0]] w fun e w' => ∃ v0_ v1_ : Value, e = .returned (.tuple #[v0_, v1_]) ∧ Kd.R (Kd.int .i64) 3 w' w.heap.size (fun k_ => some k_ ≠ (v1_ : Value).ownBlock) v0_ r1 ∧ Kd.R (Kd.int .i64) 3 w' w.heap.size (fun k_ => some k_ ≠ (v0_ : Value).ownBlock) v1_ r2 ∧ Below w.heap.size w w' := by
  have hu42 := Tryd.underlying42
  have hu58 := Tryd.underlying58
  have hu102 := Tryd.underlying102
  have HR0_0 := Aside0.mk hr0_0
  have HC0_0 := Aside0.mk hc0_0
  clear hr0_0 hc0_0
  have HB := Aside0.mk (Below.refl w.heap.size w)
  have H : (if 0 ≤ (l0_0.length : Int) then (if ((l0_0.length : Int) : Int).toNat ≤ 35184372088832 then (tree_links.l0 k (List.replicate ((l0_0.length : Int) : Int).toNat 0) (List.replicate ((l0_0.length : Int) : Int).toNat 0) l0_0 (l0_0.length : Int) 0 l0_0) else (none)) else (none)) = some (r1, r2) := h
  clear h
  by_cases c2 : 0 ≤ (l0_0.length : Int)
  · rw [if_pos c2] at H
    have c2b0 := eq_true c2
    have c2b1 : decide (0 ≤ (l0_0.length : Int)) = true := decide_eq_true c2
    clear c2
    by_cases c3 : ((l0_0.length : Int) : Int).toNat ≤ 35184372088832
    · rw [if_pos c3] at H
      have c3b0 := eq_true c3
      have c3b1 : decide (((l0_0.length : Int) : Int).toNat ≤ 35184372088832) = true := decide_eq_true c3
      clear c3
      obtain ⟨y259, hy259⟩ : ∃ y_ : List Int, y_ = (List.replicate ((l0_0.length : Int) : Int).toNat 0) := ⟨_, rfl⟩
      replace H : (tree_links.l0 k y259 (List.replicate ((l0_0.length : Int) : Int).toNat 0) l0_0 (l0_0.length : Int) 0 l0_0) = some (r1, r2) := by first | (rw [hy259]; with_reducible exact H) | (have H2_ := (Option.bind_some _ _).symm.trans H; rw [hy259]; with_reducible exact H2_) | (have H2_ := (Option.bind_some _ _).symm.trans H; with_reducible exact H2_) | with_reducible exact H | (rw [hy259]; exact H) | exact H
      have Ny259 := Aside0.mk hy259
      clear hy259
      obtain ⟨y262, hy262⟩ : ∃ y_ : List Int, y_ = (List.replicate ((l0_0.length : Int) : Int).toNat 0) := ⟨_, rfl⟩
      replace H : (tree_links.l0 k y259 y262 l0_0 (l0_0.length : Int) 0 l0_0) = some (r1, r2) := by first | (rw [hy262]; with_reducible exact H) | (have H2_ := (Option.bind_some _ _).symm.trans H; rw [hy262]; with_reducible exact H2_) | (have H2_ := (Option.bind_some _ _).symm.trans H; with_reducible exact H2_) | with_reducible exact H | (rw [hy262]; exact H) | exact H
      have Ny262 := Aside0.mk hy262
      clear hy262
      have H' := Aside0.mk H
      clear H
      go_enter Tryd.func52, Tryd.ntmps52
      try go_wp2_with (first | ((with_reducible refine gate_dst (N := 1) rfl ?_); refine box_event ?hg (N := 1) ?hd (cs := #[.slice A0_0 l0_0.length c0_0]) (t := 42) ?hr ?_; (case hd => rfl); (case hg => rfl); (case hr => first | (go_simp; done) | (go_simp; rfl)); intro gb258 hg w4 hbox hb; have n0_ := Aside0.mk (below_step (by repeat (first | (with_reducible first | exact HB.out | apply below_alloc | apply pw_below_drewN | apply below_drew1) | exact HB.out)) hb); have n1_ := Aside0.mk (hbox); have n2_ := Aside0.mk ((by rw [hg]; exact (below_size (by repeat (first | (with_reducible first | exact HB.out | apply below_alloc | apply pw_below_drewN | apply below_drew1) | exact HB.out))) : w.heap.size ≤ gb258)); have n3_ := Aside0.mk ((by rw [hg]; exact (below_size (by repeat (first | (with_reducible first | exact HB.out | apply below_alloc | apply pw_below_drewN | apply below_drew1) | exact HB.out))) : w.heap.size ≤ gb258)); clear HB; have HB := n0_; have BK258 := n1_; have GW258 := n2_; have GE258 := n3_; clear n0_ n1_ n2_ n3_; clear hb hbox hg))
      have n0_ := Aside0.mk (blk_drew BK258.out)
      have n1_ := Aside0.mk (below_drew1 HB.out)
      clear BK258
      clear HB
      have BK258 := n0_
      have HB := n1_
      clear n0_ n1_
      refine start_ (n := 10) (S := fun w' => w'.cell? ⟨gb258, 0, none⟩ = some (.slice A0_0 l0_0.length c0_0)) (ds := []) #[false, false, false, false, false, false, false, false, false, false] (by kernel_rfl) rfl rfl ((blk_cell BK258.out 0).trans rfl) (fun hHeld => ?_); refine with_tabW tree_links.tab1 tree_links.bits1 (fun HT_ HW_ => ?_)
      generalize w4.drew = w5 at BK258 HB hHeld ⊢
      refine pure_ (i := 0) (N := some 10) (v := ?_) (a' := ?_) #[true, false, false, false, false, false, false, false, false, false] rfl rfl (any_of HT_.out (by kernel_rfl)) (fun _ _ _ h => h) (Or.inl ⟨by rfl, ?_⟩) ?_ ?_
      rotate_left
      · intro w'
        go_simp
        with_reducible rfl
      rotate_left
      · simp only [Act.put, List.setIfInBounds_toArray, List.set_cons_zero, List.set_cons_succ, i64_w, i32_w]
        rfl
      refine pure_ (i := 4) (N := some 14) (v := ?_) (a' := ?_) #[true, false, false, false, true, false, false, false, false, false] rfl rfl (any_of HT_.out (by kernel_rfl)) (fun _ _ _ h => h) (Or.inl ⟨by rfl, ?_⟩) ?_ ?_
      rotate_left
      · intro w'
        go_simp
        with_reducible rfl
      rotate_left
      · simp only [Act.put, List.setIfInBounds_toArray, List.set_cons_zero, List.set_cons_succ, i64_w, i32_w]
        rfl
      refine take_ (i := 1) (N := some 11) (v := ?_) (a' := ?_) #[true, true, false, false, true, false, false, false, false, false] rfl rfl (take_ofW HT_.out HW_.out (by kernel_rfl)) (fun _ _ _ h => h) (Or.inl ⟨by rfl, ?_⟩) hHeld ?_ ?_
      rotate_left
      · intro w' s0
        go_simp
        with_reducible rfl
      rotate_left
      · simp only [Act.put, List.setIfInBounds_toArray, List.set_cons_zero, List.set_cons_succ, i64_w, i32_w]
        rfl
      refine pure_ (i := 2) (N := some 12) (v := ?_) (a' := ?_) #[true, true, true, false, true, false, false, false, false, false] rfl rfl (any_of HT_.out (by kernel_rfl)) (fun _ _ _ h => h) (Or.inl ⟨by rfl, ?_⟩) ?_ ?_
      rotate_left
      · intro w'
        go_simp
        with_reducible rfl
      rotate_left
      · simp only [Act.put, List.setIfInBounds_toArray, List.set_cons_zero, List.set_cons_succ, i64_w, i32_w]
        rfl
      refine take_ (i := 5) (N := some 15) (v := ?_) (a' := ?_) #[true, true, true, false, true, true, false, false, false, false] rfl rfl (take_ofW HT_.out HW_.out (by kernel_rfl)) (fun _ _ _ h => h) (Or.inl ⟨by rfl, ?_⟩) hHeld ?_ ?_
      rotate_left
      · intro w' s0
        go_simp
        with_reducible rfl
      rotate_left
      · simp only [Act.put, List.setIfInBounds_toArray, List.set_cons_zero, List.set_cons_succ, i64_w, i32_w]
        rfl
      refine pure_ (i := 6) (N := some 16) (v := ?_) (a' := ?_) #[true, true, true, false, true, true, true, false, false, false] rfl rfl (any_of HT_.out (by kernel_rfl)) (fun _ _ _ h => h) (Or.inl ⟨by rfl, ?_⟩) ?_ ?_
      rotate_left
      · intro w'
        go_simp
        with_reducible rfl
      rotate_left
      · simp only [Act.put, List.setIfInBounds_toArray, List.set_cons_zero, List.set_cons_succ, i64_w, i32_w]
        rfl
      refine join_ (σ := Value × Value) 1 #[true, true, true, true, true, true, true, true, true, false] (fun s_ => [(13, s_.1), (17, s_.2), (4, s_.1)]) (fun s_ w' => (w'.cell? ⟨gb258, 0, none⟩ = some (.slice A0_0 l0_0.length c0_0)) ∧ (Kd.R (Kd.int .i64) 3 w' w.heap.size (fun k_ => some k_ ≠ (s_.2 : Value).ownBlock) s_.1 y259) ∧ (Kd.R (Kd.int .i64) 3 w' w.heap.size (fun k_ => some k_ ≠ (s_.1 : Value).ownBlock) s_.2 y262) ∧ (w'.heap[gb258]? = some (.cells #[.slice A0_0 l0_0.length c0_0] 42 (0, 0))) ∧ (Below w.heap.size w w')) ?_ ?_
      rotate_left
      · intro hCont
        refine two_ (i := 3) (j := 7) (Ni := some 13) (Nj := some 17) #[true, true, true, true, true, true, true, false, false, false] #[true, true, true, false, true, true, true, true, false, false] rfl rfl rfl rfl (two_of HT_.out (by kernel_rfl)) (by decide) (by decide) (fun K hK => ?_) (fun K hK => ?_)
        · skip
          refine Kd.R_make_step (Kd.int .i64) _ 3 (by rfl) (N := 13) rfl 83 _ _ rfl (l0_0.length : Int) rfl rfl Tryd.underlying83 (.int .i64 0) 8 info3 rfl (by decide) (by omega) 0 (ok := fun _ => True) (okp := fun _ => True) rfl (fun _ hk => hk) trivial (of_decide_eq_true (by first | (with_reducible assumption) | assumption)) (Nat.le_trans (Nat.mul_le_mul_right _ (of_decide_eq_true (by first | (with_reducible assumption) | assumption) : (l0_0.length : Int).toNat ≤ 35184372088832)) (by omega)) (Below.refl _ _) (Nat.le_refl _) ?_
          intro v260 w6 ho7 hb hg_ hnew_
          clear hg_ hnew_
          (first | rw [← Ny259.out] at ho7 | (simp only [Int.reduceToNat] at ho7; rw [← Ny259.out] at ho7))
          have n0_ := Aside0.mk (Kd.R_lower ho7 (below_size (by repeat (first | (with_reducible first | exact HB.out | apply below_alloc | apply pw_below_drewN | apply below_drew1 | refine below_set ?_ GE258.out) | exact HB.out))))
          have n1_ := Aside0.mk (blk_below (g := gb258) (o := .cells #[.slice A0_0 l0_0.length c0_0] 42 (0, 0)) (by (with_reducible repeat (first | refine blk_drewN ?_ _ | refine blk_drew ?_ | refine blk_alloc ?_ _)); exact BK258.out) hb)
          have n2_ := Aside0.mk (below_step (by repeat (first | (with_reducible first | exact HB.out | apply below_alloc | apply pw_below_drewN | apply below_drew1 | refine below_set ?_ GE258.out) | exact HB.out)) hb)
          clear BK258
          clear HB
          have HO261 := n0_
          have BK258 := n1_
          have HB := n2_
          clear n0_ n1_ n2_
          clear hb ho7
          refine hK.out _ _ ((blk_cell BK258.out 0).trans rfl) (fun hHeld => ?_)
          clear hK K
          refine norm_ (a' := ?_) ?_ ?_
          rotate_left
          · show Act.put _ (some 13) _ = _
            simp only [Act.put, List.setIfInBounds_toArray, List.set_cons_zero, List.set_cons_succ, i64_w, i32_w]
            rfl
          refine pure_ (i := 8) (N := some 4) (v := ?_) (a' := ?_) #[true, true, true, true, true, true, true, false, true, false] rfl rfl (any_of HT_.out (by kernel_rfl)) (fun _ _ _ h => h) (Or.inl ⟨by rfl, ?_⟩) ?_ ?_
          rotate_left
          · intro w'
            go_simp
            with_reducible rfl
          rotate_left
          · simp only [Act.put, List.setIfInBounds_toArray, List.set_cons_zero, List.set_cons_succ, i64_w, i32_w]
            rfl
          refine one_ (i := 7) (N := some 17) #[true, true, true, true, true, true, true, true, true, false] rfl rfl (one_of HT_.out (by kernel_rfl)) (by decide) (fun K hK => ?_)
          refine Kd.R_make_step (Kd.int .i64) _ 3 (by rfl) (N := 17) rfl 83 _ _ rfl (l0_0.length : Int) rfl rfl Tryd.underlying83 (.int .i64 0) 8 info3 rfl (by decide) (by omega) 0 (ok := fun _ => True) (okp := fun _ => True) rfl (fun _ hk => hk) trivial (of_decide_eq_true (by first | (with_reducible assumption) | assumption)) (Nat.le_trans (Nat.mul_le_mul_right _ (of_decide_eq_true (by first | (with_reducible assumption) | assumption) : (l0_0.length : Int).toNat ≤ 35184372088832)) (by omega)) (Below.refl _ _) (Nat.le_refl _) ?_
          intro v263 w8 ho9 hb hg_ hnew_
          clear hg_ hnew_
          (first | rw [← Ny262.out] at ho9 | (simp only [Int.reduceToNat] at ho9; rw [← Ny262.out] at ho9))
          have n0_ := Aside0.mk (Kd.R_elder' (by (with_reducible repeat (first | apply Kd.R_alloc | apply Kd.R_drewN | apply Kd.R_drew)); exact HO261.out) (Kd.R_base ho9) hb)
          have n1_ := Aside0.mk (Kd.R_lower (Kd.R_new' ho9 (Kd.R_lt (by (with_reducible repeat (first | apply Kd.R_alloc | apply Kd.R_drewN | apply Kd.R_drew)); exact HO261.out))) (below_size (by repeat (first | (with_reducible first | exact HB.out | apply below_alloc | apply pw_below_drewN | apply below_drew1 | refine below_set ?_ GE258.out) | exact HB.out))))
          have n2_ := Aside0.mk (blk_below (g := gb258) (o := .cells #[.slice A0_0 l0_0.length c0_0] 42 (0, 0)) (by (with_reducible repeat (first | refine blk_drewN ?_ _ | refine blk_drew ?_ | refine blk_alloc ?_ _)); exact BK258.out) hb)
          have n3_ := Aside0.mk (below_step (by repeat (first | (with_reducible first | exact HB.out | apply below_alloc | apply pw_below_drewN | apply below_drew1 | refine below_set ?_ GE258.out) | exact HB.out)) hb)
          clear HO261
          clear BK258
          clear HB
          have HO261 := n0_
          have HO264 := n1_
          have BK258 := n2_
          have HB := n3_
          clear n0_ n1_ n2_ n3_
          clear hb ho9
          refine hK.out _ _ ((blk_cell BK258.out 0).trans rfl) (fun hHeld => ?_)
          clear hK K
          refine norm_ (a' := ?_) ?_ ?_
          rotate_left
          · show Act.put _ (some 17) _ = _
            simp only [Act.put, List.setIfInBounds_toArray, List.set_cons_zero, List.set_cons_succ, i64_w, i32_w]
            rfl
          exact norm_ (by simp only [putAll, Act.put, List.setIfInBounds_toArray, List.set_cons_zero, List.set_cons_succ]) (hCont (v260, v263) _ ⟨hHeld, (by (with_reducible repeat (first | apply Kd.R_alloc | apply Kd.R_drewN | apply Kd.R_drew)); exact Kd.R_mono HO261.out (fun _ hk => hk.2)), (by (with_reducible repeat (first | apply Kd.R_alloc | apply Kd.R_drewN | apply Kd.R_drew)); exact Kd.R_mono HO264.out (fun _ hk => hk.2)), (by (with_reducible repeat (first | refine blk_drewN ?_ _ | refine blk_drew ?_ | refine blk_alloc ?_ _)); exact BK258.out), (by repeat (first | (with_reducible first | exact HB.out | apply below_alloc | apply pw_below_drewN | apply below_drew1 | refine below_set ?_ GE258.out) | exact HB.out))⟩)
        · skip
          refine Kd.R_make_step (Kd.int .i64) _ 3 (by rfl) (N := 17) rfl 83 _ _ rfl (l0_0.length : Int) rfl rfl Tryd.underlying83 (.int .i64 0) 8 info3 rfl (by decide) (by omega) 0 (ok := fun _ => True) (okp := fun _ => True) rfl (fun _ hk => hk) trivial (of_decide_eq_true (by first | (with_reducible assumption) | assumption)) (Nat.le_trans (Nat.mul_le_mul_right _ (of_decide_eq_true (by first | (with_reducible assumption) | assumption) : (l0_0.length : Int).toNat ≤ 35184372088832)) (by omega)) (Below.refl _ _) (Nat.le_refl _) ?_
          intro v263 w6 ho7 hb hg_ hnew_
          clear hg_ hnew_
          (first | rw [← Ny262.out] at ho7 | (simp only [Int.reduceToNat] at ho7; rw [← Ny262.out] at ho7))
          have n0_ := Aside0.mk (Kd.R_lower ho7 (below_size (by repeat (first | (with_reducible first | exact HB.out | apply below_alloc | apply pw_below_drewN | apply below_drew1 | refine below_set ?_ GE258.out) | exact HB.out))))
          have n1_ := Aside0.mk (blk_below (g := gb258) (o := .cells #[.slice A0_0 l0_0.length c0_0] 42 (0, 0)) (by (with_reducible repeat (first | refine blk_drewN ?_ _ | refine blk_drew ?_ | refine blk_alloc ?_ _)); exact BK258.out) hb)
          have n2_ := Aside0.mk (below_step (by repeat (first | (with_reducible first | exact HB.out | apply below_alloc | apply pw_below_drewN | apply below_drew1 | refine below_set ?_ GE258.out) | exact HB.out)) hb)
          clear BK258
          clear HB
          have HO264 := n0_
          have BK258 := n1_
          have HB := n2_
          clear n0_ n1_ n2_
          clear hb ho7
          refine hK.out _ _ ((blk_cell BK258.out 0).trans rfl) (fun hHeld => ?_)
          clear hK K
          refine norm_ (a' := ?_) ?_ ?_
          rotate_left
          · show Act.put _ (some 17) _ = _
            simp only [Act.put, List.setIfInBounds_toArray, List.set_cons_zero, List.set_cons_succ, i64_w, i32_w]
            rfl
          refine one_ (i := 3) (N := some 13) #[true, true, true, true, true, true, true, true, false, false] rfl rfl (one_of HT_.out (by kernel_rfl)) (by decide) (fun K hK => ?_)
          refine Kd.R_make_step (Kd.int .i64) _ 3 (by rfl) (N := 13) rfl 83 _ _ rfl (l0_0.length : Int) rfl rfl Tryd.underlying83 (.int .i64 0) 8 info3 rfl (by decide) (by omega) 0 (ok := fun _ => True) (okp := fun _ => True) rfl (fun _ hk => hk) trivial (of_decide_eq_true (by first | (with_reducible assumption) | assumption)) (Nat.le_trans (Nat.mul_le_mul_right _ (of_decide_eq_true (by first | (with_reducible assumption) | assumption) : (l0_0.length : Int).toNat ≤ 35184372088832)) (by omega)) (Below.refl _ _) (Nat.le_refl _) ?_
          intro v260 w8 ho9 hb hg_ hnew_
          clear hg_ hnew_
          (first | rw [← Ny259.out] at ho9 | (simp only [Int.reduceToNat] at ho9; rw [← Ny259.out] at ho9))
          have n0_ := Aside0.mk (Kd.R_elder' (by (with_reducible repeat (first | apply Kd.R_alloc | apply Kd.R_drewN | apply Kd.R_drew)); exact HO264.out) (Kd.R_base ho9) hb)
          have n1_ := Aside0.mk (Kd.R_lower (Kd.R_new' ho9 (Kd.R_lt (by (with_reducible repeat (first | apply Kd.R_alloc | apply Kd.R_drewN | apply Kd.R_drew)); exact HO264.out))) (below_size (by repeat (first | (with_reducible first | exact HB.out | apply below_alloc | apply pw_below_drewN | apply below_drew1 | refine below_set ?_ GE258.out) | exact HB.out))))
          have n2_ := Aside0.mk (blk_below (g := gb258) (o := .cells #[.slice A0_0 l0_0.length c0_0] 42 (0, 0)) (by (with_reducible repeat (first | refine blk_drewN ?_ _ | refine blk_drew ?_ | refine blk_alloc ?_ _)); exact BK258.out) hb)
          have n3_ := Aside0.mk (below_step (by repeat (first | (with_reducible first | exact HB.out | apply below_alloc | apply pw_below_drewN | apply below_drew1 | refine below_set ?_ GE258.out) | exact HB.out)) hb)
          clear HO264
          clear BK258
          clear HB
          have HO264 := n0_
          have HO261 := n1_
          have BK258 := n2_
          have HB := n3_
          clear n0_ n1_ n2_ n3_
          clear hb ho9
          refine hK.out _ _ ((blk_cell BK258.out 0).trans rfl) (fun hHeld => ?_)
          clear hK K
          refine norm_ (a' := ?_) ?_ ?_
          rotate_left
          · show Act.put _ (some 13) _ = _
            simp only [Act.put, List.setIfInBounds_toArray, List.set_cons_zero, List.set_cons_succ, i64_w, i32_w]
            rfl
          refine pure_ (i := 8) (N := some 4) (v := ?_) (a' := ?_) #[true, true, true, true, true, true, true, true, true, false] rfl rfl (any_of HT_.out (by kernel_rfl)) (fun _ _ _ h => h) (Or.inl ⟨by rfl, ?_⟩) ?_ ?_
          rotate_left
          · intro w'
            go_simp
            with_reducible rfl
          rotate_left
          · simp only [Act.put, List.setIfInBounds_toArray, List.set_cons_zero, List.set_cons_succ, i64_w, i32_w]
            rfl
          exact norm_ (by simp only [putAll, Act.put, List.setIfInBounds_toArray, List.set_cons_zero, List.set_cons_succ]) (hCont (v260, v263) _ ⟨hHeld, (by (with_reducible repeat (first | apply Kd.R_alloc | apply Kd.R_drewN | apply Kd.R_drew)); exact Kd.R_mono HO261.out (fun _ hk => hk.2)), (by (with_reducible repeat (first | apply Kd.R_alloc | apply Kd.R_drewN | apply Kd.R_drew)); exact Kd.R_mono HO264.out (fun _ hk => hk.2)), (by (with_reducible repeat (first | refine blk_drewN ?_ _ | refine blk_drew ?_ | refine blk_alloc ?_ _)); exact BK258.out), (by repeat (first | (with_reducible first | exact HB.out | apply below_alloc | apply pw_below_drewN | apply below_drew1 | refine below_set ?_ GE258.out) | exact HB.out))⟩)
      rintro ⟨v260, v263⟩ w10 ⟨hS_, h0_, h1_, h2_, h3_⟩
      have n0_ : Aside0 (Kd.R (Kd.int .i64) 3 w10 w.heap.size (fun k_ => some k_ ≠ (v263 : Value).ownBlock) v260 y259) := ⟨h0_⟩
      have n1_ : Aside0 (Kd.R (Kd.int .i64) 3 w10 w.heap.size (fun k_ => some k_ ≠ (v260 : Value).ownBlock) v263 y262) := ⟨h1_⟩
      have n2_ : Aside0 (w10.heap[gb258]? = some (.cells #[.slice A0_0 l0_0.length c0_0] 42 (0, 0))) := ⟨h2_⟩
      have n3_ : Aside0 (Below w.heap.size w w10) := ⟨h3_⟩
      clear BK258
      clear HB
      clear h0_ h1_ h2_ h3_
      have HO261 := n0_
      have HO264 := n1_
      have BK258 := n2_
      have HB := n3_
      clear n0_ n1_ n2_ n3_
      have hHeld : w10.cell? ⟨gb258, 0, none⟩ = some (.slice A0_0 l0_0.length c0_0) := hS_
      refine norm_ (a' := ?_) ?_ ?_
      rotate_left
      · simp only [putAll, Act.put, List.setIfInBounds_toArray, List.set_cons_zero, List.set_cons_succ]
        rfl
      refine pure_ (i := 9) (N := some 5) (v := ?_) (a' := ?_) #[true, true, true, true, true, true, true, true, true, true] rfl rfl (any_of HT_.out (by kernel_rfl)) (fun _ _ _ h => h) (Or.inl ⟨by rfl, ?_⟩) ?_ ?_
      rotate_left
      · intro w'
        go_simp
        with_reducible rfl
      rotate_left
      · simp only [Act.put, List.setIfInBounds_toArray, List.set_cons_zero, List.set_cons_succ, i64_w, i32_w]
        rfl
      refine done_ (done_of HT_.out (by kernel_rfl)) ?_
      have hcz11_0 : w10.cell? ⟨gb258, 0, none⟩ = some (.slice A0_0 l0_0.length c0_0) := (blk_cell BK258.out 0).trans rfl
      have hfz11_0 := blk_frozen BK258.out 0
      try go_wp2
      go_loopg [21] k (fun kq v21 w' => ∃ (x4_1 : List Int) (x5_1 : List Int) (x21_1 : Int), v21 = .int .i64 x21_1 ∧ Aside0 (tree_links.l0 kq x4_1 x5_1 l0_0 (l0_0.length : Int) x21_1 l0_0 = some (r1, r2)) ∧ Aside0 (kq ≤ k) ∧ Aside0 (Kd.R (Kd.int .i64) 3 w' w.heap.size (fun k_ => some k_ ≠ (v263 : Value).ownBlock) v260 x4_1) ∧ Aside0 (Kd.R (Kd.int .i64) 3 w' w.heap.size (fun k_ => some k_ ≠ (v260 : Value).ownBlock) v263 x5_1) ∧ Aside0 (w'.heap[gb258]? = some (.cells #[(.slice A0_0 l0_0.length c0_0)] 42 (0, 0))) ∧ Aside0 (Below w.heap.size w w'))
      case atStart => exact ⟨(y259), (y262), (0), (by first | rfl | (simp; done) | (simp [*]; done)), H', ⟨Nat.le_refl _⟩, ⟨by (with_reducible repeat (first | apply Kd.R_alloc | apply Kd.R_drewN | apply Kd.R_drew)); exact HO261.out⟩, ⟨by (with_reducible repeat (first | apply Kd.R_alloc | apply Kd.R_drewN | apply Kd.R_drew)); exact HO264.out⟩, ⟨by (with_reducible repeat (first | refine blk_drewN ?_ _ | refine blk_drew ?_ | refine blk_alloc ?_ _)); exact BK258.out⟩, ⟨by repeat (first | (with_reducible first | exact HB.out | apply below_alloc | apply pw_below_drewN | apply below_drew1 | refine below_set ?_ GE258.out) | exact HB.out)⟩⟩
      case round =>
        clear H'
        try clear c2
        try clear c2b0
        try clear c2b1
        try clear p2
        try clear c3
        try clear c3b0
        try clear c3b1
        try clear c5
        try clear hcz11_0
        try clear hfz11_0
        obtain ⟨x4_1, x5_1, x21_1, rfl, HA, HK1, HO_4, HO_5, BK258, HB⟩ := hrel
        cases gk with
        | zero => exact absurd HA.out (by simp [tree_links.l0])
        | succ k1 =>
          have H := HA.out
          clear HA
          simp only [tree_links.l0] at H
          by_cases c12 : x21_1 < (l0_0.length : Int)
          · rw [if_pos c12] at H
            have c12b0 : decide (x21_1 < (l0_0.length : Int)) = true := decide_eq_true c12
            clear c12
            by_cases c13 : 0 ≤ x21_1
            · rw [if_pos c13] at H
              have c13b0 : decide (0 ≤ x21_1) = true := decide_eq_true c13
              clear c13
              by_cases c14 : x21_1 < (l0_0.length : Int)
              · rw [if_pos c14] at H
                have c14b0 : decide (x21_1 < (l0_0.length : Int)) = true := decide_eq_true c14
                clear c14
                have HC15 := Aside0.mk H
                clear H
                have p265 : 0 ≤ (x21_1 : Int) := of_decide_eq_true (by first | (with_reducible assumption) | assumption)
                have q265 : x21_1 < (l0_0.length : Int) := of_decide_eq_true (by first | (with_reducible assumption) | assumption)
                obtain ⟨ad265, A265_2, c265_2, A265_3, c265_3, e265, hx265_0, hx265_1, hx265_2, hx265_3, hl265_2, hi265_2, hl265_3, hi265_3⟩ := at_T58 HR0_0.out x21_1 p265 q265
                cases e265
                replace hx265_0 := (HB.out.cell (World.block_lt_of_cell? w _ hx265_0)).trans hx265_0
                replace hx265_1 := (HB.out.cell (World.block_lt_of_cell? w _ hx265_1)).trans hx265_1
                replace hx265_2 := (HB.out.cell (World.block_lt_of_cell? w _ hx265_2)).trans hx265_2
                replace hx265_3 := (HB.out.cell (World.block_lt_of_cell? w _ hx265_3)).trans hx265_3
                have HR265_2 := Aside0.mk hi265_2
                have HC265_2 := Aside0.mk hl265_2
                clear hi265_2 hl265_2
                have HR265_3 := Aside0.mk hi265_3
                have HC265_3 := Aside0.mk hl265_3
                clear hi265_3 hl265_3
                replace p265 := eq_true p265
                replace q265 := eq_true q265
                go_upto_if 28 with (first | ((with_reducible refine gate_dst (N := 7) rfl ?_); refine box_event ?hg (N := 7) ?hd (cs := #[.int .i64 0, .int .i64 0, .slice none 0 0, .slice none 0 0]) (t := 58) ?hr ?_; (case hd => rfl); (case hg => rfl); (case hr => first | (go_simp; done) | (go_simp; rfl)); intro gb266 hg w16 hbox hb; have n0_ := Aside0.mk (Kd.R_below (by (with_reducible repeat (first | apply Kd.R_alloc | apply Kd.R_drewN | apply Kd.R_drew)); exact HO_4.out) hb); have n1_ := Aside0.mk (Kd.R_below (by (with_reducible repeat (first | apply Kd.R_alloc | apply Kd.R_drewN | apply Kd.R_drew)); exact HO_5.out) hb); have n2_ := Aside0.mk (blk_below (g := gb258) (o := .cells #[.slice (some ad265) l0_0.length c0_0] 42 (0, 0)) (by (with_reducible repeat (first | refine blk_drewN ?_ _ | refine blk_drew ?_ | refine blk_alloc ?_ _)); exact BK258.out) hb); have n3_ := Aside0.mk (below_step (by repeat (first | (with_reducible first | exact HB.out | apply below_alloc | apply pw_below_drewN | apply below_drew1 | refine below_set ?_ GE258.out) | exact HB.out)) hb); have n4_ := Aside0.mk (hbox); have n5_ := Aside0.mk ((by rw [hg]; exact (below_size (by repeat (first | (with_reducible first | exact HB.out | apply below_alloc | apply pw_below_drewN | apply below_drew1 | refine below_set ?_ GE258.out) | exact HB.out))) : w.heap.size ≤ gb266)); have n6_ := Aside0.mk ((by rw [hg]; exact (below_size (by repeat (first | (with_reducible first | exact HB.out | apply below_alloc | apply pw_below_drewN | apply below_drew1 | refine below_set ?_ GE258.out) | exact HB.out))) : w.heap.size ≤ gb266)); have n7_ := Aside0.mk ((by rw [hg]; exact Nat.ne_of_lt (blk_lt (g := gb258) (o := .cells #[.slice (some ad265) l0_0.length c0_0] 42 (0, 0)) (by (with_reducible repeat (first | refine blk_drewN ?_ _ | refine blk_drew ?_ | refine blk_alloc ?_ _)); exact BK258.out)) : gb258 ≠ gb266)); have n8_ := Aside0.mk ((by rw [hg]; exact Nat.ne_of_gt (blk_lt (g := gb258) (o := .cells #[.slice (some ad265) l0_0.length c0_0] 42 (0, 0)) (by (with_reducible repeat (first | refine blk_drewN ?_ _ | refine blk_drew ?_ | refine blk_alloc ?_ _)); exact BK258.out)) : gb266 ≠ gb258)); clear HO_4; clear HO_5; clear BK258; clear HB; have HO_4 := n0_; have HO_5 := n1_; have BK258 := n2_; have HB := n3_; have BK266 := n4_; have GW266 := n5_; have GE266 := n6_; have NB258_266 := n7_; have NB266_258 := n8_; clear n0_ n1_ n2_ n3_ n4_ n5_ n6_ n7_ n8_; clear hb hbox hg; have hnb17 := NB266_258.out; have hnc17 := NB258_266.out; have hcz18_0 : w16.cell? ⟨gb266, 0, none⟩ = some (.int .i64 0) := (blk_cell BK266.out 0).trans rfl; have hcz18_1 : w16.cell? ⟨gb266, 1, none⟩ = some (.int .i64 0) := (blk_cell BK266.out 1).trans rfl; have hcz18_2 : w16.cell? ⟨gb266, 2, none⟩ = some (.slice none 0 0) := (blk_cell BK266.out 2).trans rfl; have hcz18_3 : w16.cell? ⟨gb266, 3, none⟩ = some (.slice none 0 0) := (blk_cell BK266.out 3).trans rfl; have hfz18_0 := blk_frozen BK266.out 0; have hfz18_1 := blk_frozen BK266.out 1; have hfz18_2 := blk_frozen BK266.out 2; have hfz18_3 := blk_frozen BK266.out 3) | ((with_reducible refine gate_store (t := 58) (p := 7) rfl ?_); refine store_event (t := 58) (p := 7) (v := ?vo_w19) (w1 := ((((w16.setCell ⟨gb266, 0, none⟩ (.int .i64 ((rd_T58 l0_0 x21_1).f0))).setCell ⟨gb266, 1, none⟩ (.int .i64 ((rd_T58 l0_0 x21_1).f1))).setCell ⟨gb266, 2, none⟩ (.slice A265_2 ((rd_T58 l0_0 x21_1).f2).length c265_2)).setCell ⟨gb266, 3, none⟩ (.slice A265_3 ((rd_T58 l0_0 x21_1).f3).length c265_3))) ?hg ?ho ?hn ?hr ?_; (case ho => rfl); (case hg => rfl); (case hn => rfl); (case hr => first | (go_simp; done) | (go_simp; rfl)); intro w19 hw; have n0_ : Aside0 (Kd.R (Kd.int .i64) 3 w19 w.heap.size (fun k_ => some k_ ≠ (v263 : Value).ownBlock) v260 x4_1) := ⟨(by rw [hw]; exact (by (with_reducible repeat (first | apply Kd.R_alloc | apply Kd.R_drewN | apply Kd.R_drew)); exact Kd.R_mono (Kd.R_far (p := ⟨gb266, 3, none⟩) (Kd.R_far (p := ⟨gb266, 2, none⟩) (Kd.R_far (p := ⟨gb266, 1, none⟩) (Kd.R_far (p := ⟨gb266, 0, none⟩) (Kd.R_types HO_4.out BK266.out (by decide)) (fun _ hk => hk.2) (.int .i64 ((rd_T58 l0_0 x21_1).f0))) (fun _ hk => hk.2) (.int .i64 ((rd_T58 l0_0 x21_1).f1))) (fun _ hk => hk.2) (.slice A265_2 ((rd_T58 l0_0 x21_1).f2).length c265_2)) (fun _ hk => hk.2) (.slice A265_3 ((rd_T58 l0_0 x21_1).f3).length c265_3)) (fun _ hk => hk.1)))⟩; have n1_ : Aside0 (Kd.R (Kd.int .i64) 3 w19 w.heap.size (fun k_ => some k_ ≠ (v260 : Value).ownBlock) v263 x5_1) := ⟨(by rw [hw]; exact (by (with_reducible repeat (first | apply Kd.R_alloc | apply Kd.R_drewN | apply Kd.R_drew)); exact Kd.R_mono (Kd.R_far (p := ⟨gb266, 3, none⟩) (Kd.R_far (p := ⟨gb266, 2, none⟩) (Kd.R_far (p := ⟨gb266, 1, none⟩) (Kd.R_far (p := ⟨gb266, 0, none⟩) (Kd.R_types HO_5.out BK266.out (by decide)) (fun _ hk => hk.2) (.int .i64 ((rd_T58 l0_0 x21_1).f0))) (fun _ hk => hk.2) (.int .i64 ((rd_T58 l0_0 x21_1).f1))) (fun _ hk => hk.2) (.slice A265_2 ((rd_T58 l0_0 x21_1).f2).length c265_2)) (fun _ hk => hk.2) (.slice A265_3 ((rd_T58 l0_0 x21_1).f3).length c265_3)) (fun _ hk => hk.1)))⟩; have n2_ : Aside0 (w19.heap[gb258]? = some (.cells #[.slice (some ad265) l0_0.length c0_0] 42 (0, 0))) := ⟨(by rw [hw]; exact (by (with_reducible repeat (first | refine blk_drewN ?_ _ | refine blk_drew ?_ | refine blk_alloc ?_ _)); refine blk_far ?_ NB258_266.out _; (with_reducible repeat (first | refine blk_drewN ?_ _ | refine blk_drew ?_ | refine blk_alloc ?_ _)); refine blk_far ?_ NB258_266.out _; (with_reducible repeat (first | refine blk_drewN ?_ _ | refine blk_drew ?_ | refine blk_alloc ?_ _)); refine blk_far ?_ NB258_266.out _; (with_reducible repeat (first | refine blk_drewN ?_ _ | refine blk_drew ?_ | refine blk_alloc ?_ _)); refine blk_far ?_ NB258_266.out _; (with_reducible repeat (first | refine blk_drewN ?_ _ | refine blk_drew ?_ | refine blk_alloc ?_ _)); exact BK258.out))⟩; have n3_ : Aside0 (w19.heap[gb266]? = some (.cells #[.int .i64 ((rd_T58 l0_0 x21_1).f0), .int .i64 ((rd_T58 l0_0 x21_1).f1), .slice A265_2 ((rd_T58 l0_0 x21_1).f2).length c265_2, .slice A265_3 ((rd_T58 l0_0 x21_1).f3).length c265_3] 58 (0, 0))) := ⟨(by rw [hw]; exact (by (with_reducible repeat (first | refine blk_drewN ?_ _ | refine blk_drew ?_ | refine blk_alloc ?_ _)); refine blk_put (cs := #[.int .i64 ((rd_T58 l0_0 x21_1).f0), .int .i64 ((rd_T58 l0_0 x21_1).f1), .slice A265_2 ((rd_T58 l0_0 x21_1).f2).length c265_2, .slice none 0 0]) ?_ 3 _ rfl; (with_reducible repeat (first | refine blk_drewN ?_ _ | refine blk_drew ?_ | refine blk_alloc ?_ _)); refine blk_put (cs := #[.int .i64 ((rd_T58 l0_0 x21_1).f0), .int .i64 ((rd_T58 l0_0 x21_1).f1), .slice none 0 0, .slice none 0 0]) ?_ 2 _ rfl; (with_reducible repeat (first | refine blk_drewN ?_ _ | refine blk_drew ?_ | refine blk_alloc ?_ _)); refine blk_put (cs := #[.int .i64 ((rd_T58 l0_0 x21_1).f0), .int .i64 0, .slice none 0 0, .slice none 0 0]) ?_ 1 _ rfl; (with_reducible repeat (first | refine blk_drewN ?_ _ | refine blk_drew ?_ | refine blk_alloc ?_ _)); refine blk_put (cs := #[.int .i64 0, .int .i64 0, .slice none 0 0, .slice none 0 0]) ?_ 0 _ rfl; (with_reducible repeat (first | refine blk_drewN ?_ _ | refine blk_drew ?_ | refine blk_alloc ?_ _)); exact BK266.out))⟩; have n4_ : Aside0 (Below w.heap.size w w19) := ⟨(by rw [hw]; exact (by repeat (first | (with_reducible first | exact HB.out | apply below_alloc | apply pw_below_drewN | apply below_drew1 | refine below_set ?_ GE258.out | refine below_set ?_ GE266.out) | exact HB.out)))⟩; clear hw; clear HO_4; clear HO_5; clear BK258; clear BK266; clear HB; have HO_4 := n0_; have HO_5 := n1_; have BK258 := n2_; have BK266 := n3_; have HB := n4_; clear n0_ n1_ n2_ n3_ n4_; have hcz20_0 : w19.cell? ⟨gb266, 0, none⟩ = some (.int .i64 ((rd_T58 l0_0 x21_1).f0)) := (blk_cell BK266.out 0).trans rfl; have hcz20_1 : w19.cell? ⟨gb266, 1, none⟩ = some (.int .i64 ((rd_T58 l0_0 x21_1).f1)) := (blk_cell BK266.out 1).trans rfl; have hcz20_2 : w19.cell? ⟨gb266, 2, none⟩ = some (.slice A265_2 ((rd_T58 l0_0 x21_1).f2).length c265_2) := (blk_cell BK266.out 2).trans rfl; have hcz20_3 : w19.cell? ⟨gb266, 3, none⟩ = some (.slice A265_3 ((rd_T58 l0_0 x21_1).f3).length c265_3) := (blk_cell BK266.out 3).trans rfl; have hfz20_0 := blk_frozen BK266.out 0; have hfz20_1 := blk_frozen BK266.out 1; have hfz20_2 := blk_frozen BK266.out 2; have hfz20_3 := blk_frozen BK266.out 3))
                (try simp only [Act.put, List.setIfInBounds_toArray, List.set_cons_zero, List.set_cons_succ])
                go_cut [] (fun wc => ∃ (kq : Nat) (x4_14 : List Int), Aside0 (tree_links.j1 kq x4_14 x5_1 x21_1 l0_0 (l0_0.length : Int) x21_1 l0_0 ((rd_T58 l0_0 x21_1).f0) ((rd_T58 l0_0 x21_1).f1) ((rd_T58 l0_0 x21_1).f2) ((rd_T58 l0_0 x21_1).f3) = some (r1, r2)) ∧ Aside0 (kq ≤ k1) ∧ Aside0 (Kd.R (Kd.int .i64) 3 wc w.heap.size (fun k_ => some k_ ≠ (v263 : Value).ownBlock) v260 x4_14) ∧ Aside0 (Kd.R (Kd.int .i64) 3 wc w.heap.size (fun k_ => some k_ ≠ (v260 : Value).ownBlock) v263 x5_1) ∧ Aside0 (wc.heap[gb258]? = some (.cells #[(.slice (some ad265) l0_0.length c0_0)] 42 (0, 0))) ∧ Aside0 (wc.heap[gb266]? = some (.cells #[.int .i64 ((rd_T58 l0_0 x21_1).f0), .int .i64 ((rd_T58 l0_0 x21_1).f1), (.slice A265_2 ((rd_T58 l0_0 x21_1).f2).length c265_2), (.slice A265_3 ((rd_T58 l0_0 x21_1).f3).length c265_3)] 58 (0, 0))) ∧ Aside0 (Below w.heap.size w wc))
                case first =>
                  have H := HC15.out
                  clear HC15
                  by_cases c21 : ((rd_T58 l0_0 x21_1).f0) = 2
                  · rw [if_pos c21] at H
                    have c21b0 : (((rd_T58 l0_0 x21_1).f0) == 2) = true := beq_iff_eq.mpr c21
                    have c21b1 : (((rd_T58 l0_0 x21_1).f0) != 2) = false := bne_eq_false_iff_eq.mpr c21
                    clear c21
                    (first | rw [c21b0] | (simp only [i64_w, i32_w]; rw [c21b0]) | skip)
                    by_cases c22 : x21_1 < (x4_1.length : Int)
                    · rw [if_pos c22] at H
                      have c22b0 : decide (x21_1 < (x4_1.length : Int)) = true := decide_eq_true c22
                      clear c22
                      obtain ⟨y268, hy268⟩ : ∃ y_ : List Int, y_ = (x4_1.set (x21_1 : Int).toNat (wrap64 ((rd x4_1 x21_1) + 2))) := ⟨_, rfl⟩
                      replace H : (tree_links.j1 k1 y268 x5_1 x21_1 l0_0 (l0_0.length : Int) x21_1 l0_0 ((rd_T58 l0_0 x21_1).f0) ((rd_T58 l0_0 x21_1).f1) ((rd_T58 l0_0 x21_1).f2) ((rd_T58 l0_0 x21_1).f3)) = some (r1, r2) := by first | (rw [hy268]; with_reducible exact H) | (have H2_ := (Option.bind_some _ _).symm.trans H; rw [hy268]; with_reducible exact H2_) | (have H2_ := (Option.bind_some _ _).symm.trans H; with_reducible exact H2_) | with_reducible exact H | (rw [hy268]; exact H) | exact H
                      have Ny268 := Aside0.mk hy268
                      clear hy268
                      have H' := Aside0.mk H
                      clear H
                      obtain ⟨Ao24, co24, eo24⟩ := Kd.R_slice HO_4.out
                      subst eo24
                      have p267 : 0 ≤ (x21_1 : Int) := of_decide_eq_true (by first | (with_reducible assumption) | assumption)
                      have q267 : x21_1 < (x4_1.length : Int) := of_decide_eq_true (by first | (with_reducible assumption) | assumption)
                      obtain ⟨ad267, e267, hx267_0⟩ := Kd.at_int (Kd.R_reads' HO_4.out).2.2 x21_1 p267 q267
                      cases e267
                      replace p267 := eq_true p267
                      replace q267 := eq_true q267
                      have p23 : 0 ≤ (x21_1 : Int) := of_decide_eq_true (by first | (with_reducible assumption) | assumption)
                      have q23 : (x21_1 : Int) < ((x4_1.length : Int) : Int) := of_decide_eq_true (by first | (with_reducible assumption) | assumption)
                      obtain ⟨go23, co23, eo23, gb23, gl23, cl23, HG23⟩ := Kd.R_form HO_4.out (by omega)
                      (first | cases eo23 | (injection eo23 with ea_ en_ ec_; (first | subst ea_ | (injection ea_ with ea_; subst ea_)); subst ec_; clear en_))
                      have GB23 := Aside0.mk gb23
                      have GG23 := Aside0.mk HG23
                      clear gb23 gl23 HG23
                      (first | simp only [add_plain] at hx267_0 | skip)
                      obtain ⟨hx23_0, hf23_0⟩ := Kd.R_celln 0 HO_4.out (x21_1 : Int) p23 q23
                      replace p23 := eq_true p23
                      replace q23 := eq_true q23
                      have HP25 := Kd.R_putg HO_4.out (x21_1 : Int) (wrap64 ((rd x4_1 x21_1) + 2))
                      go_wp2_with (first | ((with_reducible refine gate_store (t := 3) (p := 34) rfl ?_); refine store_event (t := 3) (p := 34) (v := ?vo_w26) (w1 := (w19.setCell ⟨go23, (x21_1 : Int).toNat, none⟩ (.int .i64 (wrap64 ((rd x4_1 x21_1) + 2))))) ?hg ?ho ?hn ?hr ?_; (case ho => rfl); (case hg => rfl); (case hn => rfl); (case hr => first | (go_simp; done) | (go_simp; rfl)); intro w26 hw; have hg : w19.grownBy w26 (some go23) := (by rw [hw]; exact HP25.2); have hp_ : Kd.R (Kd.int .i64) 3 w26 w.heap.size (fun k_ => some k_ ≠ (v263 : Value).ownBlock) (.slice (some ⟨go23, 0, none⟩) x4_1.length co24) y268 := (by rw [hw, Ny268.out]; exact HP25.1); clear HP25; have n0_ := Aside0.mk (hp_); have n1_ := Aside0.mk (Kd.R_after (v := (.slice (some ⟨go23, 0, none⟩) x4_1.length co24)) (v1 := (.slice (some ⟨go23, 0, none⟩) x4_1.length co24)) (ok := (fun _ => True)) (by (with_reducible repeat (first | apply Kd.R_alloc | apply Kd.R_drewN | apply Kd.R_drew)); exact Kd.R_mono HO_5.out (fun _ hk => ⟨trivial, hk⟩)) hg (.inl rfl)); have n2_ := Aside0.mk (blk_grown (g := gb258) (o := .cells #[.slice (some ad265) l0_0.length c0_0] 42 (0, 0)) (by (with_reducible repeat (first | refine blk_drewN ?_ _ | refine blk_drew ?_ | refine blk_alloc ?_ _)); exact BK258.out) hg (Kd.R_ne HO_4.out BK258.out (by decide))); have n3_ := Aside0.mk (blk_grown (g := gb266) (o := .cells #[.int .i64 ((rd_T58 l0_0 x21_1).f0), .int .i64 ((rd_T58 l0_0 x21_1).f1), .slice A265_2 ((rd_T58 l0_0 x21_1).f2).length c265_2, .slice A265_3 ((rd_T58 l0_0 x21_1).f3).length c265_3] 58 (0, 0)) (by (with_reducible repeat (first | refine blk_drewN ?_ _ | refine blk_drew ?_ | refine blk_alloc ?_ _)); exact BK266.out) hg (Kd.R_ne HO_4.out BK266.out (by decide))); have n4_ := Aside0.mk ((by rw [hw]; exact below_set (HB.out) GB23.out : Below w.heap.size w w26)); clear HO_4; clear HO_5; clear BK258; clear BK266; clear HB; have HO_4 := n0_; have HO_5 := n1_; have BK258 := n2_; have BK266 := n3_; have HB := n4_; clear n0_ n1_ n2_ n3_ n4_; clear hg hw hp_))
                      go_meet
                      case rel => exact ⟨_, (y268), H', ⟨by have := HK1.out; first | omega | exact Nat.le_refl _⟩, ⟨by (with_reducible repeat (first | apply Kd.R_alloc | apply Kd.R_drewN | apply Kd.R_drew)); exact HO_4.out⟩, ⟨by (with_reducible repeat (first | apply Kd.R_alloc | apply Kd.R_drewN | apply Kd.R_drew)); exact Kd.R_mono HO_5.out (fun _ hk => hk.2)⟩, ⟨by (with_reducible repeat (first | refine blk_drewN ?_ _ | refine blk_drew ?_ | refine blk_alloc ?_ _)); exact BK258.out⟩, ⟨by (with_reducible repeat (first | refine blk_drewN ?_ _ | refine blk_drew ?_ | refine blk_alloc ?_ _)); exact BK266.out⟩, ⟨by repeat (first | (with_reducible first | exact HB.out | apply below_alloc | apply pw_below_drewN | apply below_drew1 | refine below_set ?_ GE258.out | refine below_set ?_ GE266.out) | exact HB.out)⟩⟩
                    · rw [if_neg c22] at H
                      exact absurd H (by simp)
                  · rw [if_neg c21] at H
                    have c21b0 : (((rd_T58 l0_0 x21_1).f0) == 2) = false := beq_eq_false_iff_ne.mpr c21
                    have c21b1 : (((rd_T58 l0_0 x21_1).f0) != 2) = true := bne_iff_ne.mpr c21
                    (first | rw [c21b0] | (simp only [i64_w, i32_w]; rw [c21b0]) | skip)
                    have H' := Aside0.mk H
                    clear H
                    go_wp2
                    go_meet
                    case rel => exact ⟨_, (x4_1), H', ⟨by have := HK1.out; first | omega | exact Nat.le_refl _⟩, ⟨by (with_reducible repeat (first | apply Kd.R_alloc | apply Kd.R_drewN | apply Kd.R_drew)); exact HO_4.out⟩, ⟨by (with_reducible repeat (first | apply Kd.R_alloc | apply Kd.R_drewN | apply Kd.R_drew)); exact HO_5.out⟩, ⟨by (with_reducible repeat (first | refine blk_drewN ?_ _ | refine blk_drew ?_ | refine blk_alloc ?_ _)); exact BK258.out⟩, ⟨by (with_reducible repeat (first | refine blk_drewN ?_ _ | refine blk_drew ?_ | refine blk_alloc ?_ _)); exact BK266.out⟩, ⟨by repeat (first | (with_reducible first | exact HB.out | apply below_alloc | apply pw_below_drewN | apply below_drew1 | refine below_set ?_ GE258.out | refine below_set ?_ GE266.out) | exact HB.out)⟩⟩
                case rest =>
                  clear HC15
                  try clear c1
                  try clear c2
                  try clear c2b0
                  try clear c2b1
                  try clear p2
                  try clear q2
                  try clear hx2
                  try clear hf2
                  try clear c3
                  try clear c3b0
                  try clear c3b1
                  try clear c5
                  try clear p6
                  try clear c12
                  try clear c12b0
                  try clear c13
                  try clear c13b0
                  try clear c14
                  try clear c14b0
                  try clear c17
                  try clear c21
                  try clear c21b0
                  try clear c21b1
                  try clear c22
                  try clear c22b0
                  try clear p23
                  try clear q23
                  try clear hx23
                  try clear hf23
                  try clear c26
                  try clear p26
                  try clear q26
                  try clear hx26
                  try clear hcz11_0
                  try clear hcz18_0
                  try clear hcz18_1
                  try clear hcz18_2
                  try clear hcz18_3
                  try clear hcz20_0
                  try clear hcz20_1
                  try clear hcz20_2
                  try clear hcz20_3
                  try clear hfz11_0
                  try clear hfz18_0
                  try clear hfz18_1
                  try clear hfz18_2
                  try clear hfz18_3
                  try clear hfz20_0
                  try clear hfz20_1
                  try clear hfz20_2
                  try clear hfz20_3
                  try clear hx23_0
                  try clear hx265_0
                  try clear hx265_1
                  try clear hx265_2
                  try clear hx265_3
                  try clear hx267_0
                  try clear p2
                  try clear p23
                  try clear p265
                  try clear p267
                  try clear q23
                  try clear q265
                  try clear q267
                  obtain ⟨kq, x4_14, HA, HJ14, HO_4, HO_5, BK258, BK266, HB⟩ := hcut
                  cases kq with
                  | zero => exact absurd HA.out (by simp [tree_links.j1])
                  | succ kj14 =>
                    have H := HA.out
                    clear HA
                    simp only [tree_links.j1] at H
                    have H' := Aside0.mk H
                    clear H
                    have hnb27 := NB266_258.out
                    have hnc27 := NB258_266.out
                    have hcz28_0 : wc.cell? ⟨gb266, 0, none⟩ = some (.int .i64 ((rd_T58 l0_0 x21_1).f0)) := (blk_cell BK266.out 0).trans rfl
                    have hcz28_1 : wc.cell? ⟨gb266, 1, none⟩ = some (.int .i64 ((rd_T58 l0_0 x21_1).f1)) := (blk_cell BK266.out 1).trans rfl
                    have hcz28_2 : wc.cell? ⟨gb266, 2, none⟩ = some (.slice A265_2 ((rd_T58 l0_0 x21_1).f2).length c265_2) := (blk_cell BK266.out 2).trans rfl
                    have hcz28_3 : wc.cell? ⟨gb266, 3, none⟩ = some (.slice A265_3 ((rd_T58 l0_0 x21_1).f3).length c265_3) := (blk_cell BK266.out 3).trans rfl
                    have hfz28_0 := blk_frozen BK266.out 0
                    have hfz28_1 := blk_frozen BK266.out 1
                    have hfz28_2 := blk_frozen BK266.out 2
                    have hfz28_3 := blk_frozen BK266.out 3
                    go_wp2
                    go_loopg [38] kj14 (fun kq v38 w' => ∃ (x4_3 : List Int) (x5_3 : List Int) (x38_3 : Int), v38 = .int .i64 x38_3 ∧ Aside0 (tree_links.l1 kq x4_3 x5_3 x21_1 l0_0 (l0_0.length : Int) x21_1 ((rd_T58 l0_0 x21_1).f3) (((rd_T58 l0_0 x21_1).f3).length : Int) x38_3 l0_0 = some (r1, r2)) ∧ Aside0 (kq ≤ kj14) ∧ Aside0 (Kd.R (Kd.int .i64) 3 w' w.heap.size (fun k_ => some k_ ≠ (v263 : Value).ownBlock) v260 x4_3) ∧ Aside0 (Kd.R (Kd.int .i64) 3 w' w.heap.size (fun k_ => some k_ ≠ (v260 : Value).ownBlock) v263 x5_3) ∧ Aside0 (w'.heap[gb258]? = some (.cells #[(.slice (some ad265) l0_0.length c0_0)] 42 (0, 0))) ∧ Aside0 (w'.heap[gb266]? = some (.cells #[.int .i64 ((rd_T58 l0_0 x21_1).f0), .int .i64 ((rd_T58 l0_0 x21_1).f1), (.slice A265_2 ((rd_T58 l0_0 x21_1).f2).length c265_2), (.slice A265_3 ((rd_T58 l0_0 x21_1).f3).length c265_3)] 58 (0, 0))) ∧ Aside0 (Below w.heap.size w w'))
                    case atStart => exact ⟨(x4_14), (x5_1), (0), (by first | rfl | (simp; done) | (simp [*]; done)), H', ⟨Nat.le_refl _⟩, ⟨by (with_reducible repeat (first | apply Kd.R_alloc | apply Kd.R_drewN | apply Kd.R_drew)); exact HO_4.out⟩, ⟨by (with_reducible repeat (first | apply Kd.R_alloc | apply Kd.R_drewN | apply Kd.R_drew)); exact HO_5.out⟩, ⟨by (with_reducible repeat (first | refine blk_drewN ?_ _ | refine blk_drew ?_ | refine blk_alloc ?_ _)); exact BK258.out⟩, ⟨by (with_reducible repeat (first | refine blk_drewN ?_ _ | refine blk_drew ?_ | refine blk_alloc ?_ _)); exact BK266.out⟩, ⟨by repeat (first | (with_reducible first | exact HB.out | apply below_alloc | apply pw_below_drewN | apply below_drew1 | refine below_set ?_ GE258.out | refine below_set ?_ GE266.out) | exact HB.out)⟩⟩
                    case round =>
                      clear H'
                      try clear c1
                      try clear c2
                      try clear c2b0
                      try clear c2b1
                      try clear p2
                      try clear q2
                      try clear hx2
                      try clear hf2
                      try clear c3
                      try clear c3b0
                      try clear c3b1
                      try clear c5
                      try clear p6
                      try clear c12
                      try clear c12b0
                      try clear c13
                      try clear c13b0
                      try clear c14
                      try clear c14b0
                      try clear c17
                      try clear c21
                      try clear c21b0
                      try clear c21b1
                      try clear c22
                      try clear c22b0
                      try clear p23
                      try clear q23
                      try clear hx23
                      try clear hf23
                      try clear c26
                      try clear p26
                      try clear q26
                      try clear hx26
                      try clear c27
                      try clear hcz11_0
                      try clear hcz18_0
                      try clear hcz18_1
                      try clear hcz18_2
                      try clear hcz18_3
                      try clear hcz20_0
                      try clear hcz20_1
                      try clear hcz20_2
                      try clear hcz20_3
                      try clear hcz28_0
                      try clear hcz28_1
                      try clear hcz28_2
                      try clear hcz28_3
                      try clear hfz11_0
                      try clear hfz18_0
                      try clear hfz18_1
                      try clear hfz18_2
                      try clear hfz18_3
                      try clear hfz20_0
                      try clear hfz20_1
                      try clear hfz20_2
                      try clear hfz20_3
                      try clear hfz28_0
                      try clear hfz28_1
                      try clear hfz28_2
                      try clear hfz28_3
                      try clear hx23_0
                      try clear hx265_0
                      try clear hx265_1
                      try clear hx265_2
                      try clear hx265_3
                      try clear hx267_0
                      try clear p2
                      try clear p23
                      try clear p26
                      try clear p265
                      try clear p267
                      try clear p6
                      try clear q2
                      try clear q23
                      try clear q26
                      try clear q265
                      try clear q267
                      obtain ⟨x4_3, x5_3, x38_3, rfl, HA, HK3, HO_4, HO_5, BK258, BK266, HB⟩ := hrel
                      cases gk with
                      | zero => exact absurd HA.out (by simp [tree_links.l1])
                      | succ k3 =>
                        have H := HA.out
                        clear HA
                        simp only [tree_links.l1] at H
                        by_cases c29 : x38_3 < (((rd_T58 l0_0 x21_1).f3).length : Int)
                        · rw [if_pos c29] at H
                          have c29b0 : decide (x38_3 < (((rd_T58 l0_0 x21_1).f3).length : Int)) = true := decide_eq_true c29
                          clear c29
                          by_cases c30 : 0 ≤ x38_3
                          · rw [if_pos c30] at H
                            have c30b0 : decide (0 ≤ x38_3) = true := decide_eq_true c30
                            clear c30
                            by_cases c31 : x38_3 < (((rd_T58 l0_0 x21_1).f3).length : Int)
                            · rw [if_pos c31] at H
                              have c31b0 : decide (x38_3 < (((rd_T58 l0_0 x21_1).f3).length : Int)) = true := decide_eq_true c31
                              clear c31
                              by_cases c32 : 0 ≤ ((rd_T102 ((rd_T58 l0_0 x21_1).f3) x38_3).f1)
                              · rw [if_pos c32] at H
                                have c32b0 : decide (0 ≤ ((rd_T102 ((rd_T58 l0_0 x21_1).f3) x38_3).f1)) = true := decide_eq_true c32
                                clear c32
                                by_cases c33 : ((rd_T102 ((rd_T58 l0_0 x21_1).f3) x38_3).f1) < (x5_3.length : Int)
                                · rw [if_pos c33] at H
                                  have c33b0 : decide (((rd_T102 ((rd_T58 l0_0 x21_1).f3) x38_3).f1) < (x5_3.length : Int)) = true := decide_eq_true c33
                                  clear c33
                                  obtain ⟨y272, hy272⟩ : ∃ y_ : List Int, y_ = (x5_3.set (((rd_T102 ((rd_T58 l0_0 x21_1).f3) x38_3).f1) : Int).toNat (wrap64 ((rd x5_3 ((rd_T102 ((rd_T58 l0_0 x21_1).f3) x38_3).f1)) + 1))) := ⟨_, rfl⟩
                                  replace H : (if ((rd_T102 ((rd_T58 l0_0 x21_1).f3) x38_3).f1) < (l0_0.length : Int) then (if ((rd_T58 l0_0 ((rd_T102 ((rd_T58 l0_0 x21_1).f3) x38_3).f1)).f0) = 2 then (if 0 ≤ x21_1 then (if x21_1 < (x4_3.length : Int) then (tree_links.l1 k3 (x4_3.set (x21_1 : Int).toNat (wrap64 ((rd x4_3 x21_1) + 1))) y272 x21_1 l0_0 (l0_0.length : Int) x21_1 ((rd_T58 l0_0 x21_1).f3) (((rd_T58 l0_0 x21_1).f3).length : Int) (wrap64 (x38_3 + 1)) l0_0) else (none)) else (none)) else (if ((rd_T102 ((rd_T58 l0_0 x21_1).f3) x38_3).f1) < (x4_3.length : Int) then (tree_links.l1 k3 (x4_3.set (((rd_T102 ((rd_T58 l0_0 x21_1).f3) x38_3).f1) : Int).toNat (wrap64 ((rd x4_3 ((rd_T102 ((rd_T58 l0_0 x21_1).f3) x38_3).f1)) + 1))) y272 x21_1 l0_0 (l0_0.length : Int) x21_1 ((rd_T58 l0_0 x21_1).f3) (((rd_T58 l0_0 x21_1).f3).length : Int) (wrap64 (x38_3 + 1)) l0_0) else (none))) else (none)) = some (r1, r2) := by first | (rw [hy272]; with_reducible exact H) | (have H2_ := (Option.bind_some _ _).symm.trans H; rw [hy272]; with_reducible exact H2_) | (have H2_ := (Option.bind_some _ _).symm.trans H; with_reducible exact H2_) | with_reducible exact H | (rw [hy272]; exact H) | exact H
                                  have Ny272 := Aside0.mk hy272
                                  clear hy272
                                  by_cases c35 : ((rd_T102 ((rd_T58 l0_0 x21_1).f3) x38_3).f1) < (l0_0.length : Int)
                                  · rw [if_pos c35] at H
                                    have c35b0 : decide (((rd_T102 ((rd_T58 l0_0 x21_1).f3) x38_3).f1) < (l0_0.length : Int)) = true := decide_eq_true c35
                                    clear c35
                                    by_cases c36 : ((rd_T58 l0_0 ((rd_T102 ((rd_T58 l0_0 x21_1).f3) x38_3).f1)).f0) = 2
                                    · rw [if_pos c36] at H
                                      have c36b0 : (((rd_T58 l0_0 ((rd_T102 ((rd_T58 l0_0 x21_1).f3) x38_3).f1)).f0) == 2) = true := beq_iff_eq.mpr c36
                                      have c36b1 : (((rd_T58 l0_0 ((rd_T102 ((rd_T58 l0_0 x21_1).f3) x38_3).f1)).f0) != 2) = false := bne_eq_false_iff_eq.mpr c36
                                      clear c36
                                      by_cases c37 : 0 ≤ x21_1
                                      · rw [if_pos c37] at H
                                        have c37b0 : decide (0 ≤ x21_1) = true := decide_eq_true c37
                                        clear c37
                                        by_cases c38 : x21_1 < (x4_3.length : Int)
                                        · rw [if_pos c38] at H
                                          have c38b0 : decide (x21_1 < (x4_3.length : Int)) = true := decide_eq_true c38
                                          clear c38
                                          obtain ⟨y275, hy275⟩ : ∃ y_ : List Int, y_ = (x4_3.set (x21_1 : Int).toNat (wrap64 ((rd x4_3 x21_1) + 1))) := ⟨_, rfl⟩
                                          replace H : (tree_links.l1 k3 y275 y272 x21_1 l0_0 (l0_0.length : Int) x21_1 ((rd_T58 l0_0 x21_1).f3) (((rd_T58 l0_0 x21_1).f3).length : Int) (wrap64 (x38_3 + 1)) l0_0) = some (r1, r2) := by first | (rw [hy275]; with_reducible exact H) | (have H2_ := (Option.bind_some _ _).symm.trans H; rw [hy275]; with_reducible exact H2_) | (have H2_ := (Option.bind_some _ _).symm.trans H; with_reducible exact H2_) | with_reducible exact H | (rw [hy275]; exact H) | exact H
                                          have Ny275 := Aside0.mk hy275
                                          clear hy275
                                          have H' := Aside0.mk H
                                          clear H
                                          have p269 : 0 ≤ (x38_3 : Int) := of_decide_eq_true (by first | (with_reducible assumption) | assumption)
                                          have q269 : x38_3 < (((rd_T58 l0_0 x21_1).f3).length : Int) := of_decide_eq_true (by first | (with_reducible assumption) | assumption)
                                          obtain ⟨ad269, e269, hx269_0, hx269_1⟩ := at_T102 HR265_3.out x38_3 p269 q269
                                          cases e269
                                          replace hx269_0 := (HB.out.cell (World.block_lt_of_cell? w _ hx269_0)).trans hx269_0
                                          replace hx269_1 := (HB.out.cell (World.block_lt_of_cell? w _ hx269_1)).trans hx269_1
                                          replace p269 := eq_true p269
                                          replace q269 := eq_true q269
                                          go_wp2_with (first | ((with_reducible refine gate_dst (N := 9) rfl ?_); refine box_event ?hg (N := 9) ?hd (cs := #[.string (⟨#[]⟩ : ByteArray), .int .i64 0]) (t := 102) ?hr ?_; (case hd => rfl); (case hg => rfl); (case hr => first | (go_simp; done) | (go_simp; rfl)); intro gb270 hg w40 hbox hb; have n0_ := Aside0.mk (Kd.R_below (by (with_reducible repeat (first | apply Kd.R_alloc | apply Kd.R_drewN | apply Kd.R_drew)); exact HO_4.out) hb); have n1_ := Aside0.mk (Kd.R_below (by (with_reducible repeat (first | apply Kd.R_alloc | apply Kd.R_drewN | apply Kd.R_drew)); exact HO_5.out) hb); have n2_ := Aside0.mk (blk_below (g := gb258) (o := .cells #[.slice (some ad265) l0_0.length c0_0] 42 (0, 0)) (by (with_reducible repeat (first | refine blk_drewN ?_ _ | refine blk_drew ?_ | refine blk_alloc ?_ _)); exact BK258.out) hb); have n3_ := Aside0.mk (blk_below (g := gb266) (o := .cells #[.int .i64 ((rd_T58 l0_0 x21_1).f0), .int .i64 ((rd_T58 l0_0 x21_1).f1), .slice A265_2 ((rd_T58 l0_0 x21_1).f2).length c265_2, .slice (some ad269) ((rd_T58 l0_0 x21_1).f3).length c265_3] 58 (0, 0)) (by (with_reducible repeat (first | refine blk_drewN ?_ _ | refine blk_drew ?_ | refine blk_alloc ?_ _)); exact BK266.out) hb); have n4_ := Aside0.mk (below_step (by repeat (first | (with_reducible first | exact HB.out | apply below_alloc | apply pw_below_drewN | apply below_drew1 | refine below_set ?_ GE258.out | refine below_set ?_ GE266.out) | exact HB.out)) hb); have n5_ := Aside0.mk (hbox); have n6_ := Aside0.mk ((by rw [hg]; exact (below_size (by repeat (first | (with_reducible first | exact HB.out | apply below_alloc | apply pw_below_drewN | apply below_drew1 | refine below_set ?_ GE258.out | refine below_set ?_ GE266.out) | exact HB.out))) : w.heap.size ≤ gb270)); have n7_ := Aside0.mk ((by rw [hg]; exact (below_size (by repeat (first | (with_reducible first | exact HB.out | apply below_alloc | apply pw_below_drewN | apply below_drew1 | refine below_set ?_ GE258.out | refine below_set ?_ GE266.out) | exact HB.out))) : w.heap.size ≤ gb270)); have n8_ := Aside0.mk ((by rw [hg]; exact Nat.ne_of_lt (blk_lt (g := gb258) (o := .cells #[.slice (some ad265) l0_0.length c0_0] 42 (0, 0)) (by (with_reducible repeat (first | refine blk_drewN ?_ _ | refine blk_drew ?_ | refine blk_alloc ?_ _)); exact BK258.out)) : gb258 ≠ gb270)); have n9_ := Aside0.mk ((by rw [hg]; exact Nat.ne_of_gt (blk_lt (g := gb258) (o := .cells #[.slice (some ad265) l0_0.length c0_0] 42 (0, 0)) (by (with_reducible repeat (first | refine blk_drewN ?_ _ | refine blk_drew ?_ | refine blk_alloc ?_ _)); exact BK258.out)) : gb270 ≠ gb258)); have n10_ := Aside0.mk ((by rw [hg]; exact Nat.ne_of_lt (blk_lt (g := gb266) (o := .cells #[.int .i64 ((rd_T58 l0_0 x21_1).f0), .int .i64 ((rd_T58 l0_0 x21_1).f1), .slice A265_2 ((rd_T58 l0_0 x21_1).f2).length c265_2, .slice (some ad269) ((rd_T58 l0_0 x21_1).f3).length c265_3] 58 (0, 0)) (by (with_reducible repeat (first | refine blk_drewN ?_ _ | refine blk_drew ?_ | refine blk_alloc ?_ _)); exact BK266.out)) : gb266 ≠ gb270)); have n11_ := Aside0.mk ((by rw [hg]; exact Nat.ne_of_gt (blk_lt (g := gb266) (o := .cells #[.int .i64 ((rd_T58 l0_0 x21_1).f0), .int .i64 ((rd_T58 l0_0 x21_1).f1), .slice A265_2 ((rd_T58 l0_0 x21_1).f2).length c265_2, .slice (some ad269) ((rd_T58 l0_0 x21_1).f3).length c265_3] 58 (0, 0)) (by (with_reducible repeat (first | refine blk_drewN ?_ _ | refine blk_drew ?_ | refine blk_alloc ?_ _)); exact BK266.out)) : gb270 ≠ gb266)); clear HO_4; clear HO_5; clear BK258; clear BK266; clear HB; have HO_4 := n0_; have HO_5 := n1_; have BK258 := n2_; have BK266 := n3_; have HB := n4_; have BK270 := n5_; have GW270 := n6_; have GE270 := n7_; have NB258_270 := n8_; have NB270_258 := n9_; have NB266_270 := n10_; have NB270_266 := n11_; clear n0_ n1_ n2_ n3_ n4_ n5_ n6_ n7_ n8_ n9_ n10_ n11_; clear hb hbox hg; have hnb41 := NB270_258.out; have hnc41 := NB258_270.out; have hnb42 := NB270_266.out; have hnc42 := NB266_270.out; have hcz43_0 : w40.cell? ⟨gb270, 0, none⟩ = some (.string (⟨#[]⟩ : ByteArray)) := (blk_cell BK270.out 0).trans rfl; have hcz43_1 : w40.cell? ⟨gb270, 1, none⟩ = some (.int .i64 0) := (blk_cell BK270.out 1).trans rfl; have hfz43_0 := blk_frozen BK270.out 0; have hfz43_1 := blk_frozen BK270.out 1) | ((with_reducible refine gate_store (t := 102) (p := 9) rfl ?_); refine store_event (t := 102) (p := 9) (v := ?vo_w44) (w1 := ((w40.setCell ⟨gb270, 0, none⟩ (.string ((rd_T102 ((rd_T58 l0_0 x21_1).f3) x38_3).f0))).setCell ⟨gb270, 1, none⟩ (.int .i64 ((rd_T102 ((rd_T58 l0_0 x21_1).f3) x38_3).f1)))) ?hg ?ho ?hn ?hr ?_; (case ho => rfl); (case hg => rfl); (case hn => rfl); (case hr => first | (go_simp; done) | (go_simp; rfl)); intro w44 hw; have n0_ : Aside0 (Kd.R (Kd.int .i64) 3 w44 w.heap.size (fun k_ => some k_ ≠ (v263 : Value).ownBlock) v260 x4_3) := ⟨(by rw [hw]; exact (by (with_reducible repeat (first | apply Kd.R_alloc | apply Kd.R_drewN | apply Kd.R_drew)); exact Kd.R_mono (Kd.R_far (p := ⟨gb270, 1, none⟩) (Kd.R_far (p := ⟨gb270, 0, none⟩) (Kd.R_types HO_4.out BK270.out (by decide)) (fun _ hk => hk.2) (.string ((rd_T102 ((rd_T58 l0_0 x21_1).f3) x38_3).f0))) (fun _ hk => hk.2) (.int .i64 ((rd_T102 ((rd_T58 l0_0 x21_1).f3) x38_3).f1))) (fun _ hk => hk.1)))⟩; have n1_ : Aside0 (Kd.R (Kd.int .i64) 3 w44 w.heap.size (fun k_ => some k_ ≠ (v260 : Value).ownBlock) v263 x5_3) := ⟨(by rw [hw]; exact (by (with_reducible repeat (first | apply Kd.R_alloc | apply Kd.R_drewN | apply Kd.R_drew)); exact Kd.R_mono (Kd.R_far (p := ⟨gb270, 1, none⟩) (Kd.R_far (p := ⟨gb270, 0, none⟩) (Kd.R_types HO_5.out BK270.out (by decide)) (fun _ hk => hk.2) (.string ((rd_T102 ((rd_T58 l0_0 x21_1).f3) x38_3).f0))) (fun _ hk => hk.2) (.int .i64 ((rd_T102 ((rd_T58 l0_0 x21_1).f3) x38_3).f1))) (fun _ hk => hk.1)))⟩; have n2_ : Aside0 (w44.heap[gb258]? = some (.cells #[.slice (some ad265) l0_0.length c0_0] 42 (0, 0))) := ⟨(by rw [hw]; exact (by (with_reducible repeat (first | refine blk_drewN ?_ _ | refine blk_drew ?_ | refine blk_alloc ?_ _)); refine blk_far ?_ NB258_270.out _; (with_reducible repeat (first | refine blk_drewN ?_ _ | refine blk_drew ?_ | refine blk_alloc ?_ _)); refine blk_far ?_ NB258_270.out _; (with_reducible repeat (first | refine blk_drewN ?_ _ | refine blk_drew ?_ | refine blk_alloc ?_ _)); exact BK258.out))⟩; have n3_ : Aside0 (w44.heap[gb266]? = some (.cells #[.int .i64 ((rd_T58 l0_0 x21_1).f0), .int .i64 ((rd_T58 l0_0 x21_1).f1), .slice A265_2 ((rd_T58 l0_0 x21_1).f2).length c265_2, .slice (some ad269) ((rd_T58 l0_0 x21_1).f3).length c265_3] 58 (0, 0))) := ⟨(by rw [hw]; exact (by (with_reducible repeat (first | refine blk_drewN ?_ _ | refine blk_drew ?_ | refine blk_alloc ?_ _)); refine blk_far ?_ NB266_270.out _; (with_reducible repeat (first | refine blk_drewN ?_ _ | refine blk_drew ?_ | refine blk_alloc ?_ _)); refine blk_far ?_ NB266_270.out _; (with_reducible repeat (first | refine blk_drewN ?_ _ | refine blk_drew ?_ | refine blk_alloc ?_ _)); exact BK266.out))⟩; have n4_ : Aside0 (w44.heap[gb270]? = some (.cells #[.string ((rd_T102 ((rd_T58 l0_0 x21_1).f3) x38_3).f0), .int .i64 ((rd_T102 ((rd_T58 l0_0 x21_1).f3) x38_3).f1)] 102 (0, 0))) := ⟨(by rw [hw]; exact (by (with_reducible repeat (first | refine blk_drewN ?_ _ | refine blk_drew ?_ | refine blk_alloc ?_ _)); refine blk_put (cs := #[.string ((rd_T102 ((rd_T58 l0_0 x21_1).f3) x38_3).f0), .int .i64 0]) ?_ 1 _ rfl; (with_reducible repeat (first | refine blk_drewN ?_ _ | refine blk_drew ?_ | refine blk_alloc ?_ _)); refine blk_put (cs := #[.string (⟨#[]⟩ : ByteArray), .int .i64 0]) ?_ 0 _ rfl; (with_reducible repeat (first | refine blk_drewN ?_ _ | refine blk_drew ?_ | refine blk_alloc ?_ _)); exact BK270.out))⟩; have n5_ : Aside0 (Below w.heap.size w w44) := ⟨(by rw [hw]; exact (by repeat (first | (with_reducible first | exact HB.out | apply below_alloc | apply pw_below_drewN | apply below_drew1 | refine below_set ?_ GE258.out | refine below_set ?_ GE266.out | refine below_set ?_ GE270.out) | exact HB.out)))⟩; clear hw; clear HO_4; clear HO_5; clear BK258; clear BK266; clear BK270; clear HB; have HO_4 := n0_; have HO_5 := n1_; have BK258 := n2_; have BK266 := n3_; have BK270 := n4_; have HB := n5_; clear n0_ n1_ n2_ n3_ n4_ n5_; have hcz45_0 : w44.cell? ⟨gb270, 0, none⟩ = some (.string ((rd_T102 ((rd_T58 l0_0 x21_1).f3) x38_3).f0)) := (blk_cell BK270.out 0).trans rfl; have hcz45_1 : w44.cell? ⟨gb270, 1, none⟩ = some (.int .i64 ((rd_T102 ((rd_T58 l0_0 x21_1).f3) x38_3).f1)) := (blk_cell BK270.out 1).trans rfl; have hfz45_0 := blk_frozen BK270.out 0; have hfz45_1 := blk_frozen BK270.out 1; obtain ⟨Ao46, co46, eo46⟩ := Kd.R_slice HO_5.out; subst eo46; have p271 : 0 ≤ (((rd_T102 ((rd_T58 l0_0 x21_1).f3) x38_3).f1) : Int) := of_decide_eq_true (by first | (with_reducible assumption) | assumption); have q271 : ((rd_T102 ((rd_T58 l0_0 x21_1).f3) x38_3).f1) < (x5_3.length : Int) := of_decide_eq_true (by first | (with_reducible assumption) | assumption); obtain ⟨ad271, e271, hx271_0⟩ := Kd.at_int (Kd.R_reads' HO_5.out).2.2 ((rd_T102 ((rd_T58 l0_0 x21_1).f3) x38_3).f1) p271 q271; cases e271; replace p271 := eq_true p271; replace q271 := eq_true q271; have p34 : 0 ≤ (((rd_T102 ((rd_T58 l0_0 x21_1).f3) x38_3).f1) : Int) := of_decide_eq_true (by first | (with_reducible assumption) | assumption); have q34 : (((rd_T102 ((rd_T58 l0_0 x21_1).f3) x38_3).f1) : Int) < ((x5_3.length : Int) : Int) := of_decide_eq_true (by first | (with_reducible assumption) | assumption); obtain ⟨go34, co34, eo34, gb34, gl34, cl34, HG34⟩ := Kd.R_form HO_5.out (by omega); (first | cases eo34 | (injection eo34 with ea_ en_ ec_; (first | subst ea_ | (injection ea_ with ea_; subst ea_)); subst ec_; clear en_)); have GB34 := Aside0.mk gb34; have GG34 := Aside0.mk HG34; clear gb34 gl34 HG34; (first | simp only [add_plain] at hx271_0 | skip); obtain ⟨hx34_0, hf34_0⟩ := Kd.R_celln 0 HO_5.out (((rd_T102 ((rd_T58 l0_0 x21_1).f3) x38_3).f1) : Int) p34 q34; replace p34 := eq_true p34; replace q34 := eq_true q34; obtain ⟨hy47_, hz47_⟩ := Kd.R_celln 0 HO_5.out (((rd_T102 ((rd_T58 l0_0 x21_1).f3) x38_3).f1) : Int) (of_decide_eq_true (by first | (with_reducible assumption) | assumption)) (of_decide_eq_true (by first | (with_reducible assumption) | assumption)); have HP47 := Kd.R_putg HO_5.out (((rd_T102 ((rd_T58 l0_0 x21_1).f3) x38_3).f1) : Int) (wrap64 ((rd x5_3 ((rd_T102 ((rd_T58 l0_0 x21_1).f3) x38_3).f1)) + 1))) | ((with_reducible refine gate_store (t := 3) (p := 48) rfl ?_); refine store_event (t := 3) (p := 48) (v := ?vo_w48) (w1 := (w44.setCell ⟨go34, (((rd_T102 ((rd_T58 l0_0 x21_1).f3) x38_3).f1) : Int).toNat, none⟩ (.int .i64 (wrap64 ((rd x5_3 ((rd_T102 ((rd_T58 l0_0 x21_1).f3) x38_3).f1)) + 1))))) ?hg ?ho ?hn ?hr ?_; (case ho => rfl); (case hg => rfl); (case hn => rfl); (case hr => first | (go_simp; done) | (go_simp; rfl)); intro w48 hw; have hg : w44.grownBy w48 (some go34) := (by rw [hw]; exact HP47.2); have hp_ : Kd.R (Kd.int .i64) 3 w48 w.heap.size (fun k_ => some k_ ≠ (v260 : Value).ownBlock) (.slice (some ⟨go34, 0, none⟩) x5_3.length co46) y272 := (by rw [hw, Ny272.out]; exact HP47.1); clear HP47; have n0_ := Aside0.mk (Kd.R_after (v := (.slice (some ⟨go34, 0, none⟩) x5_3.length co46)) (v1 := (.slice (some ⟨go34, 0, none⟩) x5_3.length co46)) (ok := (fun _ => True)) (by (with_reducible repeat (first | apply Kd.R_alloc | apply Kd.R_drewN | apply Kd.R_drew)); exact Kd.R_mono HO_4.out (fun _ hk => ⟨trivial, hk⟩)) hg (.inl rfl)); have n1_ := Aside0.mk (hp_); have n2_ := Aside0.mk (blk_grown (g := gb258) (o := .cells #[.slice (some ad265) l0_0.length c0_0] 42 (0, 0)) (by (with_reducible repeat (first | refine blk_drewN ?_ _ | refine blk_drew ?_ | refine blk_alloc ?_ _)); exact BK258.out) hg (Kd.R_ne HO_5.out BK258.out (by decide))); have n3_ := Aside0.mk (blk_grown (g := gb266) (o := .cells #[.int .i64 ((rd_T58 l0_0 x21_1).f0), .int .i64 ((rd_T58 l0_0 x21_1).f1), .slice A265_2 ((rd_T58 l0_0 x21_1).f2).length c265_2, .slice (some ad269) ((rd_T58 l0_0 x21_1).f3).length c265_3] 58 (0, 0)) (by (with_reducible repeat (first | refine blk_drewN ?_ _ | refine blk_drew ?_ | refine blk_alloc ?_ _)); exact BK266.out) hg (Kd.R_ne HO_5.out BK266.out (by decide))); have n4_ := Aside0.mk (blk_grown (g := gb270) (o := .cells #[.string ((rd_T102 ((rd_T58 l0_0 x21_1).f3) x38_3).f0), .int .i64 ((rd_T102 ((rd_T58 l0_0 x21_1).f3) x38_3).f1)] 102 (0, 0)) (by (with_reducible repeat (first | refine blk_drewN ?_ _ | refine blk_drew ?_ | refine blk_alloc ?_ _)); exact BK270.out) hg (Kd.R_ne HO_5.out BK270.out (by decide))); have n5_ := Aside0.mk ((by rw [hw]; exact below_set (HB.out) GB34.out : Below w.heap.size w w48)); clear HO_4; clear HO_5; clear BK258; clear BK266; clear BK270; clear HB; have HO_4 := n0_; have HO_5 := n1_; have BK258 := n2_; have BK266 := n3_; have BK270 := n4_; have HB := n5_; clear n0_ n1_ n2_ n3_ n4_ n5_; clear hg hw hp_; have hnb49 := NB258_266.out; have hnc49 := NB266_258.out; have hcz50_0 : w48.cell? ⟨gb258, 0, none⟩ = some (.slice (some ad265) l0_0.length c0_0) := (blk_cell BK258.out 0).trans rfl; have hfz50_0 := blk_frozen BK258.out 0; have hcz51_0 : w48.cell? ⟨gb270, 0, none⟩ = some (.string ((rd_T102 ((rd_T58 l0_0 x21_1).f3) x38_3).f0)) := (blk_cell BK270.out 0).trans rfl; have hcz51_1 : w48.cell? ⟨gb270, 1, none⟩ = some (.int .i64 ((rd_T102 ((rd_T58 l0_0 x21_1).f3) x38_3).f1)) := (blk_cell BK270.out 1).trans rfl; have hfz51_0 := blk_frozen BK270.out 0; have hfz51_1 := blk_frozen BK270.out 1; have p273 : 0 ≤ (((rd_T102 ((rd_T58 l0_0 x21_1).f3) x38_3).f1) : Int) := of_decide_eq_true (by first | (with_reducible assumption) | assumption); have q273 : ((rd_T102 ((rd_T58 l0_0 x21_1).f3) x38_3).f1) < (l0_0.length : Int) := of_decide_eq_true (by first | (with_reducible assumption) | assumption); obtain ⟨ad273, A273_2, c273_2, A273_3, c273_3, e273, hx273_0, hx273_1, hx273_2, hx273_3, hl273_2, hi273_2, hl273_3, hi273_3⟩ := at_T58 HR0_0.out ((rd_T102 ((rd_T58 l0_0 x21_1).f3) x38_3).f1) p273 q273; obtain rfl : ad265 = ad273 := (by injection e273); replace hx273_0 := (HB.out.cell (World.block_lt_of_cell? w _ hx273_0)).trans hx273_0; replace hx273_1 := (HB.out.cell (World.block_lt_of_cell? w _ hx273_1)).trans hx273_1; replace hx273_2 := (HB.out.cell (World.block_lt_of_cell? w _ hx273_2)).trans hx273_2; replace hx273_3 := (HB.out.cell (World.block_lt_of_cell? w _ hx273_3)).trans hx273_3; have HR273_2 := Aside0.mk hi273_2; have HC273_2 := Aside0.mk hl273_2; clear hi273_2 hl273_2; have HR273_3 := Aside0.mk hi273_3; have HC273_3 := Aside0.mk hl273_3; clear hi273_3 hl273_3; replace p273 := eq_true p273; replace q273 := eq_true q273; obtain ⟨Ao52, co52, eo52⟩ := Kd.R_slice HO_4.out; subst eo52; have p274 : 0 ≤ (x21_1 : Int) := of_decide_eq_true (by first | (with_reducible assumption) | assumption); have q274 : x21_1 < (x4_3.length : Int) := of_decide_eq_true (by first | (with_reducible assumption) | assumption); obtain ⟨ad274, e274, hx274_0⟩ := Kd.at_int (Kd.R_reads' HO_4.out).2.2 x21_1 p274 q274; cases e274; replace p274 := eq_true p274; replace q274 := eq_true q274; have p39 : 0 ≤ (x21_1 : Int) := of_decide_eq_true (by first | (with_reducible assumption) | assumption); have q39 : (x21_1 : Int) < ((x4_3.length : Int) : Int) := of_decide_eq_true (by first | (with_reducible assumption) | assumption); obtain ⟨go39, co39, eo39, gb39, gl39, cl39, HG39⟩ := Kd.R_form HO_4.out (by omega); (first | cases eo39 | (injection eo39 with ea_ en_ ec_; (first | subst ea_ | (injection ea_ with ea_; subst ea_)); subst ec_; clear en_)); have GB39 := Aside0.mk gb39; have GG39 := Aside0.mk HG39; clear gb39 gl39 HG39; (first | simp only [add_plain] at hx274_0 | skip); obtain ⟨hx39_0, hf39_0⟩ := Kd.R_celln 0 HO_4.out (x21_1 : Int) p39 q39; replace p39 := eq_true p39; replace q39 := eq_true q39; have n_ := Aside0.mk (Kd.R_mono (ok' := (fun k_ => some k_ ≠ (.slice (some ⟨go34, 0, none⟩) x5_3.length co46 : Value).ownBlock)) HO_4.out (fun k_ hk => hk.2)); clear HO_4; have HO_4 := n_; clear n_; obtain ⟨hy53_, hz53_⟩ := Kd.R_celln 0 HO_4.out (x21_1 : Int) (of_decide_eq_true (by first | (with_reducible assumption) | assumption)) (of_decide_eq_true (by first | (with_reducible assumption) | assumption)); have HP53 := Kd.R_putg HO_4.out (x21_1 : Int) (wrap64 ((rd x4_3 x21_1) + 1))) | ((with_reducible refine gate_store (t := 3) (p := 62) rfl ?_); refine store_event (t := 3) (p := 62) (v := ?vo_w54) (w1 := (w48.setCell ⟨go39, (x21_1 : Int).toNat, none⟩ (.int .i64 (wrap64 ((rd x4_3 x21_1) + 1))))) ?hg ?ho ?hn ?hr ?_; (case ho => rfl); (case hg => rfl); (case hn => rfl); (case hr => first | (go_simp; done) | (go_simp; rfl)); intro w54 hw; have hg : w48.grownBy w54 (some go39) := (by rw [hw]; exact HP53.2); have hp_ : Kd.R (Kd.int .i64) 3 w54 w.heap.size (fun k_ => some k_ ≠ (.slice (some ⟨go34, 0, none⟩) x5_3.length co46 : Value).ownBlock) (.slice (some ⟨go39, 0, none⟩) x4_3.length co52) y275 := (by rw [hw, Ny275.out]; exact HP53.1); clear HP53; have n0_ := Aside0.mk (hp_); have n1_ := Aside0.mk (Kd.R_after (v := (.slice (some ⟨go39, 0, none⟩) x4_3.length co52)) (v1 := (.slice (some ⟨go39, 0, none⟩) x4_3.length co52)) (ok := (fun _ => True)) (by (with_reducible repeat (first | apply Kd.R_alloc | apply Kd.R_drewN | apply Kd.R_drew)); exact Kd.R_mono HO_5.out (fun _ hk => ⟨trivial, hk⟩)) hg (.inl rfl)); have n2_ := Aside0.mk (blk_grown (g := gb258) (o := .cells #[.slice (some ad265) l0_0.length c0_0] 42 (0, 0)) (by (with_reducible repeat (first | refine blk_drewN ?_ _ | refine blk_drew ?_ | refine blk_alloc ?_ _)); exact BK258.out) hg (Kd.R_ne HO_4.out BK258.out (by decide))); have n3_ := Aside0.mk (blk_grown (g := gb266) (o := .cells #[.int .i64 ((rd_T58 l0_0 x21_1).f0), .int .i64 ((rd_T58 l0_0 x21_1).f1), .slice A265_2 ((rd_T58 l0_0 x21_1).f2).length c265_2, .slice (some ad269) ((rd_T58 l0_0 x21_1).f3).length c265_3] 58 (0, 0)) (by (with_reducible repeat (first | refine blk_drewN ?_ _ | refine blk_drew ?_ | refine blk_alloc ?_ _)); exact BK266.out) hg (Kd.R_ne HO_4.out BK266.out (by decide))); have n4_ := Aside0.mk (blk_grown (g := gb270) (o := .cells #[.string ((rd_T102 ((rd_T58 l0_0 x21_1).f3) x38_3).f0), .int .i64 ((rd_T102 ((rd_T58 l0_0 x21_1).f3) x38_3).f1)] 102 (0, 0)) (by (with_reducible repeat (first | refine blk_drewN ?_ _ | refine blk_drew ?_ | refine blk_alloc ?_ _)); exact BK270.out) hg (Kd.R_ne HO_4.out BK270.out (by decide))); have n5_ := Aside0.mk ((by rw [hw]; exact below_set (HB.out) GB39.out : Below w.heap.size w w54)); clear HO_4; clear HO_5; clear BK258; clear BK266; clear BK270; clear HB; have HO_4 := n0_; have HO_5 := n1_; have BK258 := n2_; have BK266 := n3_; have BK270 := n4_; have HB := n5_; clear n0_ n1_ n2_ n3_ n4_ n5_; clear hg hw hp_))
                                          go_roundg k3
                                          case measure => have := HK1.out; have := HJ14.out; have := HK3.out; omega
                                          case rel => exact ⟨(y275), (y272), (wrap64 (x38_3 + 1)), (by first | rfl | (simp; done) | (simp [*]; done)), H', ⟨by have := HK1.out; have := HJ14.out; have := HK3.out; omega⟩, ⟨by (with_reducible repeat (first | apply Kd.R_alloc | apply Kd.R_drewN | apply Kd.R_drew)); exact HO_4.out⟩, ⟨by (with_reducible repeat (first | apply Kd.R_alloc | apply Kd.R_drewN | apply Kd.R_drew)); exact Kd.R_mono HO_5.out (fun _ hk => hk.2)⟩, ⟨by (with_reducible repeat (first | refine blk_drewN ?_ _ | refine blk_drew ?_ | refine blk_alloc ?_ _)); exact BK258.out⟩, ⟨by (with_reducible repeat (first | refine blk_drewN ?_ _ | refine blk_drew ?_ | refine blk_alloc ?_ _)); exact BK266.out⟩, ⟨by repeat (first | (with_reducible first | exact HB.out | apply below_alloc | apply pw_below_drewN | apply below_drew1 | refine below_set ?_ GE258.out | refine below_set ?_ GE266.out | refine below_set ?_ GE270.out) | exact HB.out)⟩⟩
                                        · rw [if_neg c38] at H
                                          exact absurd H (by simp)
                                      · rw [if_neg c37] at H
                                        exact absurd H (by simp)
                                    · rw [if_neg c36] at H
                                      have c36b0 : (((rd_T58 l0_0 ((rd_T102 ((rd_T58 l0_0 x21_1).f3) x38_3).f1)).f0) == 2) = false := beq_eq_false_iff_ne.mpr c36
                                      have c36b1 : (((rd_T58 l0_0 ((rd_T102 ((rd_T58 l0_0 x21_1).f3) x38_3).f1)).f0) != 2) = true := bne_iff_ne.mpr c36
                                      by_cases c55 : ((rd_T102 ((rd_T58 l0_0 x21_1).f3) x38_3).f1) < (x4_3.length : Int)
                                      · rw [if_pos c55] at H
                                        have c55b0 : decide (((rd_T102 ((rd_T58 l0_0 x21_1).f3) x38_3).f1) < (x4_3.length : Int)) = true := decide_eq_true c55
                                        clear c55
                                        obtain ⟨y277, hy277⟩ : ∃ y_ : List Int, y_ = (x4_3.set (((rd_T102 ((rd_T58 l0_0 x21_1).f3) x38_3).f1) : Int).toNat (wrap64 ((rd x4_3 ((rd_T102 ((rd_T58 l0_0 x21_1).f3) x38_3).f1)) + 1))) := ⟨_, rfl⟩
                                        replace H : (tree_links.l1 k3 y277 y272 x21_1 l0_0 (l0_0.length : Int) x21_1 ((rd_T58 l0_0 x21_1).f3) (((rd_T58 l0_0 x21_1).f3).length : Int) (wrap64 (x38_3 + 1)) l0_0) = some (r1, r2) := by first | (rw [hy277]; with_reducible exact H) | (have H2_ := (Option.bind_some _ _).symm.trans H; rw [hy277]; with_reducible exact H2_) | (have H2_ := (Option.bind_some _ _).symm.trans H; with_reducible exact H2_) | with_reducible exact H | (rw [hy277]; exact H) | exact H
                                        have Ny277 := Aside0.mk hy277
                                        clear hy277
                                        have H' := Aside0.mk H
                                        clear H
                                        have p269 : 0 ≤ (x38_3 : Int) := of_decide_eq_true (by first | (with_reducible assumption) | assumption)
                                        have q269 : x38_3 < (((rd_T58 l0_0 x21_1).f3).length : Int) := of_decide_eq_true (by first | (with_reducible assumption) | assumption)
                                        obtain ⟨ad269, e269, hx269_0, hx269_1⟩ := at_T102 HR265_3.out x38_3 p269 q269
                                        cases e269
                                        replace hx269_0 := (HB.out.cell (World.block_lt_of_cell? w _ hx269_0)).trans hx269_0
                                        replace hx269_1 := (HB.out.cell (World.block_lt_of_cell? w _ hx269_1)).trans hx269_1
                                        replace p269 := eq_true p269
                                        replace q269 := eq_true q269
                                        go_wp2_with (first | ((with_reducible refine gate_dst (N := 9) rfl ?_); refine box_event ?hg (N := 9) ?hd (cs := #[.string (⟨#[]⟩ : ByteArray), .int .i64 0]) (t := 102) ?hr ?_; (case hd => rfl); (case hg => rfl); (case hr => first | (go_simp; done) | (go_simp; rfl)); intro gb270 hg w57 hbox hb; have n0_ := Aside0.mk (Kd.R_below (by (with_reducible repeat (first | apply Kd.R_alloc | apply Kd.R_drewN | apply Kd.R_drew)); exact HO_4.out) hb); have n1_ := Aside0.mk (Kd.R_below (by (with_reducible repeat (first | apply Kd.R_alloc | apply Kd.R_drewN | apply Kd.R_drew)); exact HO_5.out) hb); have n2_ := Aside0.mk (blk_below (g := gb258) (o := .cells #[.slice (some ad265) l0_0.length c0_0] 42 (0, 0)) (by (with_reducible repeat (first | refine blk_drewN ?_ _ | refine blk_drew ?_ | refine blk_alloc ?_ _)); exact BK258.out) hb); have n3_ := Aside0.mk (blk_below (g := gb266) (o := .cells #[.int .i64 ((rd_T58 l0_0 x21_1).f0), .int .i64 ((rd_T58 l0_0 x21_1).f1), .slice A265_2 ((rd_T58 l0_0 x21_1).f2).length c265_2, .slice (some ad269) ((rd_T58 l0_0 x21_1).f3).length c265_3] 58 (0, 0)) (by (with_reducible repeat (first | refine blk_drewN ?_ _ | refine blk_drew ?_ | refine blk_alloc ?_ _)); exact BK266.out) hb); have n4_ := Aside0.mk (below_step (by repeat (first | (with_reducible first | exact HB.out | apply below_alloc | apply pw_below_drewN | apply below_drew1 | refine below_set ?_ GE258.out | refine below_set ?_ GE266.out) | exact HB.out)) hb); have n5_ := Aside0.mk (hbox); have n6_ := Aside0.mk ((by rw [hg]; exact (below_size (by repeat (first | (with_reducible first | exact HB.out | apply below_alloc | apply pw_below_drewN | apply below_drew1 | refine below_set ?_ GE258.out | refine below_set ?_ GE266.out) | exact HB.out))) : w.heap.size ≤ gb270)); have n7_ := Aside0.mk ((by rw [hg]; exact (below_size (by repeat (first | (with_reducible first | exact HB.out | apply below_alloc | apply pw_below_drewN | apply below_drew1 | refine below_set ?_ GE258.out | refine below_set ?_ GE266.out) | exact HB.out))) : w.heap.size ≤ gb270)); have n8_ := Aside0.mk ((by rw [hg]; exact Nat.ne_of_lt (blk_lt (g := gb258) (o := .cells #[.slice (some ad265) l0_0.length c0_0] 42 (0, 0)) (by (with_reducible repeat (first | refine blk_drewN ?_ _ | refine blk_drew ?_ | refine blk_alloc ?_ _)); exact BK258.out)) : gb258 ≠ gb270)); have n9_ := Aside0.mk ((by rw [hg]; exact Nat.ne_of_gt (blk_lt (g := gb258) (o := .cells #[.slice (some ad265) l0_0.length c0_0] 42 (0, 0)) (by (with_reducible repeat (first | refine blk_drewN ?_ _ | refine blk_drew ?_ | refine blk_alloc ?_ _)); exact BK258.out)) : gb270 ≠ gb258)); have n10_ := Aside0.mk ((by rw [hg]; exact Nat.ne_of_lt (blk_lt (g := gb266) (o := .cells #[.int .i64 ((rd_T58 l0_0 x21_1).f0), .int .i64 ((rd_T58 l0_0 x21_1).f1), .slice A265_2 ((rd_T58 l0_0 x21_1).f2).length c265_2, .slice (some ad269) ((rd_T58 l0_0 x21_1).f3).length c265_3] 58 (0, 0)) (by (with_reducible repeat (first | refine blk_drewN ?_ _ | refine blk_drew ?_ | refine blk_alloc ?_ _)); exact BK266.out)) : gb266 ≠ gb270)); have n11_ := Aside0.mk ((by rw [hg]; exact Nat.ne_of_gt (blk_lt (g := gb266) (o := .cells #[.int .i64 ((rd_T58 l0_0 x21_1).f0), .int .i64 ((rd_T58 l0_0 x21_1).f1), .slice A265_2 ((rd_T58 l0_0 x21_1).f2).length c265_2, .slice (some ad269) ((rd_T58 l0_0 x21_1).f3).length c265_3] 58 (0, 0)) (by (with_reducible repeat (first | refine blk_drewN ?_ _ | refine blk_drew ?_ | refine blk_alloc ?_ _)); exact BK266.out)) : gb270 ≠ gb266)); clear HO_4; clear HO_5; clear BK258; clear BK266; clear HB; have HO_4 := n0_; have HO_5 := n1_; have BK258 := n2_; have BK266 := n3_; have HB := n4_; have BK270 := n5_; have GW270 := n6_; have GE270 := n7_; have NB258_270 := n8_; have NB270_258 := n9_; have NB266_270 := n10_; have NB270_266 := n11_; clear n0_ n1_ n2_ n3_ n4_ n5_ n6_ n7_ n8_ n9_ n10_ n11_; clear hb hbox hg; have hnb58 := NB270_258.out; have hnc58 := NB258_270.out; have hnb59 := NB270_266.out; have hnc59 := NB266_270.out; have hcz60_0 : w57.cell? ⟨gb270, 0, none⟩ = some (.string (⟨#[]⟩ : ByteArray)) := (blk_cell BK270.out 0).trans rfl; have hcz60_1 : w57.cell? ⟨gb270, 1, none⟩ = some (.int .i64 0) := (blk_cell BK270.out 1).trans rfl; have hfz60_0 := blk_frozen BK270.out 0; have hfz60_1 := blk_frozen BK270.out 1) | ((with_reducible refine gate_store (t := 102) (p := 9) rfl ?_); refine store_event (t := 102) (p := 9) (v := ?vo_w61) (w1 := ((w57.setCell ⟨gb270, 0, none⟩ (.string ((rd_T102 ((rd_T58 l0_0 x21_1).f3) x38_3).f0))).setCell ⟨gb270, 1, none⟩ (.int .i64 ((rd_T102 ((rd_T58 l0_0 x21_1).f3) x38_3).f1)))) ?hg ?ho ?hn ?hr ?_; (case ho => rfl); (case hg => rfl); (case hn => rfl); (case hr => first | (go_simp; done) | (go_simp; rfl)); intro w61 hw; have n0_ : Aside0 (Kd.R (Kd.int .i64) 3 w61 w.heap.size (fun k_ => some k_ ≠ (v263 : Value).ownBlock) v260 x4_3) := ⟨(by rw [hw]; exact (by (with_reducible repeat (first | apply Kd.R_alloc | apply Kd.R_drewN | apply Kd.R_drew)); exact Kd.R_mono (Kd.R_far (p := ⟨gb270, 1, none⟩) (Kd.R_far (p := ⟨gb270, 0, none⟩) (Kd.R_types HO_4.out BK270.out (by decide)) (fun _ hk => hk.2) (.string ((rd_T102 ((rd_T58 l0_0 x21_1).f3) x38_3).f0))) (fun _ hk => hk.2) (.int .i64 ((rd_T102 ((rd_T58 l0_0 x21_1).f3) x38_3).f1))) (fun _ hk => hk.1)))⟩; have n1_ : Aside0 (Kd.R (Kd.int .i64) 3 w61 w.heap.size (fun k_ => some k_ ≠ (v260 : Value).ownBlock) v263 x5_3) := ⟨(by rw [hw]; exact (by (with_reducible repeat (first | apply Kd.R_alloc | apply Kd.R_drewN | apply Kd.R_drew)); exact Kd.R_mono (Kd.R_far (p := ⟨gb270, 1, none⟩) (Kd.R_far (p := ⟨gb270, 0, none⟩) (Kd.R_types HO_5.out BK270.out (by decide)) (fun _ hk => hk.2) (.string ((rd_T102 ((rd_T58 l0_0 x21_1).f3) x38_3).f0))) (fun _ hk => hk.2) (.int .i64 ((rd_T102 ((rd_T58 l0_0 x21_1).f3) x38_3).f1))) (fun _ hk => hk.1)))⟩; have n2_ : Aside0 (w61.heap[gb258]? = some (.cells #[.slice (some ad265) l0_0.length c0_0] 42 (0, 0))) := ⟨(by rw [hw]; exact (by (with_reducible repeat (first | refine blk_drewN ?_ _ | refine blk_drew ?_ | refine blk_alloc ?_ _)); refine blk_far ?_ NB258_270.out _; (with_reducible repeat (first | refine blk_drewN ?_ _ | refine blk_drew ?_ | refine blk_alloc ?_ _)); refine blk_far ?_ NB258_270.out _; (with_reducible repeat (first | refine blk_drewN ?_ _ | refine blk_drew ?_ | refine blk_alloc ?_ _)); exact BK258.out))⟩; have n3_ : Aside0 (w61.heap[gb266]? = some (.cells #[.int .i64 ((rd_T58 l0_0 x21_1).f0), .int .i64 ((rd_T58 l0_0 x21_1).f1), .slice A265_2 ((rd_T58 l0_0 x21_1).f2).length c265_2, .slice (some ad269) ((rd_T58 l0_0 x21_1).f3).length c265_3] 58 (0, 0))) := ⟨(by rw [hw]; exact (by (with_reducible repeat (first | refine blk_drewN ?_ _ | refine blk_drew ?_ | refine blk_alloc ?_ _)); refine blk_far ?_ NB266_270.out _; (with_reducible repeat (first | refine blk_drewN ?_ _ | refine blk_drew ?_ | refine blk_alloc ?_ _)); refine blk_far ?_ NB266_270.out _; (with_reducible repeat (first | refine blk_drewN ?_ _ | refine blk_drew ?_ | refine blk_alloc ?_ _)); exact BK266.out))⟩; have n4_ : Aside0 (w61.heap[gb270]? = some (.cells #[.string ((rd_T102 ((rd_T58 l0_0 x21_1).f3) x38_3).f0), .int .i64 ((rd_T102 ((rd_T58 l0_0 x21_1).f3) x38_3).f1)] 102 (0, 0))) := ⟨(by rw [hw]; exact (by (with_reducible repeat (first | refine blk_drewN ?_ _ | refine blk_drew ?_ | refine blk_alloc ?_ _)); refine blk_put (cs := #[.string ((rd_T102 ((rd_T58 l0_0 x21_1).f3) x38_3).f0), .int .i64 0]) ?_ 1 _ rfl; (with_reducible repeat (first | refine blk_drewN ?_ _ | refine blk_drew ?_ | refine blk_alloc ?_ _)); refine blk_put (cs := #[.string (⟨#[]⟩ : ByteArray), .int .i64 0]) ?_ 0 _ rfl; (with_reducible repeat (first | refine blk_drewN ?_ _ | refine blk_drew ?_ | refine blk_alloc ?_ _)); exact BK270.out))⟩; have n5_ : Aside0 (Below w.heap.size w w61) := ⟨(by rw [hw]; exact (by repeat (first | (with_reducible first | exact HB.out | apply below_alloc | apply pw_below_drewN | apply below_drew1 | refine below_set ?_ GE258.out | refine below_set ?_ GE266.out | refine below_set ?_ GE270.out) | exact HB.out)))⟩; clear hw; clear HO_4; clear HO_5; clear BK258; clear BK266; clear BK270; clear HB; have HO_4 := n0_; have HO_5 := n1_; have BK258 := n2_; have BK266 := n3_; have BK270 := n4_; have HB := n5_; clear n0_ n1_ n2_ n3_ n4_ n5_; have hcz62_0 : w61.cell? ⟨gb270, 0, none⟩ = some (.string ((rd_T102 ((rd_T58 l0_0 x21_1).f3) x38_3).f0)) := (blk_cell BK270.out 0).trans rfl; have hcz62_1 : w61.cell? ⟨gb270, 1, none⟩ = some (.int .i64 ((rd_T102 ((rd_T58 l0_0 x21_1).f3) x38_3).f1)) := (blk_cell BK270.out 1).trans rfl; have hfz62_0 := blk_frozen BK270.out 0; have hfz62_1 := blk_frozen BK270.out 1; obtain ⟨Ao63, co63, eo63⟩ := Kd.R_slice HO_5.out; subst eo63; have p271 : 0 ≤ (((rd_T102 ((rd_T58 l0_0 x21_1).f3) x38_3).f1) : Int) := of_decide_eq_true (by first | (with_reducible assumption) | assumption); have q271 : ((rd_T102 ((rd_T58 l0_0 x21_1).f3) x38_3).f1) < (x5_3.length : Int) := of_decide_eq_true (by first | (with_reducible assumption) | assumption); obtain ⟨ad271, e271, hx271_0⟩ := Kd.at_int (Kd.R_reads' HO_5.out).2.2 ((rd_T102 ((rd_T58 l0_0 x21_1).f3) x38_3).f1) p271 q271; cases e271; replace p271 := eq_true p271; replace q271 := eq_true q271; have p34 : 0 ≤ (((rd_T102 ((rd_T58 l0_0 x21_1).f3) x38_3).f1) : Int) := of_decide_eq_true (by first | (with_reducible assumption) | assumption); have q34 : (((rd_T102 ((rd_T58 l0_0 x21_1).f3) x38_3).f1) : Int) < ((x5_3.length : Int) : Int) := of_decide_eq_true (by first | (with_reducible assumption) | assumption); obtain ⟨go34, co34, eo34, gb34, gl34, cl34, HG34⟩ := Kd.R_form HO_5.out (by omega); (first | cases eo34 | (injection eo34 with ea_ en_ ec_; (first | subst ea_ | (injection ea_ with ea_; subst ea_)); subst ec_; clear en_)); have GB34 := Aside0.mk gb34; have GG34 := Aside0.mk HG34; clear gb34 gl34 HG34; (first | simp only [add_plain] at hx271_0 | skip); obtain ⟨hx34_0, hf34_0⟩ := Kd.R_celln 0 HO_5.out (((rd_T102 ((rd_T58 l0_0 x21_1).f3) x38_3).f1) : Int) p34 q34; replace p34 := eq_true p34; replace q34 := eq_true q34; obtain ⟨hy64_, hz64_⟩ := Kd.R_celln 0 HO_5.out (((rd_T102 ((rd_T58 l0_0 x21_1).f3) x38_3).f1) : Int) (of_decide_eq_true (by first | (with_reducible assumption) | assumption)) (of_decide_eq_true (by first | (with_reducible assumption) | assumption)); have HP64 := Kd.R_putg HO_5.out (((rd_T102 ((rd_T58 l0_0 x21_1).f3) x38_3).f1) : Int) (wrap64 ((rd x5_3 ((rd_T102 ((rd_T58 l0_0 x21_1).f3) x38_3).f1)) + 1))) | ((with_reducible refine gate_store (t := 3) (p := 48) rfl ?_); refine store_event (t := 3) (p := 48) (v := ?vo_w65) (w1 := (w61.setCell ⟨go34, (((rd_T102 ((rd_T58 l0_0 x21_1).f3) x38_3).f1) : Int).toNat, none⟩ (.int .i64 (wrap64 ((rd x5_3 ((rd_T102 ((rd_T58 l0_0 x21_1).f3) x38_3).f1)) + 1))))) ?hg ?ho ?hn ?hr ?_; (case ho => rfl); (case hg => rfl); (case hn => rfl); (case hr => first | (go_simp; done) | (go_simp; rfl)); intro w65 hw; have hg : w61.grownBy w65 (some go34) := (by rw [hw]; exact HP64.2); have hp_ : Kd.R (Kd.int .i64) 3 w65 w.heap.size (fun k_ => some k_ ≠ (v260 : Value).ownBlock) (.slice (some ⟨go34, 0, none⟩) x5_3.length co63) y272 := (by rw [hw, Ny272.out]; exact HP64.1); clear HP64; have n0_ := Aside0.mk (Kd.R_after (v := (.slice (some ⟨go34, 0, none⟩) x5_3.length co63)) (v1 := (.slice (some ⟨go34, 0, none⟩) x5_3.length co63)) (ok := (fun _ => True)) (by (with_reducible repeat (first | apply Kd.R_alloc | apply Kd.R_drewN | apply Kd.R_drew)); exact Kd.R_mono HO_4.out (fun _ hk => ⟨trivial, hk⟩)) hg (.inl rfl)); have n1_ := Aside0.mk (hp_); have n2_ := Aside0.mk (blk_grown (g := gb258) (o := .cells #[.slice (some ad265) l0_0.length c0_0] 42 (0, 0)) (by (with_reducible repeat (first | refine blk_drewN ?_ _ | refine blk_drew ?_ | refine blk_alloc ?_ _)); exact BK258.out) hg (Kd.R_ne HO_5.out BK258.out (by decide))); have n3_ := Aside0.mk (blk_grown (g := gb266) (o := .cells #[.int .i64 ((rd_T58 l0_0 x21_1).f0), .int .i64 ((rd_T58 l0_0 x21_1).f1), .slice A265_2 ((rd_T58 l0_0 x21_1).f2).length c265_2, .slice (some ad269) ((rd_T58 l0_0 x21_1).f3).length c265_3] 58 (0, 0)) (by (with_reducible repeat (first | refine blk_drewN ?_ _ | refine blk_drew ?_ | refine blk_alloc ?_ _)); exact BK266.out) hg (Kd.R_ne HO_5.out BK266.out (by decide))); have n4_ := Aside0.mk (blk_grown (g := gb270) (o := .cells #[.string ((rd_T102 ((rd_T58 l0_0 x21_1).f3) x38_3).f0), .int .i64 ((rd_T102 ((rd_T58 l0_0 x21_1).f3) x38_3).f1)] 102 (0, 0)) (by (with_reducible repeat (first | refine blk_drewN ?_ _ | refine blk_drew ?_ | refine blk_alloc ?_ _)); exact BK270.out) hg (Kd.R_ne HO_5.out BK270.out (by decide))); have n5_ := Aside0.mk ((by rw [hw]; exact below_set (HB.out) GB34.out : Below w.heap.size w w65)); clear HO_4; clear HO_5; clear BK258; clear BK266; clear BK270; clear HB; have HO_4 := n0_; have HO_5 := n1_; have BK258 := n2_; have BK266 := n3_; have BK270 := n4_; have HB := n5_; clear n0_ n1_ n2_ n3_ n4_ n5_; clear hg hw hp_; have hnb66 := NB258_266.out; have hnc66 := NB266_258.out; have hcz67_0 : w65.cell? ⟨gb258, 0, none⟩ = some (.slice (some ad265) l0_0.length c0_0) := (blk_cell BK258.out 0).trans rfl; have hfz67_0 := blk_frozen BK258.out 0; have hcz68_0 : w65.cell? ⟨gb270, 0, none⟩ = some (.string ((rd_T102 ((rd_T58 l0_0 x21_1).f3) x38_3).f0)) := (blk_cell BK270.out 0).trans rfl; have hcz68_1 : w65.cell? ⟨gb270, 1, none⟩ = some (.int .i64 ((rd_T102 ((rd_T58 l0_0 x21_1).f3) x38_3).f1)) := (blk_cell BK270.out 1).trans rfl; have hfz68_0 := blk_frozen BK270.out 0; have hfz68_1 := blk_frozen BK270.out 1; have p273 : 0 ≤ (((rd_T102 ((rd_T58 l0_0 x21_1).f3) x38_3).f1) : Int) := of_decide_eq_true (by first | (with_reducible assumption) | assumption); have q273 : ((rd_T102 ((rd_T58 l0_0 x21_1).f3) x38_3).f1) < (l0_0.length : Int) := of_decide_eq_true (by first | (with_reducible assumption) | assumption); obtain ⟨ad273, A273_2, c273_2, A273_3, c273_3, e273, hx273_0, hx273_1, hx273_2, hx273_3, hl273_2, hi273_2, hl273_3, hi273_3⟩ := at_T58 HR0_0.out ((rd_T102 ((rd_T58 l0_0 x21_1).f3) x38_3).f1) p273 q273; obtain rfl : ad265 = ad273 := (by injection e273); replace hx273_0 := (HB.out.cell (World.block_lt_of_cell? w _ hx273_0)).trans hx273_0; replace hx273_1 := (HB.out.cell (World.block_lt_of_cell? w _ hx273_1)).trans hx273_1; replace hx273_2 := (HB.out.cell (World.block_lt_of_cell? w _ hx273_2)).trans hx273_2; replace hx273_3 := (HB.out.cell (World.block_lt_of_cell? w _ hx273_3)).trans hx273_3; have HR273_2 := Aside0.mk hi273_2; have HC273_2 := Aside0.mk hl273_2; clear hi273_2 hl273_2; have HR273_3 := Aside0.mk hi273_3; have HC273_3 := Aside0.mk hl273_3; clear hi273_3 hl273_3; replace p273 := eq_true p273; replace q273 := eq_true q273; obtain ⟨Ao69, co69, eo69⟩ := Kd.R_slice HO_4.out; subst eo69; have p276 : 0 ≤ (((rd_T102 ((rd_T58 l0_0 x21_1).f3) x38_3).f1) : Int) := of_decide_eq_true (by first | (with_reducible assumption) | assumption); have q276 : ((rd_T102 ((rd_T58 l0_0 x21_1).f3) x38_3).f1) < (x4_3.length : Int) := of_decide_eq_true (by first | (with_reducible assumption) | assumption); obtain ⟨ad276, e276, hx276_0⟩ := Kd.at_int (Kd.R_reads' HO_4.out).2.2 ((rd_T102 ((rd_T58 l0_0 x21_1).f3) x38_3).f1) p276 q276; cases e276; replace p276 := eq_true p276; replace q276 := eq_true q276; have p56 : 0 ≤ (((rd_T102 ((rd_T58 l0_0 x21_1).f3) x38_3).f1) : Int) := of_decide_eq_true (by first | (with_reducible assumption) | assumption); have q56 : (((rd_T102 ((rd_T58 l0_0 x21_1).f3) x38_3).f1) : Int) < ((x4_3.length : Int) : Int) := of_decide_eq_true (by first | (with_reducible assumption) | assumption); obtain ⟨go56, co56, eo56, gb56, gl56, cl56, HG56⟩ := Kd.R_form HO_4.out (by omega); (first | cases eo56 | (injection eo56 with ea_ en_ ec_; (first | subst ea_ | (injection ea_ with ea_; subst ea_)); subst ec_; clear en_)); have GB56 := Aside0.mk gb56; have GG56 := Aside0.mk HG56; clear gb56 gl56 HG56; (first | simp only [add_plain] at hx276_0 | skip); obtain ⟨hx56_0, hf56_0⟩ := Kd.R_celln 0 HO_4.out (((rd_T102 ((rd_T58 l0_0 x21_1).f3) x38_3).f1) : Int) p56 q56; replace p56 := eq_true p56; replace q56 := eq_true q56; have n_ := Aside0.mk (Kd.R_mono (ok' := (fun k_ => some k_ ≠ (.slice (some ⟨go34, 0, none⟩) x5_3.length co63 : Value).ownBlock)) HO_4.out (fun k_ hk => hk.2)); clear HO_4; have HO_4 := n_; clear n_; obtain ⟨hy70_, hz70_⟩ := Kd.R_celln 0 HO_4.out (((rd_T102 ((rd_T58 l0_0 x21_1).f3) x38_3).f1) : Int) (of_decide_eq_true (by first | (with_reducible assumption) | assumption)) (of_decide_eq_true (by first | (with_reducible assumption) | assumption)); have HP70 := Kd.R_putg HO_4.out (((rd_T102 ((rd_T58 l0_0 x21_1).f3) x38_3).f1) : Int) (wrap64 ((rd x4_3 ((rd_T102 ((rd_T58 l0_0 x21_1).f3) x38_3).f1)) + 1))) | ((with_reducible refine gate_store (t := 3) (p := 69) rfl ?_); refine store_event (t := 3) (p := 69) (v := ?vo_w71) (w1 := (w65.setCell ⟨go56, (((rd_T102 ((rd_T58 l0_0 x21_1).f3) x38_3).f1) : Int).toNat, none⟩ (.int .i64 (wrap64 ((rd x4_3 ((rd_T102 ((rd_T58 l0_0 x21_1).f3) x38_3).f1)) + 1))))) ?hg ?ho ?hn ?hr ?_; (case ho => rfl); (case hg => rfl); (case hn => rfl); (case hr => first | (go_simp; done) | (go_simp; rfl)); intro w71 hw; have hg : w65.grownBy w71 (some go56) := (by rw [hw]; exact HP70.2); have hp_ : Kd.R (Kd.int .i64) 3 w71 w.heap.size (fun k_ => some k_ ≠ (.slice (some ⟨go34, 0, none⟩) x5_3.length co63 : Value).ownBlock) (.slice (some ⟨go56, 0, none⟩) x4_3.length co69) y277 := (by rw [hw, Ny277.out]; exact HP70.1); clear HP70; have n0_ := Aside0.mk (hp_); have n1_ := Aside0.mk (Kd.R_after (v := (.slice (some ⟨go56, 0, none⟩) x4_3.length co69)) (v1 := (.slice (some ⟨go56, 0, none⟩) x4_3.length co69)) (ok := (fun _ => True)) (by (with_reducible repeat (first | apply Kd.R_alloc | apply Kd.R_drewN | apply Kd.R_drew)); exact Kd.R_mono HO_5.out (fun _ hk => ⟨trivial, hk⟩)) hg (.inl rfl)); have n2_ := Aside0.mk (blk_grown (g := gb258) (o := .cells #[.slice (some ad265) l0_0.length c0_0] 42 (0, 0)) (by (with_reducible repeat (first | refine blk_drewN ?_ _ | refine blk_drew ?_ | refine blk_alloc ?_ _)); exact BK258.out) hg (Kd.R_ne HO_4.out BK258.out (by decide))); have n3_ := Aside0.mk (blk_grown (g := gb266) (o := .cells #[.int .i64 ((rd_T58 l0_0 x21_1).f0), .int .i64 ((rd_T58 l0_0 x21_1).f1), .slice A265_2 ((rd_T58 l0_0 x21_1).f2).length c265_2, .slice (some ad269) ((rd_T58 l0_0 x21_1).f3).length c265_3] 58 (0, 0)) (by (with_reducible repeat (first | refine blk_drewN ?_ _ | refine blk_drew ?_ | refine blk_alloc ?_ _)); exact BK266.out) hg (Kd.R_ne HO_4.out BK266.out (by decide))); have n4_ := Aside0.mk (blk_grown (g := gb270) (o := .cells #[.string ((rd_T102 ((rd_T58 l0_0 x21_1).f3) x38_3).f0), .int .i64 ((rd_T102 ((rd_T58 l0_0 x21_1).f3) x38_3).f1)] 102 (0, 0)) (by (with_reducible repeat (first | refine blk_drewN ?_ _ | refine blk_drew ?_ | refine blk_alloc ?_ _)); exact BK270.out) hg (Kd.R_ne HO_4.out BK270.out (by decide))); have n5_ := Aside0.mk ((by rw [hw]; exact below_set (HB.out) GB56.out : Below w.heap.size w w71)); clear HO_4; clear HO_5; clear BK258; clear BK266; clear BK270; clear HB; have HO_4 := n0_; have HO_5 := n1_; have BK258 := n2_; have BK266 := n3_; have BK270 := n4_; have HB := n5_; clear n0_ n1_ n2_ n3_ n4_ n5_; clear hg hw hp_))
                                        go_roundg k3
                                        case measure => have := HK1.out; have := HJ14.out; have := HK3.out; omega
                                        case rel => exact ⟨(y277), (y272), (wrap64 (x38_3 + 1)), (by first | rfl | (simp; done) | (simp [*]; done)), H', ⟨by have := HK1.out; have := HJ14.out; have := HK3.out; omega⟩, ⟨by (with_reducible repeat (first | apply Kd.R_alloc | apply Kd.R_drewN | apply Kd.R_drew)); exact HO_4.out⟩, ⟨by (with_reducible repeat (first | apply Kd.R_alloc | apply Kd.R_drewN | apply Kd.R_drew)); exact Kd.R_mono HO_5.out (fun _ hk => hk.2)⟩, ⟨by (with_reducible repeat (first | refine blk_drewN ?_ _ | refine blk_drew ?_ | refine blk_alloc ?_ _)); exact BK258.out⟩, ⟨by (with_reducible repeat (first | refine blk_drewN ?_ _ | refine blk_drew ?_ | refine blk_alloc ?_ _)); exact BK266.out⟩, ⟨by repeat (first | (with_reducible first | exact HB.out | apply below_alloc | apply pw_below_drewN | apply below_drew1 | refine below_set ?_ GE258.out | refine below_set ?_ GE266.out | refine below_set ?_ GE270.out) | exact HB.out)⟩⟩
                                      · rw [if_neg c55] at H
                                        exact absurd H (by simp)
                                  · rw [if_neg c35] at H
                                    exact absurd H (by simp)
                                · rw [if_neg c33] at H
                                  exact absurd H (by simp)
                              · rw [if_neg c32] at H
                                exact absurd H (by simp)
                            · rw [if_neg c31] at H
                              exact absurd H (by simp)
                          · rw [if_neg c30] at H
                            exact absurd H (by simp)
                        · rw [if_neg c29] at H
                          have c29b0 : decide (x38_3 < (((rd_T58 l0_0 x21_1).f3).length : Int)) = false := decide_eq_false c29
                          clear c29
                          have H' := Aside0.mk H
                          clear H
                          go_wp2
                          go_roundg k3
                          case measure => have := HK1.out; have := HJ14.out; have := HK3.out; omega
                          case rel => exact ⟨(x4_3), (x5_3), (wrap64 (x21_1 + 1)), (by first | rfl | (simp; done) | (simp [*]; done)), H', ⟨by have := HK1.out; have := HJ14.out; have := HK3.out; omega⟩, ⟨by (with_reducible repeat (first | apply Kd.R_alloc | apply Kd.R_drewN | apply Kd.R_drew)); exact HO_4.out⟩, ⟨by (with_reducible repeat (first | apply Kd.R_alloc | apply Kd.R_drewN | apply Kd.R_drew)); exact HO_5.out⟩, ⟨by (with_reducible repeat (first | refine blk_drewN ?_ _ | refine blk_drew ?_ | refine blk_alloc ?_ _)); exact BK258.out⟩, ⟨by repeat (first | (with_reducible first | exact HB.out | apply below_alloc | apply pw_below_drewN | apply below_drew1 | refine below_set ?_ GE258.out | refine below_set ?_ GE266.out) | exact HB.out)⟩⟩
              · rw [if_neg c14] at H
                exact absurd H (by simp)
            · rw [if_neg c13] at H
              exact absurd H (by simp)
          · rw [if_neg c12] at H
            have c12b0 : decide (x21_1 < (l0_0.length : Int)) = false := decide_eq_false c12
            clear c12
            simp only [Option.some.injEq, Prod.mk.injEq] at H
            obtain ⟨rfl, rfl⟩ := H
            go_wp2
            go_ret2
            exact ⟨_, _, by first | rfl | (simp [errW_none, errW_some] <;> rfl) | (simp [*, errW_none, errW_some] <;> rfl), by (with_reducible repeat (first | apply Kd.R_alloc | apply Kd.R_drewN | apply Kd.R_drew)); exact HO_4.out, by (with_reducible repeat (first | apply Kd.R_alloc | apply Kd.R_drewN | apply Kd.R_drew)); exact HO_5.out, by repeat (first | (with_reducible first | exact HB.out | apply below_alloc | apply pw_below_drewN | apply below_drew1 | refine below_set ?_ GE258.out) | exact HB.out)⟩
    · rw [if_neg c3] at H
      exact absurd H (by simp)
  · rw [if_neg c2] at H
    exact absurd H (by simp)
end Go.Proofs.YtllfjmmdackgdaaDoor.PZ
end
