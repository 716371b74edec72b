import Derived.Test.YtllfjmmdackgdaaDoorM33
import Derived.Test.YtllfjmmdackgdaaDoorM27
import Derived.Test.YtllfjmmdackgdaaDoorM07
import Derived.Test.YtllfjmmdackgdaaDoorM23
import Derived.Test.YtllfjmmdackgdaaDoorM16
import Derived.Test.YtllfjmmdackgdaaDoorM09
import Derived.Tactics
import Derived.Tactics2
import Derived.Defers
import Derived.Recover
import Derived.Laws.Pointers
set_option linter.unusedVariables false
set_option linter.unusedSimpArgs false
/-! TQ -/
section
namespace Go.Proofs.YtllfjmmdackgdaaDoor.PZ
open Go.RowKit Go.Proofs.YtllfjmmdackgdaaDoorW.PrintWords Go.Proofs.YtllfjmmdackgdaaDoorW.PrintLast Go.Proofs.YtllfjmmdackgdaaDoorW.PrintMore Go.Proofs.YtllfjmmdackgdaaDoor.Ord Go.Proofs.YtllfjmmdackgdaaDoor.B TD
set_option linter.unusedVariables false
set_option linter.unusedSimpArgs false
theorem wk_err {l : List S58} (ns : List ByteArray) : ∀ {at_ : Nat} {n : Int}, wk l ns at_ = .inr n → n ≠ 0 := by
  induction ns with
  | nil => intro at_ n h; cases h
  | cons m ns ih =>
    intro at_ n h
    rw [wk] at h
    split at h
    · split at h
      · exact ih h
      · injection h with h; omega
    · injection h with h; omega
theorem place_err {l : List S58} {p : ByteArray} {n : Int} (h : placeF l p = .inr n) : n ≠ 0 := by
  unfold placeF at h
  split at h
  · exact wk_err _ h
  · rename_i h0; injection h with h; rw [← h]; exact h0
theorem spot_err {l : List S58} {p : ByteArray} {n : Int} (h : spotF l p = .inr n) : n ≠ 0 := by
  unfold spotF at h
  split at h
  · split at h
    · rename_i hw; injection h with h; rw [← h]; exact wk_err _ hw
    · split at h
      · cases h
      · injection h with h; omega
  · rename_i h0; injection h with h; rw [← h]; exact h0
theorem file_err {l : List S58} {p : ByteArray} {n : Int} (h : fileF l p = .inr n) : n ≠ 0 := by
  unfold fileF at h
  split at h
  · rename_i hw; injection h with h; rw [← h]; exact place_err hw
  · split at h
    · injection h with h; omega
    · cases h
theorem plain_err {X : List S58 ⊕ Int} {n : Int} (hX : ∀ m, X = .inr m → m ≠ 0) (h : plain X = .inr n) : n ≠ 0 := by
  cases X with
  | inl l => cases h
  | inr m => injection h with h; rw [← h]; exact hX m rfl
theorem workF_err {l : List S58} {o : S39} {n : Int} (h : workF l o = .inr n) : n ≠ 0 := by
  unfold workF at h
  have hcr : ∀ kd m, createF l o.f1 kd = .inr m → m ≠ 0 := fun kd m h => by
    unfold createF at h
    split at h
    · injection h with h; omega
    · split at h
      · rename_i hs; injection h with h; rw [← h]; exact spot_err hs
      · injection h with h; omega
      · split at h
        · injection h with h; omega
        · split at h
          · cases h
          · injection h with h; omega
  by_cases e1 : o.f0 = 1
  · rw [if_pos e1] at h
    exact plain_err (hcr 1) h
  rw [if_neg e1] at h
  by_cases e2 : o.f0 = 2
  · rw [if_pos e2] at h
    exact plain_err (hcr 2) h
  rw [if_neg e2] at h
  by_cases e3 : o.f0 = 3
  · rw [if_pos e3] at h
    refine plain_err (fun m h => ?_) h
    unfold linkF at h
    split at h
    · rename_i h0; injection h with h; rw [← h]; exact h0
    split at h
    · rename_i h0; injection h with h; rw [← h]; exact h0
    split at h
    · rename_i hw; injection h with h; rw [← h]; exact wk_err _ hw
    split at h
    · injection h with h; omega
    split at h
    · injection h with h; omega
    split at h
    · rename_i hs; injection h with h; rw [← h]; exact spot_err hs
    · injection h with h; omega
    split at h
    · split at h
      · injection h with h; omega
      · cases h
    · injection h with h; omega
  rw [if_neg e3] at h
  by_cases e4 : o.f0 = 4
  · rw [if_pos e4] at h
    refine plain_err (fun m h => ?_) h
    unfold unlinkF at h
    split at h
    · rename_i hw; injection h with h; rw [← h]; exact place_err hw
    split at h
    · injection h with h; omega
    split at h
    · rename_i hs; injection h with h; rw [← h]; exact spot_err hs
    · cases h
  rw [if_neg e4] at h
  by_cases e5 : o.f0 = 5
  · rw [if_pos e5] at h
    refine plain_err (fun m h => ?_) h
    unfold rmdirF at h
    split at h
    · rename_i hw; injection h with h; rw [← h]; exact place_err hw
    split at h
    · split at h
      · injection h with h; omega
      split at h
      · rename_i hs; injection h with h; rw [← h]; exact spot_err hs
      · cases h
    · injection h with h; omega
  rw [if_neg e5] at h
  by_cases e6 : o.f0 = 6
  · rw [if_pos e6] at h
    refine plain_err (fun m h => ?_) h
    unfold renameF at h
    split at h
    · rename_i h0; injection h with h; rw [← h]; exact h0
    split at h
    · rename_i h0; injection h with h; rw [← h]; exact h0
    split at h
    · injection h with h; omega
    split at h
    · rename_i hw; injection h with h; rw [← h]; exact wk_err _ hw
    split at h
    · injection h with h; omega
    split at h
    · rename_i hs; injection h with h; rw [← h]; exact spot_err hs
    split at h
    · rename_i hs; injection h with h; rw [← h]; exact spot_err hs
    unfold moveF at h
    split at h
    · split at h
      · cases h
      · injection h with h; omega
    · split at h
      · cases h
      split at h
      · injection h with h; omega
      split at h
      · injection h with h; omega
      split at h
      · injection h with h; omega
      · cases h
  rw [if_neg e6] at h
  by_cases e7 : o.f0 = 7
  · rw [if_pos e7] at h
    split at h
    · cases h
    · rename_i hx
      injection h with h
      rw [← h]
      unfold readF at hx
      split at hx
      · rename_i hw; injection hx with hx; rw [← hx]; exact file_err hw
      · split at hx
        · cases hx
        · injection hx with hx; omega
  rw [if_neg e7] at h
  by_cases e8 : o.f0 = 8
  · rw [if_pos e8] at h
    split at h
    · cases h
    · rename_i hx
      injection h with h
      rw [← h]
      unfold writeF at hx
      split at hx
      · rename_i hw; injection hx with hx; rw [← hx]; exact file_err hw
      · split at hx
        · cases hx
        · injection hx with hx; omega
  rw [if_neg e8] at h
  by_cases e9 : o.f0 = 9
  · rw [if_pos e9] at h
    refine plain_err (fun m hx => ?_) h
    unfold truncF at hx
    split at hx
    · rename_i hw; injection hx with hx; rw [← hx]; exact file_err hw
    · split at hx
      · cases hx
      · injection hx with hx; omega
  rw [if_neg e9] at h
  by_cases e10 : o.f0 = 10
  · rw [if_pos e10] at h
    split at h
    · cases h
    · rename_i hx; injection h with h; rw [← h]; exact place_err hx
  rw [if_neg e10] at h
  by_cases e11 : o.f0 = 11
  · rw [if_pos e11] at h
    split at h
    · cases h
    · rename_i hx
      injection h with h
      rw [← h]
      unfold listF at hx
      split at hx
      · rename_i hw; injection hx with hx; rw [← hx]; exact place_err hw
      · split at hx
        · cases hx
        · injection hx with hx; omega
  rw [if_neg e11] at h
  by_cases e12 : o.f0 = 12
  · rw [if_pos e12] at h
    cases h
  rw [if_neg e12] at h
  by_cases e13 : o.f0 = 13
  · rw [if_pos e13] at h
    split at h
    · cases h
    · rename_i hx; injection h with h; rw [← h]; exact place_err hx
  rw [if_neg e13] at h
  injection h with h; omega
end Go.Proofs.YtllfjmmdackgdaaDoor.PZ
end
/-! GTClone -/
section
namespace Go.Proofs.YtllfjmmdackgdaaDoor.PZ
open Go.RowKit Go.Proofs.YtllfjmmdackgdaaDoorW.PrintWords Go.Proofs.YtllfjmmdackgdaaDoorW.PrintLast Go.Proofs.YtllfjmmdackgdaaDoorW.PrintMore TD
attribute [local go_sem ↓] Go.wp_at_zero Go.wp_at_succ
set_option maxRecDepth 100000
set_option linter.unusedVariables false
set_option linter.unusedSimpArgs false
/-- The first i are copied. -/
def halfL (l : List S58) (i : Nat) : List (S58 × Bool) := (l.take i).map (·, true) ++ (l.drop i).map (·, false)
theorem halfL_at (l : List S58) (i : Nat) (h : i < l.length) : (halfL l i)[i]? = some (l[i], false) := by
  unfold halfL
  rw [List.getElem?_append_right (by rw [List.length_map, List.length_take]; omega), List.length_map, List.length_take, Nat.min_eq_left (by omega), Nat.sub_self, List.getElem?_map, List.getElem?_drop, Nat.add_zero, List.getElem?_eq_getElem h]
  rfl
theorem halfL_set (l : List S58) (i : Nat) (h : i < l.length) : (halfL l i).set i (l[i], true) = halfL l (i + 1) := by
  unfold halfL
  rw [List.set_append_right _ _ (by rw [List.length_map, List.length_take]; omega), List.length_map, List.length_take, Nat.min_eq_left (by omega), Nat.sub_self, List.drop_eq_getElem_cons h, List.map_cons, List.set_cons_zero, List.take_succ_eq_append_getElem h, List.map_append, List.append_assoc]
  rfl
theorem halfL_end (l : List S58) : halfL l l.length = l.map (·, true) := by
  unfold halfL
  rw [List.take_length, List.drop_length, List.map_nil, List.append_nil]
set_option maxHeartbeats 4000000 in
theorem tclone_walk (ad : Addr) (c0 : Nat) (l : List S58) (w : World) (hr0 : Kd.C k58 w (some ad) l.length l) (hc0 : l.length ≤ c0) (hn : l.length < 1000000) (hp : 0 < l.length) (hd : ∀ x ∈ l, x.f2.length < 1000000000 ∧ x.f3.length < 1000000000) :
    Calls Tryd.prog 44 #[.agg #[.slice (some ad) l.length c0]] w fun e w' => ∃ v : Value, e = .returned (.agg #[v]) ∧ Kd.S k58 58 w' w.heap.size (fun _ => True) v l ∧ Below w.heap.size w w' := by
  have HC := Aside0.mk hr0
  have HD := Aside0.mk hd
  clear hr0 hd
  obtain ⟨W0, hW0⟩ : ∃ W0, (w.alloc (.cells #[.slice (some ad) l.length c0] 42)).alloc (.cells #[.slice none 0 0] 42) = W0 := ⟨_, rfl⟩
  have hsW : W0.heap.size = w.heap.size + 2 := by rw [← hW0]; simp
  have HW0 := Aside0.mk hW0
  have HB00 : Aside0 (Below w.heap.size w W0) := ⟨hW0 ▸ below_alloc (below_alloc (Below.refl _ _) _) _⟩
  have HRES : Aside0 (W0.heap[w.heap.size + 1]? = some (.cells #[.slice none 0 0] 42 (0, 0))) := ⟨by rw [← hW0]; have h := blk_new (w.alloc (.cells #[.slice (some ad) l.length c0] 42)) (.cells #[.slice none 0 0] 42); simpa using h⟩
  clear hW0
  go_enter Tryd.func44, Tryd.ntmps44
  go_wp2_with (first | (go_at_call 65; (with_reducible refine (clonen_walk ad c0 l _ ?hC hc0 (by omega)).mono ?_); (case hC => exact Kd.C_below HC.out (by repeat (first | with_reducible exact Below.refl _ _ | with_reducible apply below_drew1 | with_reducible apply below_alloc))); rintro e w1 ⟨v, rfl, hs, hb⟩; rw [HW0.out] at hs hb; obtain ⟨g, cap, rfl, hbg, hgl, -⟩ := Kd.S_form hs (by rw [List.length_map]; exact hp); rw [List.length_map] at hs ⊢; have HS := Aside0.mk hs; have HB := Aside0.mk hb; have hsz := hb.size; have hb1 : w.heap.size + 2 ≤ g := (by rw [← hsW]; exact hbg); have hb2 : w.heap.size + 2 ≤ w1.heap.size := (by rw [← hsW]; exact hsz); clear hs hb hbg hsz))
  have HOUT := Aside0.mk (blk_new w1 (.cells #[.slice (some ⟨g, 0, none⟩) l.length cap] 42))
  go_loopw [13] (fun v13 wr => ∃ i : Nat, v13 = .int .i64 i ∧ i ≤ l.length ∧ Aside0 (wr.heap[w1.heap.size]? = some (.cells #[.slice (some ⟨g, 0, none⟩) l.length cap] 42 (0, 0))) ∧ Aside0 (wr.heap[w.heap.size + 1]? = some (.cells #[.slice none 0 0] 42 (0, 0))) ∧ Aside0 (Kd.S (kH W0) 58 wr W0.heap.size (fun _ => True) (.slice (some ⟨g, 0, none⟩) l.length cap) (halfL l i)) ∧ Aside0 (Below W0.heap.size W0 wr)) (fun v13 _ => l.length - (intOf v13).toNat)
  case atStart => exact ⟨0, rfl, Nat.zero_le _, HOUT, ⟨blk_alloc (blk_below HRES.out HB.out) _⟩, ⟨Kd.S_alloc HS.out _⟩, ⟨below_alloc HB.out _⟩⟩
  case round =>
    obtain ⟨i, rfl, hi, HO, HR, HSr, HBr⟩ := hrel
    by_cases hlt : i < l.length
    · obtain ⟨A2, c2, A3, c3, hy2, hy3, hl2, hC2, hl3, hC3, hfr, hgr, hput⟩ := half_node HSr.out i l[i] (halfL_at l i hlt) HBr.out.size
      have hdi := HD.out l[i] (List.getElem_mem hlt)
      have hyo := (blk_cell HO.out 0).trans (show _ = some (Value.slice (some ⟨g, 0, none⟩) l.length cap) from rfl)
      have hf2 := hfr 2
      have hf3 := hfr 3
      have HC2 := Aside0.mk hC2
      have HC3 := Aside0.mk hC3
      have HP := Aside0.mk hput
      have HSET := Aside0.mk (halfL_set l i hlt)
      have hi0 : (0 : Int) ≤ (i : Int) := by omega
      have hi1 : (i : Int) < (l.length : Int) := by omega
      clear hC2 hC3 hput hfr
      generalize l[i] = x at *
      go_wp2
      go_region_with (first
        | (go_at_call 66; (with_reducible refine (cloneb_walk A2 c2 x.f2 _ ?hC hl2 ?hn).mono ?_); (case hC => exact Kd.C_below HC2.out (below_drew1 HBr.out)); (case hn => omega); rintro e w2 ⟨u2, rfl, hr, hb⟩; obtain ⟨B2, n2, k2, rfl⟩ := R_any hr; have HB2 := Aside0.mk (below_step (below_drew1 (Below.refl wr.heap.size wr)) hb); have HR2 := Aside0.mk (Kd.R_lower hr (show wr.heap.size ≤ wr.drew.heap.size from Nat.le_refl _)); have hz2 := (HB2.out.cell (p := ⟨g, i * 4 + 2, none⟩) hgr).trans hy2; have hz3 := (HB2.out.cell (p := ⟨g, i * 4 + 3, none⟩) hgr).trans hy3; have hzf2 := (HB2.out.frozen (p := ⟨g, i * 4 + 2, none⟩) hgr).trans hf2; have hzf3 := (HB2.out.frozen (p := ⟨g, i * 4 + 3, none⟩) hgr).trans hf3; clear hr hb)
        | (go_at_call 67; (with_reducible refine (clone_walk A3 c3 x.f3 _ ?hC hl3 ?hn).mono ?_); (case hC => exact Kd.C_below HC3.out (below_step HBr.out HB2.out)); (case hn => omega); rintro e w3 ⟨u3, rfl, hr, hb⟩; obtain ⟨B3, n3, k3, rfl⟩ := R_any hr; have HB3 := Aside0.mk (below_step HB2.out hb); have HR3 := Aside0.mk (Kd.R_lower hr HB2.out.size); have HR23 := Aside0.mk (Kd.R_below HR2.out hb); have hzz2 := (HB3.out.cell (p := ⟨g, i * 4 + 2, none⟩) hgr).trans hy2; have hzz3 := (HB3.out.cell (p := ⟨g, i * 4 + 3, none⟩) hgr).trans hy3; have hzzf2 := (HB3.out.frozen (p := ⟨g, i * 4 + 2, none⟩) hgr).trans hf2; have hzzf3 := (HB3.out.frozen (p := ⟨g, i * 4 + 3, none⟩) hgr).trans hf3; clear hr hb))
      all_goals go_wp2
      all_goals
        go_roundw
        case rel =>
          refine ⟨i + 1, by go_num, by omega, ⟨blk_far (p := ⟨g, i * 4 + 3, none⟩) (blk_far (p := ⟨g, i * 4 + 2, none⟩) (blk_below HO.out HB3.out) (Nat.ne_of_gt hgl) _) (Nat.ne_of_gt hgl) _⟩, ⟨blk_far (p := ⟨g, i * 4 + 3, none⟩) (blk_far (p := ⟨g, i * 4 + 2, none⟩) (blk_below HR.out HB3.out) (Nat.ne_of_lt hb1) _) (Nat.ne_of_lt hb1) _⟩, ⟨?_⟩, ⟨?_⟩⟩
          · rw [← HSET.out]
            exact HP.out _ _ _ HB3.out HR23.out HR3.out
          · exact ((below_step HBr.out HB3.out).setCell (p := ⟨g, i * 4 + 2, none⟩) (by rw [hsW]; exact hb1) _).setCell (p := ⟨g, i * 4 + 3, none⟩) (by rw [hsW]; exact hb1) _
        case measure => simp [intOf]; omega
    · have hil : i = l.length := by omega
      subst hil
      have hge : ¬ ((l.length : Int) < (l.length : Int)) := Int.lt_irrefl _
      have hyo := (blk_cell HO.out 0).trans (show _ = some (Value.slice (some ⟨g, 0, none⟩) l.length cap) from rfl)
      have hyr := (blk_cell HR.out 0).trans (show _ = some (Value.slice none 0 0) from rfl)
      have hfr := blk_frozen HR.out 0
      have HSD := HSr.out
      rw [halfL_end] at HSD
      have HSE := Aside0.mk (half_done HSD)
      clear HSD
      go_wp2
      have HRP := Aside0.mk (blk_put HR.out 0 (.slice (some ⟨g, 0, none⟩) l.length cap) rfl)
      refine bodyPost_ret (results_c rfl _ _ (w.heap.size + 1) 42 _ (0, 0) _ rfl HRP.out Tryd.underlying42 rfl (by kernel_rfl)) rfl ⟨_, rfl, ?_, ?_⟩
      · exact Kd.S_lower (Kd.S_set HSE.out HR.out (by decide) 0 _) (by omega)
      · exact (Below.trans HB00.out (Below.mono HBr.out (by omega))).setCell (p := ⟨w.heap.size + 1, 0, none⟩) (Nat.le_succ _) _
end Go.Proofs.YtllfjmmdackgdaaDoor.PZ
end
/-! GCatch -/
section
namespace Go.Proofs.YtllfjmmdackgdaaDoor.PZ
open Go.RowKit Go.Proofs.YtllfjmmdackgdaaDoorW.PrintWords Go.Proofs.YtllfjmmdackgdaaDoorW.PrintLast Go.Proofs.YtllfjmmdackgdaaDoorW.PrintMore
set_option maxRecDepth 100000
set_option linter.unusedVariables false
set_option linter.unusedSimpArgs false
theorem catch_wrong (p : Addr) (x e : Int) (older : List PanicEntry) (w : World) (hc : w.cell? p = some (.int .i64 x)) (hz : w.frozen? p = false) :
    CallsD Tryd.prog 68 #[.pointer (some p)] (.panicking ({ v := .iface 24 (.int .i64 e), recovered := false } :: older)) w fun en u' w' =>
      en = .returned (.tuple #[]) ∧ u' = .panicking ({ v := .iface 24 (.int .i64 e), recovered := true } :: older) ∧ w' = w.setCell p (.int .i64 e) := by
  have hta : ∀ W, (Instr.typeAssert (.iface 24 (.int .i64 e)) 20 24 false).run Tryd.prog W = .ok (.int .i64 e) W := fun W => by rfl
  refine callsD_of_wpS Tryd.func68 rfl fun c₀ cs hu => ?_
  apply wpS_seq
  apply wpS_region
  simp [wpOpsS, go_sem, recoverD, hu, Tryd.ntmps68, Exit.thenS]
  apply wpS_seq
  apply wpS_region
  simp [wpOpsS, go_sem, Array.replicate, Exit.thenS]
  refine wpS_cond (t := true) (by simp [Act.eval, Array.replicate]) ?_
  simp only [if_true]
  apply wpS_region
  simp [wpOpsS, go_sem, hta, hc, hz, bodyPostS, results, Tryd.results68]
theorem catch_idle (p : Addr) (w : World) :
    CallsD Tryd.prog 68 #[.pointer (some p)] .returning w fun en u' w' => en = .returned (.tuple #[]) ∧ u' = .returning ∧ w' = w := by
  refine callsD_of_wpS Tryd.func68 rfl fun c₀ cs hu => ?_
  apply wpS_seq
  apply wpS_region
  simp [wpOpsS, go_sem, recoverD, hu, Tryd.ntmps68, Exit.thenS]
  apply wpS_seq
  apply wpS_region
  simp [wpOpsS, go_sem, Array.replicate, Exit.thenS]
  refine wpS_cond (t := false) (by simp [Act.eval, Array.replicate]) ?_
  simp only [Bool.false_eq_true, if_false]
  refine wpS_of_wp (wp_skip ?_)
  cases c₀
  simp_all [bodyPostS, results, Tryd.results68]
end Go.Proofs.YtllfjmmdackgdaaDoor.PZ
end
/-! GCaught -/
section
namespace Go.Proofs.YtllfjmmdackgdaaDoor.PZ
open Go.RowKit Go.Proofs.YtllfjmmdackgdaaDoorW.PrintWords Go.Proofs.YtllfjmmdackgdaaDoorW.PrintLast Go.Proofs.YtllfjmmdackgdaaDoorW.PrintMore
set_option maxRecDepth 100000
set_option linter.unusedVariables false
set_option linter.unusedSimpArgs false
/-- The world in which the caught function runs: the answer's variable is there. -/
def inner0 (w : World) : World := w.alloc (.cells #[.int .i64 0] 24)
theorem caught_ok (pw : Value) (w : World) (Q : World → Prop)
    (hrun : Calls Tryd.prog 46 #[pw] (inner0 w) fun en w' => en = .returned (.tuple #[]) ∧ w'.cell? ⟨w.heap.size, 0, none⟩ = some (.int .i64 0) ∧ w'.frozen? ⟨w.heap.size, 0, none⟩ = false ∧ Q w') :
    Calls Tryd.prog 45 #[.func (.func 46) #[pw] #[]] w fun en w' => en = .returned (.int .i64 0) ∧ ∃ w1, Q w1 ∧ w' = w1.setCell ⟨w.heap.size, 0, none⟩ (.int .i64 0) := by
  have hmf : ∀ (fn : Fn) (first cap : Array Value) (w : World), (Instr.makeFunc fn first cap).run Tryd.prog w = .ok (.func fn first cap) w := fun _ _ _ _ => rfl
  unfold inner0 at hrun
  go_enter_defers Tryd.func45, Tryd.ntmps45
  go_wp2_with (go_at_call 46; refine hrun.mono ?_; rintro e w1 ⟨rfl, hc, hz, hq⟩)
  refine leaves_cons (f := 68) (args := #[.pointer (some ⟨w.heap.size, 0, none⟩)]) (by simp) (by simp [go_sem]) ?_
  refine (catch_idle ⟨w.heap.size, 0, none⟩ _).mono ?_
  rintro e u' w'' ⟨rfl, rfl, rfl⟩
  have hs : (w1.setCell ⟨w.heap.size, 0, none⟩ (.int .i64 0)).cell? ⟨w.heap.size, 0, none⟩ = some (.int .i64 0) := World.cell?_setCell_same _ _ _ hc
  simp [Leaves, settle, results, Tryd.results45, go_sem]
  rw [hs]
  exact ⟨_, rfl, rfl, w1, hq, rfl⟩
theorem caught_bad (pw : Value) (n : Int) (w : World) (Q : World → Prop)
    (hrun : Calls Tryd.prog 46 #[pw] (inner0 w) fun en w' => en = .panicked (wrong n) ∧ w'.cell? ⟨w.heap.size, 0, none⟩ = some (.int .i64 0) ∧ w'.frozen? ⟨w.heap.size, 0, none⟩ = false ∧ Q w') :
    Calls Tryd.prog 45 #[.func (.func 46) #[pw] #[]] w fun en w' => en = .returned (.int .i64 n) ∧ ∃ w1, Q w1 ∧ w' = w1.setCell ⟨w.heap.size, 0, none⟩ (.int .i64 n) := by
  have hmf : ∀ (fn : Fn) (first cap : Array Value) (w : World), (Instr.makeFunc fn first cap).run Tryd.prog w = .ok (.func fn first cap) w := fun _ _ _ _ => rfl
  unfold inner0 at hrun
  go_enter_defers Tryd.func45, Tryd.ntmps45
  go_wp2_with (go_at_call 46; refine hrun.mono ?_; rintro e w1 ⟨rfl, hc, hz, hq⟩)
  refine leaves_cons (f := 68) (args := #[.pointer (some ⟨w.heap.size, 0, none⟩)]) (by simp) (by simp [go_sem]) ?_
  refine (catch_wrong ⟨w.heap.size, 0, none⟩ 0 n [] _ hc hz).mono ?_
  rintro e u' w'' ⟨rfl, rfl, rfl⟩
  have hs : (w1.setCell ⟨w.heap.size, 0, none⟩ (.int .i64 n)).cell? ⟨w.heap.size, 0, none⟩ = some (.int .i64 n) := World.cell?_setCell_same _ _ _ hc
  simp [Leaves, settle, results, Tryd.results45, go_sem]
  rw [hs]
  exact ⟨_, rfl, rfl, w1, hq, rfl⟩
end Go.Proofs.YtllfjmmdackgdaaDoor.PZ
end
