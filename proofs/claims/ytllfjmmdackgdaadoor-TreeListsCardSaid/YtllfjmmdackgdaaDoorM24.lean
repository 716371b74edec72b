import Derived.Test.YtllfjmmdackgdaaDoorM22
import Derived.Test.YtllfjmmdackgdaaDoorM23
import Derived.Deep.QuietTactic
import Derived.Deep.RegionHeld2
import Derived.Deep.Cut
set_option linter.unusedVariables false
set_option linter.unusedSimpArgs false
/-! GRead -/
section
namespace Go.Proofs.YtllfjmmdackgdaaDoor.PZ
open Go.RowKit Go.Proofs.YtllfjmmdackgdaaDoorW.PrintWords Go.Proofs.YtllfjmmdackgdaaDoorW.PrintLast Go.Proofs.YtllfjmmdackgdaaDoorW.PrintMore Go.Proofs.YtllfjmmdackgdaaDoor.Ord TD
attribute [local go_sem ↓] Go.wp_at_zero Go.wp_at_succ
set_option maxRecDepth 100000
set_option linter.unusedVariables false
set_option linter.unusedSimpArgs false
theorem part_eq (f : List Int) {i m i' m' : Nat} {bs : List Int} (hi : min i f.length = i') (hm : min m (f.length - i') = m') (h : (f.drop i').take m' = bs) : bs = partF f (i : Int) (m : Int) := by
  subst h hm hi
  unfold partF
  rw [Int.toNat_natCast, Int.toNat_natCast]
  rcases Nat.le_total i f.length with h | h
  · rw [Nat.min_eq_left h]
    rcases Nat.le_total m (f.length - i) with h2 | h2
    · rw [Nat.min_eq_left h2]
    · rw [Nat.min_eq_right h2, List.take_of_length_le (by rw [List.length_drop]; exact Nat.le_refl _), List.take_of_length_le (by rw [List.length_drop]; exact h2)]
  · rw [Nat.min_eq_right h, List.drop_of_length_le (Nat.le_refl _), List.drop_of_length_le h, List.take_nil, List.take_nil]
set_option maxHeartbeats 4000000 in
theorem read_walk (B b : Nat) (l : List S58) (x y z0 z1 : Value) (p : ByteArray) (a n : Int) (rs : List Value) (w : World) (hst : St B b l (x :: .string p :: y :: .int .i64 a :: .int .i64 n :: z0 :: z1 :: .slice none 0 0 :: rs) w) (ho : Ok l) (hp : p.size < 10000000) (hd : ∀ k, (nd l k).f2.length < 1000000000) :
    Calls Tryd.prog 74 #[.pointer (some ⟨b, 0, none⟩)] w fun en w' => (match readF l p a n with
      | .inl bs => en = .returned (.tuple #[]) ∧ ∃ vd, St B b l (x :: .string p :: y :: .int .i64 a :: .int .i64 n :: z0 :: z1 :: vd :: rs) w' ∧ Kd.R (Kd.int .u8) 5 w' B (fun k => k ≠ b) vd bs
      | .inr e => en = .panicked (wrong e)) ∧ BW B w w' := by
  obtain ⟨hBb, v, hw, hS⟩ := hst
  have hbl := blk_lt hw
  have hBw : B ≤ w.heap.size := by omega
  have hk4 : w.cell? ⟨b, 4, none⟩ = some (.int .i64 a) := (blk_cell hw 4).trans rfl
  have hk5 : w.cell? ⟨b, 5, none⟩ = some (.int .i64 n) := (blk_cell hw 5).trans rfl
  obtain ⟨g, cap, rfl, hBg, hgl, -⟩ := Kd.S_form hS ho.wf.pos
  have HW := Aside0.mk hw
  have HS := Aside0.mk hS
  have HO := Aside0.mk ho
  clear hw hS ho
  unfold readF
  cases hf : fileF l p with
  | inr e =>
    dsimp only
    have HF := Aside0.mk hf
    clear hf
    go_enter Tryd.func74, Tryd.ntmps74
    go_wp2_with (first | (go_at_call 96; (with_reducible refine (file_walk B b l _ p _ g cap _ hBb HW.out HS.out HO.out hp).mono ?_); rintro e w1 ⟨h1, hb⟩; rw [HF.out] at h1; subst h1; exact ⟨rfl, rfl, BW.mono hb hBw⟩))
  | inl k =>
    dsimp only
    have hkl := (fileF_lt HO.out hf).1
    have HF := Aside0.mk hf
    clear hf
    by_cases hn : 0 ≤ a ∧ 0 ≤ n
    · rw [if_pos hn]
      obtain ⟨hn0, hn1⟩ := hn
      obtain ⟨i, rfl⟩ : ∃ m : Nat, a = m := ⟨a.toNat, by omega⟩
      obtain ⟨m, rfl⟩ : ∃ m : Nat, n = m := ⟨n.toNat, by omega⟩
      have hd0 : decide ((0 : Int) ≤ (i : Int)) = true := decide_eq_true hn0
      have hd1 : decide ((0 : Int) ≤ (m : Int)) = true := decide_eq_true hn1
      have hdk := hd k
      dsimp only
      go_enter Tryd.func74, Tryd.ntmps74
      go_wp2_with (first
        | (go_at_call 96; (with_reducible refine (file_walk B b l _ p _ g cap _ hBb HW.out HS.out HO.out hp).mono ?_); rintro e w1 ⟨h1, hb⟩; rw [HF.out] at h1; subst h1; have hk4_ := (hb.cell (p := ⟨b, 4, none⟩) hbl).trans hk4; have hk5_ := (hb.cell (p := ⟨b, 5, none⟩) hbl).trans hk5; have HW1 := Aside0.mk (blk_below HW.out hb); have HS1 := Aside0.mk (Kd.S_below HS.out hb); have hbl1 := blk_lt HW1.out; have hB1 : B ≤ w1.heap.size := (by omega); obtain ⟨v2, v3, -, -, hx2, -, hR2, -, -, hgb, -, -, -⟩ := S_node hbl1 HS1.out k hkl hB1; obtain ⟨A2, c2, rfl, hl2, hC2⟩ := Kd.R_reads hR2; have HC := Aside0.mk hC2; have HB := Aside0.mk hb; clear hb hR2 hC2)
        | (go_at_call 81; (with_reducible refine (need_ok _ _).mono ?_); rintro e w9 ⟨rfl, h9⟩; subst w9))
      obtain ⟨i', hi'⟩ : ∃ i', min i (nd l k).f2.length = i' := ⟨_, rfl⟩
      obtain ⟨m', hm'⟩ : ∃ m', min m ((nd l k).f2.length - i') = m' := ⟨_, rfl⟩
      have hmin1 : (min (i : Int) ((nd l k).f2.length : Int)).toNat = i' := by omega
      have hmin2 : (min (m : Int) (((nd l k).f2.length - i' : Nat) : Int)).toNat = m' := by omega
      obtain ⟨bs, hbe⟩ : ∃ bs, ((nd l k).f2.drop i').take m' = bs := ⟨_, rfl⟩
      have HPF := Aside0.mk (part_eq (nd l k).f2 hi' hm' hbe)
      have hbs : bs.length = m' := by rw [← hbe, List.length_take, List.length_drop]; omega
      have hCd := Kd.C_drop HC.out (m := i') (c := c2) (by omega) hl2
      rw [show i' * (Kd.int .u8).sz = i' from Nat.mul_one _] at hCd
      have hCt := Kd.C_take hCd (m := m') (by rw [List.length_drop]; omega)
      rw [hbe] at hCt
      have hb1 : m' ≤ c2 - i' := by omega
      have hb2 : m' ≤ (nd l k).f2.length - i' := by omega
      have hb3 : i' ≤ (nd l k).f2.length := by omega
      have hb4 : i' ≤ c2 := by omega
      clear hCd hi' hm' hbe
      by_cases hcl : c2 = i'
      · rw [if_pos hcl] at hCt
        have hm0 : m' = 0 := by omega
        go_quiet (fail)
        go_wp2_with (first | (go_at_call 66; refine calls_of_args (args' := #[.slice A2 bs.length 0]) (by rw [hbs]; first | rfl | (rw [hm0])) ((cloneb_walk _ _ bs _ ?hC ?hc ?hn).mono ?_); (case hC => exact Kd.C_below hCt (pw_below_drewN (Below.refl _ _) _)); (case hc => rw [hbs]; omega); (case hn => rw [hbs]; omega); rintro e w2 ⟨v4, rfl, hr, hb⟩; obtain ⟨A4, n4, c4, rfl⟩ := R_any hr; have HB2 := Aside0.mk (below_step (pw_below_drewN (Below.refl w1.heap.size w1) _) hb); have HR := Aside0.mk (Kd.R_lower hr (show w1.heap.size ≤ (w1.drewN nq).heap.size from Nat.le_refl _)); have HW2 := Aside0.mk (blk_below HW1.out HB2.out); have hy8 : w2.cell? ⟨b, 8, none⟩ = some (.slice none 0 0) := (blk_cell HW2.out 8).trans rfl; have hyf : w2.frozen? ⟨b, 8, none⟩ = false := blk_frozen HW2.out 8; clear hr hb))
        go_end0
        refine ⟨⟨rfl, _, ⟨hBb, _, Wk.set HW2.out 7 _, Kd.S_far (p := ⟨b, 8, none⟩) (Kd.S_below HS1.out HB2.out) (fun k hk => hk) _⟩, ?_⟩, ?_⟩
        · rw [← HPF.out]
          exact Kd.R_lower (Kd.R_mono (Kd.R_step (Kd.R_bound HR.out) (fun k hk _ => Below.heap_setCell w2 ⟨b, 8, none⟩ _ k (by have := hk.2.1; show k ≠ b; omega))) (fun k hk => by have := hk.2.1; omega)) hB1
        · exact (BW.trans (BW.mono HB.out hBw) (BW.mono HB2.out hB1)).setW hBb HW2.out 8 _
      · rw [if_neg hcl] at hCt
        go_quiet (fail)
        go_wp2_with (first | (go_at_call 66; refine calls_of_args (args' := #[.slice (A2.map (fun x => x.add i')) bs.length (c2 - i')]) (by rw [hbs]; first | rfl | (rw [hm0])) ((cloneb_walk _ _ bs _ ?hC ?hc ?hn).mono ?_); (case hC => exact Kd.C_below hCt (pw_below_drewN (Below.refl _ _) _)); (case hc => rw [hbs]; omega); (case hn => rw [hbs]; omega); rintro e w2 ⟨v4, rfl, hr, hb⟩; obtain ⟨A4, n4, c4, rfl⟩ := R_any hr; have HB2 := Aside0.mk (below_step (pw_below_drewN (Below.refl w1.heap.size w1) _) hb); have HR := Aside0.mk (Kd.R_lower hr (show w1.heap.size ≤ (w1.drewN nq).heap.size from Nat.le_refl _)); have HW2 := Aside0.mk (blk_below HW1.out HB2.out); have hy8 : w2.cell? ⟨b, 8, none⟩ = some (.slice none 0 0) := (blk_cell HW2.out 8).trans rfl; have hyf : w2.frozen? ⟨b, 8, none⟩ = false := blk_frozen HW2.out 8; clear hr hb))
        go_end0
        refine ⟨⟨rfl, _, ⟨hBb, _, Wk.set HW2.out 7 _, Kd.S_far (p := ⟨b, 8, none⟩) (Kd.S_below HS1.out HB2.out) (fun k hk => hk) _⟩, ?_⟩, ?_⟩
        · rw [← HPF.out]
          exact Kd.R_lower (Kd.R_mono (Kd.R_step (Kd.R_bound HR.out) (fun k hk _ => Below.heap_setCell w2 ⟨b, 8, none⟩ _ k (by have := hk.2.1; show k ≠ b; omega))) (fun k hk => by have := hk.2.1; omega)) hB1
        · exact (BW.trans (BW.mono HB.out hBw) (BW.mono HB2.out hB1)).setW hBb HW2.out 8 _
    · rw [if_neg hn]
      dsimp only
      by_cases h0 : 0 ≤ a
      · have hd0 : decide ((0 : Int) ≤ a) = true := decide_eq_true h0
        have hd1 : decide ((0 : Int) ≤ n) = false := decide_eq_false fun h => hn ⟨h0, h⟩
        clear hn h0
        go_enter Tryd.func74, Tryd.ntmps74
        go_wp2_with (first
          | (go_at_call 96; (with_reducible refine (file_walk B b l _ p _ g cap _ hBb HW.out HS.out HO.out hp).mono ?_); rintro e w1 ⟨h1, hb⟩; rw [HF.out] at h1; subst h1; have hk4_ := (hb.cell (p := ⟨b, 4, none⟩) hbl).trans hk4; have hk5_ := (hb.cell (p := ⟨b, 5, none⟩) hbl).trans hk5; have HW1 := Aside0.mk (blk_below HW.out hb); have HS1 := Aside0.mk (Kd.S_below HS.out hb); have hbl1 := blk_lt HW1.out; have hB1 : B ≤ w1.heap.size := (by omega); obtain ⟨v2, v3, -, -, hx2, -, hR2, -, -, hgb, -, -, -⟩ := S_node hbl1 HS1.out k hkl hB1; obtain ⟨A2, c2, rfl, hl2, hC2⟩ := Kd.R_reads hR2; have HC := Aside0.mk hC2; have HB := Aside0.mk hb; clear hb hR2 hC2)
          | (go_at_call 81; (with_reducible refine (need_bad 28 _).mono ?_); rintro e w9 ⟨rfl, h9⟩; subst w9; exact ⟨rfl, rfl, BW.mono HB.out hBw⟩))
      · have hd0 : decide ((0 : Int) ≤ a) = false := decide_eq_false h0
        clear hn h0
        go_enter Tryd.func74, Tryd.ntmps74
        go_wp2_with (first
          | (go_at_call 96; (with_reducible refine (file_walk B b l _ p _ g cap _ hBb HW.out HS.out HO.out hp).mono ?_); rintro e w1 ⟨h1, hb⟩; rw [HF.out] at h1; subst h1; have hk4_ := (hb.cell (p := ⟨b, 4, none⟩) hbl).trans hk4; have hk5_ := (hb.cell (p := ⟨b, 5, none⟩) hbl).trans hk5; have HW1 := Aside0.mk (blk_below HW.out hb); have HS1 := Aside0.mk (Kd.S_below HS.out hb); have hbl1 := blk_lt HW1.out; have hB1 : B ≤ w1.heap.size := (by omega); obtain ⟨v2, v3, -, -, hx2, -, hR2, -, -, hgb, -, -, -⟩ := S_node hbl1 HS1.out k hkl hB1; obtain ⟨A2, c2, rfl, hl2, hC2⟩ := Kd.R_reads hR2; have HC := Aside0.mk hC2; have HB := Aside0.mk hb; clear hb hR2 hC2)
          | (go_at_call 81; (with_reducible refine (need_bad 28 _).mono ?_); rintro e w9 ⟨rfl, h9⟩; subst w9; exact ⟨rfl, rfl, BW.mono HB.out hBw⟩))
end Go.Proofs.YtllfjmmdackgdaaDoor.PZ
end
/-! GStat -/
section
namespace Go.Proofs.YtllfjmmdackgdaaDoor.PZ
open Go.RowKit Go.Proofs.YtllfjmmdackgdaaDoorW.PrintWords Go.Proofs.YtllfjmmdackgdaaDoorW.PrintLast Go.Proofs.YtllfjmmdackgdaaDoorW.PrintMore Go.Proofs.YtllfjmmdackgdaaDoor.Ord TD
attribute [local go_sem ↓] Go.wp_at_zero Go.wp_at_succ
set_option maxRecDepth 100000
set_option linter.unusedVariables false
set_option linter.unusedSimpArgs false
set_option maxHeartbeats 4000000 in
theorem stat_walk (B b : Nat) (l : List S58) (x y z0 z1 z2 z3 z4 z5 : Value) (p : ByteArray) (w : World) (hst : St B b l (x :: .string p :: y :: z0 :: z1 :: z2 :: z3 :: z4 :: z5 :: [.int .i64 0, .int .i64 0, .int .i64 0]) w) (ho : Ok l) (hp : p.size < 10000000) (hd : ∀ k, (nd l k).f2.length < 1000000000) :
    Calls Tryd.prog 77 #[.pointer (some ⟨b, 0, none⟩)] w fun en w' => (match placeF l p with
      | .inl k => en = .returned (.tuple #[]) ∧ St B b l (x :: .string p :: y :: z0 :: z1 :: z2 :: z3 :: z4 :: z5 :: [.int .i64 (nd l k).f0, .int .i64 (nd l k).f1, .int .i64 ((nd l k).f2.length + (nd l k).f3.length : Nat)]) w'
      | .inr e => en = .panicked (wrong e)) ∧ BW B w w' := by
  have hbl : b < w.heap.size := by obtain ⟨_, v, h, _⟩ := hst; exact blk_lt h
  have hBb : B ≤ b := hst.1
  have hBw : B ≤ w.heap.size := by omega
  have hk2 : w.cell? ⟨b, 2, none⟩ = some (.string p) := by obtain ⟨_, v, h, _⟩ := hst; exact (blk_cell h 2).trans rfl
  have HST := Aside0.mk hst
  have HO := Aside0.mk ho
  have HB := Aside0.mk (Below.refl w.heap.size w)
  obtain ⟨hBb', v, hw, hS⟩ := hst
  obtain ⟨g, cap, rfl, hBg, hgl, -⟩ := Kd.S_form hS ho.wf.pos
  have HW := Aside0.mk hw
  have HS := Aside0.mk hS
  clear hw hS ho
  unfold placeF
  by_cases h0 : (splitA p).2 = 0
  · rw [if_pos h0]
    cases hk : wk l (splitA p).1 0 with
    | inr n =>
      dsimp only
      have HK := Aside0.mk hk
      clear hk
      have hz0 : 0 < l.length := HO.out.wf.pos
      obtain ⟨v2, v3, hx0, hx1, hx2, hx3, hR2, hR3, -, hgb, -, -, -⟩ := S_node hbl HS.out 0 HO.out.wf.pos hBw
      obtain ⟨A2, c2, rfl, hl2, -⟩ := Kd.R_reads hR2
      obtain ⟨A3, c3, rfl, hl3, -⟩ := Kd.R_reads hR3
      have hy0 : w.cell? ⟨b, 0, none⟩ = some (.slice (some ⟨g, 0, none⟩) l.length cap) := (blk_cell HW.out 0).trans rfl
      clear hR2 hR3
      go_enter Tryd.func77, Tryd.ntmps77
      go_wp2
      go_region_held2 (fun w' => w'.cell? ⟨b, 0, none⟩ = some (.slice (some ⟨g, 0, none⟩) l.length cap) ∧ w'.cell? ⟨b, 2, none⟩ = some (.string p) ∧ w'.cell? ⟨g, 0 * 4, none⟩ = some (.int .i64 (nd l 0).f0) ∧ w'.cell? ⟨g, 0 * 4 + 1, none⟩ = some (.int .i64 (nd l 0).f1) ∧ w'.cell? ⟨g, 0 * 4 + 2, none⟩ = some (.slice A2 (nd l 0).f2.length c2) ∧ w'.cell? ⟨g, 0 * 4 + 3, none⟩ = some (.slice A3 (nd l 0).f3.length c3)) (first | exact hF.out.elim | go_loud (exact ⟨kcell (by repeat (first | exact HB.out | with_reducible apply below_drew1 | with_reducible apply below_alloc | (with_reducible refine Below.setCell ?_ (by first | exact Nat.le_refl _ | omega | (simp; omega)) _))) hbl hy0, kcell (by repeat (first | exact HB.out | with_reducible apply below_drew1 | with_reducible apply below_alloc | (with_reducible refine Below.setCell ?_ (by first | exact Nat.le_refl _ | omega | (simp; omega)) _))) hbl hk2, kcell (p := ⟨g, 0 * 4, none⟩) (by repeat (first | exact HB.out | with_reducible apply below_drew1 | with_reducible apply below_alloc | (with_reducible refine Below.setCell ?_ (by first | exact Nat.le_refl _ | omega | (simp; omega)) _))) hgl hx0, kcell (p := ⟨g, 0 * 4 + 1, none⟩) (by repeat (first | exact HB.out | with_reducible apply below_drew1 | with_reducible apply below_alloc | (with_reducible refine Below.setCell ?_ (by first | exact Nat.le_refl _ | omega | (simp; omega)) _))) hgl hx1, kcell (p := ⟨g, 0 * 4 + 2, none⟩) (by repeat (first | exact HB.out | with_reducible apply below_drew1 | with_reducible apply below_alloc | (with_reducible refine Below.setCell ?_ (by first | exact Nat.le_refl _ | omega | (simp; omega)) _))) hgl hx2, kcell (p := ⟨g, 0 * 4 + 3, none⟩) (by repeat (first | exact HB.out | with_reducible apply below_drew1 | with_reducible apply below_alloc | (with_reducible refine Below.setCell ?_ (by first | exact Nat.le_refl _ | omega | (simp; omega)) _))) hgl hx3⟩) | go_keep) (first | (go_at_call 56; (with_reducible refine (names_walk p _ hp).mono ?_); rintro e w1 ⟨h1, hb⟩; rw [if_pos h0] at h1; obtain ⟨An, cn, rfl, hcn, hCn⟩ := h1; have HCN := Aside0.mk hCn; obtain ⟨hbc1, hbf1⟩ := bcell hb; (try have qa := blk_below (blk_drew (blk_new w (.cells #[.int .i64 0, .int .i64 0, .slice none 0 0, .slice none 0 0] 58))) hb); (try (have qa0 : w1.cell? ⟨w.heap.size, 0, none⟩ = some (.int .i64 0) := (blk_cell qa 0).trans rfl; have qaf0 : w1.frozen? ⟨w.heap.size, 0, none⟩ = false := blk_frozen qa 0; have qa1 : w1.cell? ⟨w.heap.size, 1, none⟩ = some (.int .i64 0) := (blk_cell qa 1).trans rfl; have qaf1 : w1.frozen? ⟨w.heap.size, 1, none⟩ = false := blk_frozen qa 1; have qa2 : w1.cell? ⟨w.heap.size, 2, none⟩ = some (.slice none 0 0) := (blk_cell qa 2).trans rfl; have qaf2 : w1.frozen? ⟨w.heap.size, 2, none⟩ = false := blk_frozen qa 2; have qa3 : w1.cell? ⟨w.heap.size, 3, none⟩ = some (.slice none 0 0) := (blk_cell qa 3).trans rfl; have qaf3 : w1.frozen? ⟨w.heap.size, 3, none⟩ = false := blk_frozen qa 3));  clear hCn; have HB1 := Aside0.mk (Below.refl w1.heap.size w1); have n0_ := Aside0.mk (below_step (by repeat (first | exact HB.out | with_reducible apply below_drew1 | with_reducible apply below_alloc | with_reducible apply pw_below_drewN)) hb); clear HB hb; have HB := n0_; clear n0_; have hsz_ := HB.out.size; have hk2_ := (HB.out.cell (p := ⟨b, 2, none⟩) hbl).trans hk2) | (go_at_call 55; (with_reducible refine calls_dead (v := .int .i64 0) ((place_walk B b l _ An cn p _ (St.below HST.out (by repeat (first | exact HB.out | with_reducible apply below_drew1 | with_reducible apply below_alloc | with_reducible apply pw_below_drewN))) HO.out (Kd.C_below HCN.out (by repeat (first | with_reducible exact Below.refl _ _ | with_reducible apply below_drew1 | with_reducible apply below_alloc))) hcn).mono ?_) ?_); (rintro e w2 ⟨h1, hb⟩; rw [HK.out] at h1; subst h1; have n0_ := Aside0.mk (below_step (by repeat (first | exact HB.out | with_reducible apply below_drew1 | with_reducible apply below_alloc | with_reducible apply pw_below_drewN)) hb); clear HB hb; have HB := n0_; clear n0_; have hsz_ := HB.out.size; have hk2_ := (HB.out.cell (p := ⟨b, 2, none⟩) hbl).trans hk2; exact ⟨rfl, rfl, BW.mono (by repeat (first | exact HB.out | with_reducible apply below_drew1 | with_reducible apply below_alloc | with_reducible apply pw_below_drewN)) hBw⟩); (intro hF0; have hF := Aside0.mk hF0; clear hF0; dsimp only)))
      all_goals exact hF.out.elim
    | inl k =>
      dsimp only
      have hkl : k < l.length := wk_lt HO.out.wf HO.out.wf.pos hk
      have HK := Aside0.mk hk
      clear hk
      have hz0 : (0 : Int) ≤ (k : Int) := by omega
      have hz1 : (k : Int) < (l.length : Int) := by omega
      have hdk := hd k
      have hsm := HO.out.small k
      obtain ⟨v2, v3, hx0, hx1, hx2, hx3, hR2, hR3, -, hgb, -, -, -⟩ := S_node hbl HS.out k hkl hBw
      obtain ⟨A2, c2, rfl, hl2, -⟩ := Kd.R_reads hR2
      obtain ⟨A3, c3, rfl, hl3, -⟩ := Kd.R_reads hR3
      have hy0 : w.cell? ⟨b, 0, none⟩ = some (.slice (some ⟨g, 0, none⟩) l.length cap) := (blk_cell HW.out 0).trans rfl
      clear hR2 hR3
      go_enter Tryd.func77, Tryd.ntmps77
      go_wp2
      go_cut [2] from 3 (fun s2 w' => ∃ gn, s2 = .pointer (some ⟨gn, 0, none⟩) ∧ w.heap.size ≤ gn ∧ w'.cell? ⟨gn, 0, none⟩ = some (.int .i64 (nd l k).f0) ∧ w'.cell? ⟨gn, 1, none⟩ = some (.int .i64 (nd l k).f1) ∧ w'.cell? ⟨gn, 2, none⟩ = some (.slice A2 (nd l k).f2.length c2) ∧ w'.cell? ⟨gn, 3, none⟩ = some (.slice A3 (nd l k).f3.length c3) ∧ Below w.heap.size w w')
      case first =>
        go_region_held2 (fun w' => w'.cell? ⟨b, 0, none⟩ = some (.slice (some ⟨g, 0, none⟩) l.length cap) ∧ w'.cell? ⟨b, 2, none⟩ = some (.string p) ∧ w'.cell? ⟨g, k * 4, none⟩ = some (.int .i64 (nd l k).f0) ∧ w'.cell? ⟨g, k * 4 + 1, none⟩ = some (.int .i64 (nd l k).f1) ∧ w'.cell? ⟨g, k * 4 + 2, none⟩ = some (.slice A2 (nd l k).f2.length c2) ∧ w'.cell? ⟨g, k * 4 + 3, none⟩ = some (.slice A3 (nd l k).f3.length c3)) (first | exact ⟨kcell (by repeat (first | exact HB.out | with_reducible apply below_drew1 | with_reducible apply below_alloc | (with_reducible refine Below.setCell ?_ (by first | exact Nat.le_refl _ | omega | (simp; omega)) _))) hbl hy0, kcell (by repeat (first | exact HB.out | with_reducible apply below_drew1 | with_reducible apply below_alloc | (with_reducible refine Below.setCell ?_ (by first | exact Nat.le_refl _ | omega | (simp; omega)) _))) hbl hk2, kcell (p := ⟨g, k * 4, none⟩) (by repeat (first | exact HB.out | with_reducible apply below_drew1 | with_reducible apply below_alloc | (with_reducible refine Below.setCell ?_ (by first | exact Nat.le_refl _ | omega | (simp; omega)) _))) hgl hx0, kcell (p := ⟨g, k * 4 + 1, none⟩) (by repeat (first | exact HB.out | with_reducible apply below_drew1 | with_reducible apply below_alloc | (with_reducible refine Below.setCell ?_ (by first | exact Nat.le_refl _ | omega | (simp; omega)) _))) hgl hx1, kcell (p := ⟨g, k * 4 + 2, none⟩) (by repeat (first | exact HB.out | with_reducible apply below_drew1 | with_reducible apply below_alloc | (with_reducible refine Below.setCell ?_ (by first | exact Nat.le_refl _ | omega | (simp; omega)) _))) hgl hx2, kcell (p := ⟨g, k * 4 + 3, none⟩) (by repeat (first | exact HB.out | with_reducible apply below_drew1 | with_reducible apply below_alloc | (with_reducible refine Below.setCell ?_ (by first | exact Nat.le_refl _ | omega | (simp; omega)) _))) hgl hx3⟩ | go_keep) (first | (go_at_call 56; (with_reducible refine (names_walk p _ hp).mono ?_); rintro e w1 ⟨h1, hb⟩; rw [if_pos h0] at h1; obtain ⟨An, cn, rfl, hcn, hCn⟩ := h1; have HCN := Aside0.mk hCn; obtain ⟨hbc1, hbf1⟩ := bcell hb; (try have qa := blk_below (blk_drew (blk_new w (.cells #[.int .i64 0, .int .i64 0, .slice none 0 0, .slice none 0 0] 58))) hb); (try (have qa0 : w1.cell? ⟨w.heap.size, 0, none⟩ = some (.int .i64 0) := (blk_cell qa 0).trans rfl; have qaf0 : w1.frozen? ⟨w.heap.size, 0, none⟩ = false := blk_frozen qa 0; have qa1 : w1.cell? ⟨w.heap.size, 1, none⟩ = some (.int .i64 0) := (blk_cell qa 1).trans rfl; have qaf1 : w1.frozen? ⟨w.heap.size, 1, none⟩ = false := blk_frozen qa 1; have qa2 : w1.cell? ⟨w.heap.size, 2, none⟩ = some (.slice none 0 0) := (blk_cell qa 2).trans rfl; have qaf2 : w1.frozen? ⟨w.heap.size, 2, none⟩ = false := blk_frozen qa 2; have qa3 : w1.cell? ⟨w.heap.size, 3, none⟩ = some (.slice none 0 0) := (blk_cell qa 3).trans rfl; have qaf3 : w1.frozen? ⟨w.heap.size, 3, none⟩ = false := blk_frozen qa 3));  clear hCn; have HB1 := Aside0.mk (Below.refl w1.heap.size w1); have n0_ := Aside0.mk (below_step (by repeat (first | exact HB.out | with_reducible apply below_drew1 | with_reducible apply below_alloc | with_reducible apply pw_below_drewN)) hb); clear HB hb; have HB := n0_; clear n0_; have hsz_ := HB.out.size; have hk2_ := (HB.out.cell (p := ⟨b, 2, none⟩) hbl).trans hk2) | (go_at_call 55; (with_reducible refine (place_walk B b l _ An cn p _ (St.below HST.out (by repeat (first | exact HB.out | with_reducible apply below_drew1 | with_reducible apply below_alloc | with_reducible apply pw_below_drewN))) HO.out (Kd.C_below HCN.out (by repeat (first | with_reducible exact Below.refl _ _ | with_reducible apply below_drew1 | with_reducible apply below_alloc))) hcn).mono ?_); rintro e w2 ⟨h1, hb⟩; rw [HK.out] at h1; subst h1; obtain ⟨hbc2, hbf2⟩ := bcell hb; (try have qb := blk_below qa hb); (try (have qb0 : w2.cell? ⟨w.heap.size, 0, none⟩ = some (.int .i64 0) := (blk_cell qb 0).trans rfl; have qbf0 : w2.frozen? ⟨w.heap.size, 0, none⟩ = false := blk_frozen qb 0; have qb1 : w2.cell? ⟨w.heap.size, 1, none⟩ = some (.int .i64 0) := (blk_cell qb 1).trans rfl; have qbf1 : w2.frozen? ⟨w.heap.size, 1, none⟩ = false := blk_frozen qb 1; have qb2 : w2.cell? ⟨w.heap.size, 2, none⟩ = some (.slice none 0 0) := (blk_cell qb 2).trans rfl; have qbf2 : w2.frozen? ⟨w.heap.size, 2, none⟩ = false := blk_frozen qb 2; have qb3 : w2.cell? ⟨w.heap.size, 3, none⟩ = some (.slice none 0 0) := (blk_cell qb 3).trans rfl; have qbf3 : w2.frozen? ⟨w.heap.size, 3, none⟩ = false := blk_frozen qb 3)); (try have qc := blk_below (blk_new w1 (.cells #[.int .i64 0, .int .i64 0, .slice none 0 0, .slice none 0 0] 58)) hb); (try (have qc0 : w2.cell? ⟨w1.heap.size, 0, none⟩ = some (.int .i64 0) := (blk_cell qc 0).trans rfl; have qcf0 : w2.frozen? ⟨w1.heap.size, 0, none⟩ = false := blk_frozen qc 0; have qc1 : w2.cell? ⟨w1.heap.size, 1, none⟩ = some (.int .i64 0) := (blk_cell qc 1).trans rfl; have qcf1 : w2.frozen? ⟨w1.heap.size, 1, none⟩ = false := blk_frozen qc 1; have qc2 : w2.cell? ⟨w1.heap.size, 2, none⟩ = some (.slice none 0 0) := (blk_cell qc 2).trans rfl; have qcf2 : w2.frozen? ⟨w1.heap.size, 2, none⟩ = false := blk_frozen qc 2; have qc3 : w2.cell? ⟨w1.heap.size, 3, none⟩ = some (.slice none 0 0) := (blk_cell qc 3).trans rfl; have qcf3 : w2.frozen? ⟨w1.heap.size, 3, none⟩ = false := blk_frozen qc 3));  have n0_ := Aside0.mk (below_step (by repeat (first | exact HB.out | with_reducible apply below_drew1 | with_reducible apply below_alloc | with_reducible apply pw_below_drewN)) hb); clear HB hb; have HB := n0_; clear n0_; have hsz_ := HB.out.size; have hk2_ := (HB.out.cell (p := ⟨b, 2, none⟩) hbl).trans hk2))
        all_goals go_wp2
        all_goals go_meet
        all_goals refine ⟨_, rfl, ?_, ?_, ?_, ?_, ?_, (by repeat (first | exact HB.out | with_reducible apply below_drew1 | with_reducible apply below_alloc | (with_reducible refine Below.setCell ?_ (by first | exact Nat.le_refl _ | omega | (simp; omega)) _)))⟩
        all_goals first | exact Nat.le_refl _ | omega | (go_simp; done)
      case rest =>
        obtain ⟨gn, rfl, hgn, hn0, hn1, hn2, hn3, hBn⟩ := hcut
        have HBN := Aside0.mk hBn
        have HW1 := Aside0.mk (blk_below HW.out hBn)
        have HS1 := Aside0.mk (Kd.S_below HS.out hBn)
        have hgb : gn ≠ b := by omega
        have hy10 := blk_cell HW1.out 10
        have hy11 := blk_cell HW1.out 11
        have hy12 := blk_cell HW1.out 12
        have hf10 := blk_frozen HW1.out 10
        have hf11 := blk_frozen HW1.out 11
        have hf12 := blk_frozen HW1.out 12
        simp only [List.getElem?_toArray, List.getElem?_cons_zero, List.getElem?_cons_succ] at hy10 hy11 hy12
        have hkf : ∀ (W : World) (j i : Nat) (u : Value), (W.setCell ⟨b, j, none⟩ u).cell? ⟨gn, i, none⟩ = W.cell? ⟨gn, i, none⟩ := fun W j i u => cell_far (W := W) (p := ⟨b, j, none⟩) (a := ⟨gn, i, none⟩) hgb u
        have hsum : IntKind.i64.wrap (((nd l k).f2.length : Int) + ((nd l k).f3.length : Int)) = (((nd l k).f2.length + (nd l k).f3.length : Nat) : Int) := by rw [IntKind.wrap_i64]; omega
        clear hBn
        go_wp2
        go_region_held2 (fun w' => w'.cell? ⟨gn, 0, none⟩ = some (.int .i64 (nd l k).f0) ∧ w'.cell? ⟨gn, 1, none⟩ = some (.int .i64 (nd l k).f1) ∧ w'.cell? ⟨gn, 2, none⟩ = some (.slice A2 (nd l k).f2.length c2) ∧ w'.cell? ⟨gn, 3, none⟩ = some (.slice A3 (nd l k).f3.length c3)) (first | go_keep) (fail)
        go_end0
        rw [Int.natCast_add]
        refine ⟨⟨rfl, hBb, _, blk_drew (Wk.set (Wk.set (Wk.set HW1.out 9 _) 10 _) 11 _), Kd.S_drew (Kd.S_far (p := ⟨b, 12, none⟩) (Kd.S_far (p := ⟨b, 11, none⟩) (Kd.S_far (p := ⟨b, 10, none⟩) HS1.out (fun k hk => hk) _) (fun k hk => hk) _) (fun k hk => hk) _)⟩, ?_⟩
        exact (((BW.mono HBN.out hBw).setW hBb HW1.out 10 _ |>.setW hBb (Wk.set HW1.out 9 _) 11 _).setW hBb (Wk.set (Wk.set HW1.out 9 _) 10 _) 12 _).drew
  · rw [if_neg h0]
    dsimp only
    have hz0 : 0 < l.length := HO.out.wf.pos
    obtain ⟨v2, v3, hx0, hx1, hx2, hx3, hR2, hR3, -, hgb, -, -, -⟩ := S_node hbl HS.out 0 HO.out.wf.pos hBw
    obtain ⟨A2, c2, rfl, hl2, -⟩ := Kd.R_reads hR2
    obtain ⟨A3, c3, rfl, hl3, -⟩ := Kd.R_reads hR3
    have hy0 : w.cell? ⟨b, 0, none⟩ = some (.slice (some ⟨g, 0, none⟩) l.length cap) := (blk_cell HW.out 0).trans rfl
    clear hR2 hR3
    go_enter Tryd.func77, Tryd.ntmps77
    go_wp2
    go_region_held2 (fun w' => w'.cell? ⟨b, 0, none⟩ = some (.slice (some ⟨g, 0, none⟩) l.length cap) ∧ w'.cell? ⟨b, 2, none⟩ = some (.string p) ∧ w'.cell? ⟨g, 0 * 4, none⟩ = some (.int .i64 (nd l 0).f0) ∧ w'.cell? ⟨g, 0 * 4 + 1, none⟩ = some (.int .i64 (nd l 0).f1) ∧ w'.cell? ⟨g, 0 * 4 + 2, none⟩ = some (.slice A2 (nd l 0).f2.length c2) ∧ w'.cell? ⟨g, 0 * 4 + 3, none⟩ = some (.slice A3 (nd l 0).f3.length c3)) (first | exact hF.out.elim | exact ⟨kcell (by repeat (first | exact HB.out | with_reducible apply below_drew1 | with_reducible apply below_alloc | (with_reducible refine Below.setCell ?_ (by first | exact Nat.le_refl _ | omega | (simp; omega)) _))) hbl hy0, kcell (by repeat (first | exact HB.out | with_reducible apply below_drew1 | with_reducible apply below_alloc | (with_reducible refine Below.setCell ?_ (by first | exact Nat.le_refl _ | omega | (simp; omega)) _))) hbl hk2, kcell (p := ⟨g, 0 * 4, none⟩) (by repeat (first | exact HB.out | with_reducible apply below_drew1 | with_reducible apply below_alloc | (with_reducible refine Below.setCell ?_ (by first | exact Nat.le_refl _ | omega | (simp; omega)) _))) hgl hx0, kcell (p := ⟨g, 0 * 4 + 1, none⟩) (by repeat (first | exact HB.out | with_reducible apply below_drew1 | with_reducible apply below_alloc | (with_reducible refine Below.setCell ?_ (by first | exact Nat.le_refl _ | omega | (simp; omega)) _))) hgl hx1, kcell (p := ⟨g, 0 * 4 + 2, none⟩) (by repeat (first | exact HB.out | with_reducible apply below_drew1 | with_reducible apply below_alloc | (with_reducible refine Below.setCell ?_ (by first | exact Nat.le_refl _ | omega | (simp; omega)) _))) hgl hx2, kcell (p := ⟨g, 0 * 4 + 3, none⟩) (by repeat (first | exact HB.out | with_reducible apply below_drew1 | with_reducible apply below_alloc | (with_reducible refine Below.setCell ?_ (by first | exact Nat.le_refl _ | omega | (simp; omega)) _))) hgl hx3⟩ | go_keep) (first | (go_at_call 56; (with_reducible refine calls_dead (v := .slice none 0 0) ((names_walk p _ hp).mono ?_) ?_); (rintro e w1 ⟨h1, hb⟩; rw [if_neg h0] at h1; subst h1; have n0_ := Aside0.mk (below_step (by repeat (first | exact HB.out | with_reducible apply below_drew1 | with_reducible apply below_alloc | with_reducible apply pw_below_drewN)) hb); clear HB hb; have HB := n0_; clear n0_; have hsz_ := HB.out.size; have hk2_ := (HB.out.cell (p := ⟨b, 2, none⟩) hbl).trans hk2; exact ⟨rfl, rfl, BW.mono (by repeat (first | exact HB.out | with_reducible apply below_drew1 | with_reducible apply below_alloc | with_reducible apply pw_below_drewN)) hBw⟩); (intro hF0; have hF := Aside0.mk hF0; clear hF0; dsimp only)) | (go_at_call 55; (with_reducible refine calls_dead (v := .int .i64 0) hF.out.elim ?_); intro hF1; clear hF1; dsimp only))
    all_goals exact hF.out.elim
end Go.Proofs.YtllfjmmdackgdaaDoor.PZ
end
