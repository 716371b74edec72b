import Derived.Test.YtbhjggbijkjmnaaGreatDoorM21
import Derived.Deep.RegionHeld3
import Derived.Test.YtbhjggbijkjmnaaGreatDoorM02
import Derived.Lib.SliceRun
import Derived.Deep.QuietTactic
import Derived.Deep.RegionHeld2
import Derived.Deep.Cut
set_option linter.unusedVariables false
set_option linter.unusedSimpArgs false
section
namespace Go.Proofs.YtbhjggbijkjmnaaGreatDoor.PZ
open Go.RowKit Go.Proofs.YtbhjggbijkjmnaaGreatDoorW.PrintWords Go.Proofs.YtbhjggbijkjmnaaGreatDoorW.PrintLast Go.Proofs.YtbhjggbijkjmnaaGreatDoorW.PrintMore Go.Proofs.YtbhjggbijkjmnaaGreatDoor.B Go.Proofs.YtbhjggbijkjmnaaGreatDoor.Ord TD
set_option maxRecDepth 100000
section
attribute [local go_sem ↓] Go.wp_at_zero Go.wp_at_succ
theorem fileF_lt {l : List S52} {p : ByteArray} {k : Nat} (ho : Ok l) (h : fileF l p = .inl k) : k < l.length ∧ (nd l k).f0 ≠ 2 ∧ (Qah p).2 = 0 ∧ wk l (Qah p).1 0 = .inl k := by
 unfold fileF Qav at h
 by_cases h0 : (Qah p).2 = 0
 ·
  rw [if_pos h0] at h
  cases hk : wk l (Qah p).1 0 with
  | inr n => rw [hk] at h; cases h
  | inl j =>
   rw [hk] at h
   dsimp only at h
   split at h
   · cases h
   ·
    rename_i hn
    injection h with h
    subst h
    exact ⟨wk_lt ho.wf ho.wf.pos hk, hn, h0, rfl⟩
 ·
  rw [if_neg h0] at h
  cases h
set_option maxHeartbeats 4000000 in
theorem trunc_walk (B b : Nat) (l : List S52) (x y z : Value) (p : ByteArray) (n : Int) (rs : List Value) (w : World) (hst : St B b l (x :: .string p :: y :: z :: .int .i64 n :: rs) w) (ho : Ok l) (hp : p.size < 10000000) (hd : ∀ k, (nd l k).f2.length < 1000000000) :
  Calls Tryz.prog 55 #[.pointer (some ⟨b, 0, none⟩)] w fun en w' => OpPost B b (x :: .string p :: y :: z :: .int .i64 n :: rs) w (Qgo l p n) en w' := by
 obtain ⟨hBb, v, hw, hS⟩ := hst
 have hbl := Qai hw
 have hBw : B ≤ w.heap.size := by omega
 have hk5 : w.cell? ⟨b, 5, none⟩ = some (.int .i64 n) := (Qab hw 5).trans rfl
 obtain ⟨g, cap, rfl, hBg, hgl, -⟩ := Kd.S_form hS ho.wf.pos
 have HW := am hw
 have HS := am hS
 have HO := am ho
 clear hw hS ho
 unfold Qgo
 cases hf : fileF l p with
 | inr e =>
  dsimp only
  have HF := am hf
  clear hf
  go_enter Tryz.func55, Tryz.ntmps55
  go_wp2_with (first | (go_at_call 79; (with_reducible refine (Qbq B b l _ p _ g cap _ hBb HW.out HS.out HO.out hp).mono ?_); rintro e w1 ⟨h1, hb⟩; rw [HF.out] at h1; subst h1; exact ⟨rfl, rfl, BW.mono hb hBw⟩))
 | inl k =>
  dsimp only
  have hkl := (fileF_lt HO.out hf).1
  have HF := am hf
  clear hf
  by_cases hn : 0 ≤ n ∧ n ≤ 46368
  ·
   rw [if_pos hn]
   obtain ⟨hn0, hn1⟩ := hn
   obtain ⟨m, rfl⟩ : ∃ m : Nat, n = m := ⟨n.toNat, by omega⟩
   have hd0 : decide ((0 : Int) ≤ (m : Int)) = true := decide_eq_true hn0
   have hd1 : decide ((m : Int) ≤ 46368) = true := decide_eq_true hn1
   rw [Int.toNat_natCast]
   have hdk := hd k
   go_enter Tryz.func55, Tryz.ntmps55
   go_wp2_with (first
    | (go_at_call 79; (with_reducible refine (Qbq B b l _ p _ g cap _ hBb HW.out HS.out HO.out hp).mono ?_); rintro e w1 ⟨h1, hb⟩; rw [HF.out] at h1; subst h1; have hk5_ := (hb.cell (p := ⟨b, 5, none⟩) hbl).trans hk5; have HW1 := am (Qaf HW.out hb); have hS1 := Kd.S_below HS.out hb; have hbl1 := Qai HW1.out; have hB1 : B ≤ w1.heap.size := zq3; obtain ⟨v2, v3, -, -, hx2, -, hR2, -, hfr, hgb, -, -, hput⟩ := Qdf hbl1 hS1 k hkl hB1; obtain ⟨A2, c2, rfl, hl2, hC2⟩ := Kd.R_reads hR2; have hf2 := hfr 2; have HP := am hput; have HC := am hC2; have HB := am hb; have hgl1 := World.block_lt_of_cell? _ _ hx2; clear hb hS1 hR2 hfr hput hC2)
    | (go_at_call 64; (with_reducible refine (Qau _ _).mono ?_); rintro e w9 ⟨rfl, h9⟩; subst w9))
   have hgb5 : g ≠ b := hgb
   go_region_with (first | (go_at_call 80; (with_reducible refine (sized_walk A2 c2 (nd l k).f2 m _ ?hC hl2 ?hm).mono ?_); (case hC => exact Kd.C_drew HC.out); (case hm => omega); rintro e w2 ⟨v4, rfl, hr, hb⟩; obtain ⟨A4, n4, c4, rfl⟩ := R_any hr; have HB2 := am (Qa (Qad (Below.refl w1.heap.size w1)) hb); have HR := am (Kd.R_lower hr (show w1.heap.size ≤ w1.drew.heap.size from Nat.le_refl _)); have hy2 : w2.cell? ⟨g, k * 4 + 2, none⟩ = some (.slice A2 (nd l k).f2.length c2) := (HB2.out.cell (p := ⟨g, k * 4 + 2, none⟩) hgl1).trans hx2; have hyf : w2.frozen? ⟨g, k * 4 + 2, none⟩ = false := (HB2.out.frozen (p := ⟨g, k * 4 + 2, none⟩) hgl1).trans hf2; have hy5 : w2.cell? ⟨b, 5, none⟩ = some (.int .i64 (m : Int)) := (HB2.out.cell (p := ⟨b, 5, none⟩) hbl1).trans hk5_; have HKP : ∀ v, Aside0 ((w2.setCell ⟨g, k * 4 + 2, none⟩ v).cell? ⟨b, 5, none⟩ = some (.int .i64 (m : Int))) := fun v => ⟨(cell_far (W := w2) (p := ⟨g, k * 4 + 2, none⟩) (a := ⟨b, 5, none⟩) (Ne.symm hgb) v).trans hy5⟩; clear hr hb))
   all_goals go_wp2
   all_goals go_end0
   all_goals refine ⟨⟨rfl, hBb, _, Qam (p := ⟨g, k * 4 + 2, none⟩) (Qaf HW1.out HB2.out) (Ne.symm hgb) _, HP.out w2 _ _ HB2.out HR.out⟩, ?_⟩
   all_goals exact (BW.trans (BW.mono HB.out hBw) (BW.mono HB2.out hB1)).setN hBg (Kd.S_below (Kd.S_below HS.out HB.out) HB2.out) (k * 4 + 2) _
  ·
   rw [if_neg hn]
   by_cases h0 : 0 ≤ n
   ·
    have hd0 : decide ((0 : Int) ≤ n) = true := decide_eq_true h0
    have hd1 : decide (n ≤ 46368) = false := decide_eq_false fun h => hn ⟨h0, h⟩
    clear hn h0
    go_enter Tryz.func55, Tryz.ntmps55
    go_wp2_with (first
     | (go_at_call 79; (with_reducible refine (Qbq B b l _ p _ g cap _ hBb HW.out HS.out HO.out hp).mono ?_); rintro e w1 ⟨h1, hb⟩; rw [HF.out] at h1; subst h1; have hk5_ := (hb.cell (p := ⟨b, 5, none⟩) hbl).trans hk5; have HW1 := am (Qaf HW.out hb); have hS1 := Kd.S_below HS.out hb; have hbl1 := Qai HW1.out; have hB1 : B ≤ w1.heap.size := zq3; obtain ⟨v2, v3, -, -, hx2, -, hR2, -, hfr, hgb, -, -, hput⟩ := Qdf hbl1 hS1 k hkl hB1; obtain ⟨A2, c2, rfl, hl2, hC2⟩ := Kd.R_reads hR2; have hf2 := hfr 2; have HP := am hput; have HC := am hC2; have HB := am hb; have hgl1 := World.block_lt_of_cell? _ _ hx2; clear hb hS1 hR2 hfr hput hC2)
     | (go_at_call 64; (with_reducible refine (Qaw 28 _).mono ?_); rintro e w9 ⟨rfl, h9⟩; subst w9; exact ⟨rfl, rfl, BW.mono HB.out hBw⟩))
   ·
    have hd0 : decide ((0 : Int) ≤ n) = false := decide_eq_false h0
    clear hn h0
    go_enter Tryz.func55, Tryz.ntmps55
    go_wp2_with (first
     | (go_at_call 79; (with_reducible refine (Qbq B b l _ p _ g cap _ hBb HW.out HS.out HO.out hp).mono ?_); rintro e w1 ⟨h1, hb⟩; rw [HF.out] at h1; subst h1; have hk5_ := (hb.cell (p := ⟨b, 5, none⟩) hbl).trans hk5; have HW1 := am (Qaf HW.out hb); have hS1 := Kd.S_below HS.out hb; have hbl1 := Qai HW1.out; have hB1 : B ≤ w1.heap.size := zq3; obtain ⟨v2, v3, -, -, hx2, -, hR2, -, hfr, hgb, -, -, hput⟩ := Qdf hbl1 hS1 k hkl hB1; obtain ⟨A2, c2, rfl, hl2, hC2⟩ := Kd.R_reads hR2; have hf2 := hfr 2; have HP := am hput; have HC := am hC2; have HB := am hb; have hgl1 := World.block_lt_of_cell? _ _ hx2; clear hb hS1 hR2 hfr hput hC2)
     | (go_at_call 64; (with_reducible refine (Qaw 28 _).mono ?_); rintro e w9 ⟨rfl, h9⟩; subst w9; exact ⟨rfl, rfl, BW.mono HB.out hBw⟩))
end
theorem Qgr (A0 : Option Addr) (c0 : Nat) (l0 : List Int) (w : World) (hr0 : Kd.C (Kd.int .u8) w A0 l0.length l0) (hc0 : l0.length ≤ c0) (hn : l0.length < 1000000000000) :
  Calls Tryz.prog 45 #[.slice A0 l0.length c0] w fun e w' => ∃ v0_ : Value, e = .returned v0_ ∧ Kd.R (Kd.int .u8) 5 w' w.heap.size (fun _ => True) v0_ l0 ∧ Below w.heap.size w w' := by
 cases A0 with
 | none =>
  have h0 : l0 = [] := by
   rcases Nat.eq_zero_or_pos l0.length with h | h
   · exact List.eq_nil_of_length_eq_zero h
   ·
    obtain ⟨ad, e, _⟩ := Kd.at_int hr0 0 zq3 zq3
    cases e
  subst h0
  have hnil : ∀ W, (binOp .eql 29 (.slice none 0 c0) (.slice none 0 0)).run Tryz.prog W = .ok (.bool true) W := fun W => Lib.run_eql_slice_nil (P := Tryz.prog) W 29 5 none 0 c0 0 0 Tryz.underlying29
  go_enter Tryz.func45, Tryz.ntmps45
  go_wp2
  go_ret
  exact ⟨_, rfl, Kd.R_nil _ _ _ _ _, Below.refl _ _⟩
 | some ad =>
  have HR0 := am hr0
  clear hr0
  have hnil : ∀ W, (binOp .eql 29 (.slice (some ad) l0.length c0) (.slice none 0 0)).run Tryz.prog W = .ok (.bool false) W := fun W => Lib.run_eql_slice_nil (P := Tryz.prog) W 29 5 (some ad) l0.length c0 0 0 Tryz.underlying29
  have HB := am (Below.refl w.heap.size w)
  go_enter Tryz.func45, Tryz.ntmps45
  go_wp2_with (first | ((with_reducible refine Qbx (N := 5) rfl ?_); refine Kd.R_lit (Kd.int .u8) _ 5 ?hg (N := 5) ?hd (xs := ([] : List Int)) (inner := []) (ok := fun _ => True) (okp := fun _ => True) ?hr ?hp (fun _ hk => hk) trivial (Below.refl _ _) (Nat.le_refl _) zq14 ?_; (case hd => rfl); (case hg => rfl); (case hr => first | (go_simp; done) | (go_simp; rfl)); (case hp => exact (Reps.none _ _)); intro v1 w1 ho hb hg_ hnew_; clear hg_ hnew_; have HO := am ho; have HB1 := am hb; clear hb ho) | ((with_reducible refine Qas (b := .append) (xs := #[.tmp 5, .tmp 6]) rfl ?_); at_builtin; refine Kd.R_append_rows (Kd.int .u8) (w0 := w) w.heap.size rfl (.tmp 5) (.tmp 6) 29 5 (.int .u8 0) 1 rfl Tryz.underlying29 info5 rfl zq9 zq3 v1 [] l0 _ _ _ (fun _ => True) (fun _ => False) rfl rfl ?aO ?aR (fun _ _ h => h) (fun _ h => h.elim) (fun _ _ => trivial) ?aB ?aS ?aL ?_; (case aR => exact Kd.C_below HR0.out HB1.out); (case aB => exact HB1.out); (case aO => exact HO.out); (case aS => exact HB1.out.size); (case aL => simp; omega); intro v2 w2 ho hb hg hat; have HO2 := am ho; have HB2 := am hb; clear ho hb hg hat))
  go_ret
  exact ⟨_, rfl, HO2.out, HB2.out⟩
section
attribute [local go_sem ↓] Go.wp_at_zero Go.wp_at_succ
theorem part_eq (f : List Int) {i m i' m' : Nat} {bs : List Int} (hi : min i f.length = i') (hm : min m (f.length - i') = m') (h : (f.drop i').take m' = bs) : bs = partF f (i : Int) (m : Int) := by
 subst h hm hi
 unfold partF
 rw [Int.toNat_natCast, Int.toNat_natCast]
 rcases Nat.le_total i f.length with h | h
 ·
  rw [Nat.min_eq_left h]
  rcases Nat.le_total m (f.length - i) with h2 | h2
  · rw [Nat.min_eq_left h2]
  · rw [Nat.min_eq_right h2, List.take_of_length_le (by rw [List.length_drop]; exact Nat.le_refl _), List.take_of_length_le (by rw [List.length_drop]; exact h2)]
 · rw [Nat.min_eq_right h, List.drop_of_length_le (Nat.le_refl _), List.drop_of_length_le h, List.take_nil, List.take_nil]
set_option maxHeartbeats 4000000 in
theorem read_walk (B b : Nat) (l : List S52) (x y z0 z1 : Value) (p : ByteArray) (a n : Int) (rs : List Value) (w : World) (hst : St B b l (x :: .string p :: y :: .int .i64 a :: .int .i64 n :: z0 :: z1 :: .slice none 0 0 :: rs) w) (ho : Ok l) (hp : p.size < 10000000) (hd : ∀ k, (nd l k).f2.length < 1000000000) :
  Calls Tryz.prog 53 #[.pointer (some ⟨b, 0, none⟩)] w fun en w' => (match readF l p a n with
   | .inl bs => en = .returned (.tuple #[]) ∧ ∃ vd, St B b l (x :: .string p :: y :: .int .i64 a :: .int .i64 n :: z0 :: z1 :: vd :: rs) w' ∧ Kd.R (Kd.int .u8) 5 w' B (fun k => k ≠ b) vd bs
   | .inr e => en = .panicked (wrong e)) ∧ BW B w w' := by
 obtain ⟨hBb, v, hw, hS⟩ := hst
 have hbl := Qai hw
 have hBw : B ≤ w.heap.size := by omega
 have hk4 : w.cell? ⟨b, 4, none⟩ = some (.int .i64 a) := (Qab hw 4).trans rfl
 have hk5 : w.cell? ⟨b, 5, none⟩ = some (.int .i64 n) := (Qab hw 5).trans rfl
 obtain ⟨g, cap, rfl, hBg, hgl, -⟩ := Kd.S_form hS ho.wf.pos
 have HW := am hw
 have HS := am hS
 have HO := am ho
 clear hw hS ho
 unfold readF
 cases hf : fileF l p with
 | inr e =>
  dsimp only
  have HF := am hf
  clear hf
  go_enter Tryz.func53, Tryz.ntmps53
  go_wp2_with (first | (go_at_call 79; (with_reducible refine (Qbq B b l _ p _ g cap _ hBb HW.out HS.out HO.out hp).mono ?_); rintro e w1 ⟨h1, hb⟩; rw [HF.out] at h1; subst h1; exact ⟨rfl, rfl, BW.mono hb hBw⟩))
 | inl k =>
  dsimp only
  have hkl := (fileF_lt HO.out hf).1
  have HF := am hf
  clear hf
  by_cases hn : 0 ≤ a ∧ 0 ≤ n
  ·
   rw [if_pos hn]
   obtain ⟨hn0, hn1⟩ := hn
   obtain ⟨i, rfl⟩ : ∃ m : Nat, a = m := ⟨a.toNat, by omega⟩
   obtain ⟨m, rfl⟩ : ∃ m : Nat, n = m := ⟨n.toNat, by omega⟩
   have hd0 : decide ((0 : Int) ≤ (i : Int)) = true := decide_eq_true hn0
   have hd1 : decide ((0 : Int) ≤ (m : Int)) = true := decide_eq_true hn1
   have hdk := hd k
   dsimp only
   go_enter Tryz.func53, Tryz.ntmps53
   go_wp2_with (first
    | (go_at_call 79; (with_reducible refine (Qbq B b l _ p _ g cap _ hBb HW.out HS.out HO.out hp).mono ?_); rintro e w1 ⟨h1, hb⟩; rw [HF.out] at h1; subst h1; have hk4_ := (hb.cell (p := ⟨b, 4, none⟩) hbl).trans hk4; have hk5_ := (hb.cell (p := ⟨b, 5, none⟩) hbl).trans hk5; have HW1 := am (Qaf HW.out hb); have HS1 := am (Kd.S_below HS.out hb); have hbl1 := Qai HW1.out; have hB1 : B ≤ w1.heap.size := zq3; obtain ⟨v2, v3, -, -, hx2, -, hR2, -, -, hgb, -, -, -⟩ := Qdf hbl1 HS1.out k hkl hB1; obtain ⟨A2, c2, rfl, hl2, hC2⟩ := Kd.R_reads hR2; have HC := am hC2; have HB := am hb; clear hb hR2 hC2)
    | (go_at_call 64; (with_reducible refine (Qau _ _).mono ?_); rintro e w9 ⟨rfl, h9⟩; subst w9))
   obtain ⟨i', hi'⟩ : ∃ i', min i (nd l k).f2.length = i' := ⟨_, rfl⟩
   obtain ⟨m', hm'⟩ : ∃ m', min m ((nd l k).f2.length - i') = m' := ⟨_, rfl⟩
   have hmin1 : (min (i : Int) ((nd l k).f2.length : Int)).toNat = i' := by omega
   have hmin2 : (min (m : Int) (((nd l k).f2.length - i' : Nat) : Int)).toNat = m' := by omega
   obtain ⟨bs, hbe⟩ : ∃ bs, ((nd l k).f2.drop i').take m' = bs := ⟨_, rfl⟩
   have HPF := am (part_eq (nd l k).f2 hi' hm' hbe)
   have hbs : bs.length = m' := by rw [← hbe, List.length_take, List.length_drop]; omega
   have hCd := Kd.C_drop HC.out (m := i') (c := c2) zq3 hl2
   rw [show i' * (Kd.int .u8).sz = i' from Nat.mul_one _] at hCd
   have hCt := Kd.C_take hCd (m := m') (by rw [List.length_drop]; omega)
   rw [hbe] at hCt
   have hb1 : m' ≤ c2 - i' := by omega
   have hb2 : m' ≤ (nd l k).f2.length - i' := by omega
   have hb3 : i' ≤ (nd l k).f2.length := by omega
   have hb4 : i' ≤ c2 := by omega
   clear hCd hi' hm' hbe
   by_cases hcl : c2 = i'
   ·
    rw [if_pos hcl] at hCt
    have hm0 : m' = 0 := by omega
    go_quiet (fail)
    go_wp2_with (first | (go_at_call 45; refine Qhh (args' := #[.slice A2 bs.length 0]) (by rw [hbs]; first | rfl | (rw [hm0])) ((Qgr _ _ bs _ ?hC ?hc ?hn).mono ?_); (case hC => exact Kd.C_below hCt (Qac (Below.refl _ _) _)); (case hc => rw [hbs]; omega); (case hn => rw [hbs]; omega); rintro e w2 ⟨v4, rfl, hr, hb⟩; obtain ⟨A4, n4, c4, rfl⟩ := R_any hr; have HB2 := am (Qa (Qac (Below.refl w1.heap.size w1) _) hb); have HR := am (Kd.R_lower hr (show w1.heap.size ≤ (w1.drewN nq).heap.size from Nat.le_refl _)); have HW2 := am (Qaf HW1.out HB2.out); have hy8 : w2.cell? ⟨b, 8, none⟩ = some (.slice none 0 0) := (Qab HW2.out 8).trans rfl; have hyf : w2.frozen? ⟨b, 8, none⟩ = false := Qag HW2.out 8; clear hr hb))
    go_end0
    refine ⟨⟨rfl, _, ⟨hBb, _, Wk.set HW2.out 7 _, Kd.S_far (p := ⟨b, 8, none⟩) (Kd.S_below HS1.out HB2.out) (fun k hk => hk) _⟩, ?_⟩, ?_⟩
    ·
     rw [← HPF.out]
     exact Kd.R_lower (Kd.R_mono (Kd.R_step (Kd.R_bound HR.out) (fun k hk _ => Below.heap_setCell w2 ⟨b, 8, none⟩ _ k (by have := hk.2.1; show k ≠ b; omega))) (fun k hk => by have := hk.2.1; omega)) hB1
    · exact (BW.trans (BW.mono HB.out hBw) (BW.mono HB2.out hB1)).setW hBb HW2.out 8 _
   ·
    rw [if_neg hcl] at hCt
    go_quiet (fail)
    go_wp2_with (first | (go_at_call 45; refine Qhh (args' := #[.slice (A2.map (fun x => x.add i')) bs.length (c2 - i')]) (by rw [hbs]; first | rfl | (rw [hm0])) ((Qgr _ _ bs _ ?hC ?hc ?hn).mono ?_); (case hC => exact Kd.C_below hCt (Qac (Below.refl _ _) _)); (case hc => rw [hbs]; omega); (case hn => rw [hbs]; omega); rintro e w2 ⟨v4, rfl, hr, hb⟩; obtain ⟨A4, n4, c4, rfl⟩ := R_any hr; have HB2 := am (Qa (Qac (Below.refl w1.heap.size w1) _) hb); have HR := am (Kd.R_lower hr (show w1.heap.size ≤ (w1.drewN nq).heap.size from Nat.le_refl _)); have HW2 := am (Qaf HW1.out HB2.out); have hy8 : w2.cell? ⟨b, 8, none⟩ = some (.slice none 0 0) := (Qab HW2.out 8).trans rfl; have hyf : w2.frozen? ⟨b, 8, none⟩ = false := Qag HW2.out 8; clear hr hb))
    go_end0
    refine ⟨⟨rfl, _, ⟨hBb, _, Wk.set HW2.out 7 _, Kd.S_far (p := ⟨b, 8, none⟩) (Kd.S_below HS1.out HB2.out) (fun k hk => hk) _⟩, ?_⟩, ?_⟩
    ·
     rw [← HPF.out]
     exact Kd.R_lower (Kd.R_mono (Kd.R_step (Kd.R_bound HR.out) (fun k hk _ => Below.heap_setCell w2 ⟨b, 8, none⟩ _ k (by have := hk.2.1; show k ≠ b; omega))) (fun k hk => by have := hk.2.1; omega)) hB1
    · exact (BW.trans (BW.mono HB.out hBw) (BW.mono HB2.out hB1)).setW hBb HW2.out 8 _
  ·
   rw [if_neg hn]
   dsimp only
   by_cases h0 : 0 ≤ a
   ·
    have hd0 : decide ((0 : Int) ≤ a) = true := decide_eq_true h0
    have hd1 : decide ((0 : Int) ≤ n) = false := decide_eq_false fun h => hn ⟨h0, h⟩
    clear hn h0
    go_enter Tryz.func53, Tryz.ntmps53
    go_wp2_with (first
     | (go_at_call 79; (with_reducible refine (Qbq B b l _ p _ g cap _ hBb HW.out HS.out HO.out hp).mono ?_); rintro e w1 ⟨h1, hb⟩; rw [HF.out] at h1; subst h1; have hk4_ := (hb.cell (p := ⟨b, 4, none⟩) hbl).trans hk4; have hk5_ := (hb.cell (p := ⟨b, 5, none⟩) hbl).trans hk5; have HW1 := am (Qaf HW.out hb); have HS1 := am (Kd.S_below HS.out hb); have hbl1 := Qai HW1.out; have hB1 : B ≤ w1.heap.size := zq3; obtain ⟨v2, v3, -, -, hx2, -, hR2, -, -, hgb, -, -, -⟩ := Qdf hbl1 HS1.out k hkl hB1; obtain ⟨A2, c2, rfl, hl2, hC2⟩ := Kd.R_reads hR2; have HC := am hC2; have HB := am hb; clear hb hR2 hC2)
     | (go_at_call 64; (with_reducible refine (Qaw 28 _).mono ?_); rintro e w9 ⟨rfl, h9⟩; subst w9; exact ⟨rfl, rfl, BW.mono HB.out hBw⟩))
   ·
    have hd0 : decide ((0 : Int) ≤ a) = false := decide_eq_false h0
    clear hn h0
    go_enter Tryz.func53, Tryz.ntmps53
    go_wp2_with (first
     | (go_at_call 79; (with_reducible refine (Qbq B b l _ p _ g cap _ hBb HW.out HS.out HO.out hp).mono ?_); rintro e w1 ⟨h1, hb⟩; rw [HF.out] at h1; subst h1; have hk4_ := (hb.cell (p := ⟨b, 4, none⟩) hbl).trans hk4; have hk5_ := (hb.cell (p := ⟨b, 5, none⟩) hbl).trans hk5; have HW1 := am (Qaf HW.out hb); have HS1 := am (Kd.S_below HS.out hb); have hbl1 := Qai HW1.out; have hB1 : B ≤ w1.heap.size := zq3; obtain ⟨v2, v3, -, -, hx2, -, hR2, -, -, hgb, -, -, -⟩ := Qdf hbl1 HS1.out k hkl hB1; obtain ⟨A2, c2, rfl, hl2, hC2⟩ := Kd.R_reads hR2; have HC := am hC2; have HB := am hb; clear hb hR2 hC2)
     | (go_at_call 64; (with_reducible refine (Qaw 28 _).mono ?_); rintro e w9 ⟨rfl, h9⟩; subst w9; exact ⟨rfl, rfl, BW.mono HB.out hBw⟩))
set_option maxHeartbeats 4000000 in
theorem stat_walk (B b : Nat) (l : List S52) (x y z0 z1 z2 z3 z4 z5 : Value) (p : ByteArray) (w : World) (hst : St B b l (x :: .string p :: y :: z0 :: z1 :: z2 :: z3 :: z4 :: z5 :: [.int .i64 0, .int .i64 0, .int .i64 0]) w) (ho : Ok l) (hp : p.size < 10000000) (hd : ∀ k, (nd l k).f2.length < 1000000000) :
  Calls Tryz.prog 56 #[.pointer (some ⟨b, 0, none⟩)] w fun en w' => (match Qav l p with
   | .inl k => en = .returned (.tuple #[]) ∧ St B b l (x :: .string p :: y :: z0 :: z1 :: z2 :: z3 :: z4 :: z5 :: [.int .i64 (nd l k).f0, .int .i64 (nd l k).f1, .int .i64 ((nd l k).f2.length + (nd l k).f3.length : Nat)]) w'
   | .inr e => en = .panicked (wrong e)) ∧ BW B w w' := by
 have hbl : b < w.heap.size := by obtain ⟨_, v, h, _⟩ := hst; exact Qai h
 have hBb : B ≤ b := hst.1
 have hBw : B ≤ w.heap.size := by omega
 have hk2 : w.cell? ⟨b, 2, none⟩ = some (.string p) := by obtain ⟨_, v, h, _⟩ := hst; exact (Qab h 2).trans rfl
 have HST := am hst
 have HO := am ho
 have HB := am (Below.refl w.heap.size w)
 obtain ⟨hBb', v, hw, hS⟩ := hst
 obtain ⟨g, cap, rfl, hBg, hgl, -⟩ := Kd.S_form hS ho.wf.pos
 have HW := am hw
 have HS := am hS
 clear hw hS ho
 unfold Qav
 by_cases h0 : (Qah p).2 = 0
 ·
  rw [if_pos h0]
  cases hk : wk l (Qah p).1 0 with
  | inr n =>
   dsimp only
   have HK := am hk
   clear hk
   have hz0 : 0 < l.length := HO.out.wf.pos
   obtain ⟨v2, v3, hx0, hx1, hx2, hx3, hR2, hR3, -, hgb, -, -, -⟩ := Qdf hbl HS.out 0 HO.out.wf.pos hBw
   obtain ⟨A2, c2, rfl, hl2, -⟩ := Kd.R_reads hR2
   obtain ⟨A3, c3, rfl, hl3, -⟩ := Kd.R_reads hR3
   have hy0 : w.cell? ⟨b, 0, none⟩ = some (.slice (some ⟨g, 0, none⟩) l.length cap) := (Qab HW.out 0).trans rfl
   clear hR2 hR3
   go_enter Tryz.func56, Tryz.ntmps56
   go_wp2
   go_region_held2 (fun w' => w'.cell? ⟨b, 0, none⟩ = some (.slice (some ⟨g, 0, none⟩) l.length cap) ∧ w'.cell? ⟨b, 2, none⟩ = some (.string p) ∧ w'.cell? ⟨g, 0 * 4, none⟩ = some (.int .i64 (nd l 0).f0) ∧ w'.cell? ⟨g, 0 * 4 + 1, none⟩ = some (.int .i64 (nd l 0).f1) ∧ w'.cell? ⟨g, 0 * 4 + 2, none⟩ = some (.slice A2 (nd l 0).f2.length c2) ∧ w'.cell? ⟨g, 0 * 4 + 3, none⟩ = some (.slice A3 (nd l 0).f3.length c3)) (first | exact hF.out.elim | go_loud (exact ⟨kcell (by repeat (first | exact HB.out | with_reducible apply Qad | with_reducible apply Qaa | (with_reducible refine Below.setCell ?_ zq13 _))) hbl hy0, kcell (by repeat (first | exact HB.out | with_reducible apply Qad | with_reducible apply Qaa | (with_reducible refine Below.setCell ?_ zq13 _))) hbl hk2, kcell (p := ⟨g, 0 * 4, none⟩) (by repeat (first | exact HB.out | with_reducible apply Qad | with_reducible apply Qaa | (with_reducible refine Below.setCell ?_ zq13 _))) hgl hx0, kcell (p := ⟨g, 0 * 4 + 1, none⟩) (by repeat (first | exact HB.out | with_reducible apply Qad | with_reducible apply Qaa | (with_reducible refine Below.setCell ?_ zq13 _))) hgl hx1, kcell (p := ⟨g, 0 * 4 + 2, none⟩) (by repeat (first | exact HB.out | with_reducible apply Qad | with_reducible apply Qaa | (with_reducible refine Below.setCell ?_ zq13 _))) hgl hx2, kcell (p := ⟨g, 0 * 4 + 3, none⟩) (by repeat (first | exact HB.out | with_reducible apply Qad | with_reducible apply Qaa | (with_reducible refine Below.setCell ?_ zq13 _))) hgl hx3⟩) | go_keep) (first | (go_at_call 34; (with_reducible refine (Qak p _ hp).mono ?_); rintro e w1 ⟨h1, hb⟩; rw [if_pos h0] at h1; obtain ⟨An, cn, rfl, hcn, hCn⟩ := h1; have HCN := am hCn; obtain ⟨hbc1, hbf1⟩ := bcell hb; (try have qa := Qaf (Qat (Qal w (.cells #[.int .i64 0, .int .i64 0, .slice none 0 0, .slice none 0 0] 52))) hb); (try (have qa0 : w1.cell? ⟨w.heap.size, 0, none⟩ = some (.int .i64 0) := (Qab qa 0).trans rfl; have qaf0 : w1.frozen? ⟨w.heap.size, 0, none⟩ = false := Qag qa 0; have qa1 : w1.cell? ⟨w.heap.size, 1, none⟩ = some (.int .i64 0) := (Qab qa 1).trans rfl; have qaf1 : w1.frozen? ⟨w.heap.size, 1, none⟩ = false := Qag qa 1; have qa2 : w1.cell? ⟨w.heap.size, 2, none⟩ = some (.slice none 0 0) := (Qab qa 2).trans rfl; have qaf2 : w1.frozen? ⟨w.heap.size, 2, none⟩ = false := Qag qa 2; have qa3 : w1.cell? ⟨w.heap.size, 3, none⟩ = some (.slice none 0 0) := (Qab qa 3).trans rfl; have qaf3 : w1.frozen? ⟨w.heap.size, 3, none⟩ = false := Qag qa 3));  clear hCn; have HB1 := am (Below.refl w1.heap.size w1); have n0_ := am (Qa zq0 hb); clear HB hb; have HB := n0_; clear n0_; have hsz_ := HB.out.size; have hk2_ := (HB.out.cell (p := ⟨b, 2, none⟩) hbl).trans hk2) | (go_at_call 33; (with_reducible refine Qbn (v := .int .i64 0) ((Qaq B b l _ An cn p _ (St.below HST.out zq0) HO.out (Kd.C_below HCN.out zq8) hcn).mono ?_) ?_); (rintro e w2 ⟨h1, hb⟩; rw [HK.out] at h1; subst h1; have n0_ := am (Qa zq0 hb); clear HB hb; have HB := n0_; clear n0_; have hsz_ := HB.out.size; have hk2_ := (HB.out.cell (p := ⟨b, 2, none⟩) hbl).trans hk2; exact ⟨rfl, rfl, BW.mono zq0 hBw⟩); (intro hF0; have hF := am hF0; clear hF0; dsimp only)))
   all_goals exact hF.out.elim
  | inl k =>
   dsimp only
   have hkl : k < l.length := wk_lt HO.out.wf HO.out.wf.pos hk
   have HK := am hk
   clear hk
   have hz0 : (0 : Int) ≤ (k : Int) := by omega
   have hz1 : (k : Int) < (l.length : Int) := by omega
   have hdk := hd k
   have hsm := HO.out.small k
   obtain ⟨v2, v3, hx0, hx1, hx2, hx3, hR2, hR3, -, hgb, -, -, -⟩ := Qdf hbl HS.out k hkl hBw
   obtain ⟨A2, c2, rfl, hl2, -⟩ := Kd.R_reads hR2
   obtain ⟨A3, c3, rfl, hl3, -⟩ := Kd.R_reads hR3
   have hy0 : w.cell? ⟨b, 0, none⟩ = some (.slice (some ⟨g, 0, none⟩) l.length cap) := (Qab HW.out 0).trans rfl
   clear hR2 hR3
   go_enter Tryz.func56, Tryz.ntmps56
   go_wp2
   go_cut [2] from 3 (fun s2 w' => ∃ gn, s2 = .pointer (some ⟨gn, 0, none⟩) ∧ w.heap.size ≤ gn ∧ w'.cell? ⟨gn, 0, none⟩ = some (.int .i64 (nd l k).f0) ∧ w'.cell? ⟨gn, 1, none⟩ = some (.int .i64 (nd l k).f1) ∧ w'.cell? ⟨gn, 2, none⟩ = some (.slice A2 (nd l k).f2.length c2) ∧ w'.cell? ⟨gn, 3, none⟩ = some (.slice A3 (nd l k).f3.length c3) ∧ Below w.heap.size w w')
   case first =>
    go_region_held2 (fun w' => w'.cell? ⟨b, 0, none⟩ = some (.slice (some ⟨g, 0, none⟩) l.length cap) ∧ w'.cell? ⟨b, 2, none⟩ = some (.string p) ∧ w'.cell? ⟨g, k * 4, none⟩ = some (.int .i64 (nd l k).f0) ∧ w'.cell? ⟨g, k * 4 + 1, none⟩ = some (.int .i64 (nd l k).f1) ∧ w'.cell? ⟨g, k * 4 + 2, none⟩ = some (.slice A2 (nd l k).f2.length c2) ∧ w'.cell? ⟨g, k * 4 + 3, none⟩ = some (.slice A3 (nd l k).f3.length c3)) (first | exact ⟨kcell (by repeat (first | exact HB.out | with_reducible apply Qad | with_reducible apply Qaa | (with_reducible refine Below.setCell ?_ zq13 _))) hbl hy0, kcell (by repeat (first | exact HB.out | with_reducible apply Qad | with_reducible apply Qaa | (with_reducible refine Below.setCell ?_ zq13 _))) hbl hk2, kcell (p := ⟨g, k * 4, none⟩) (by repeat (first | exact HB.out | with_reducible apply Qad | with_reducible apply Qaa | (with_reducible refine Below.setCell ?_ zq13 _))) hgl hx0, kcell (p := ⟨g, k * 4 + 1, none⟩) (by repeat (first | exact HB.out | with_reducible apply Qad | with_reducible apply Qaa | (with_reducible refine Below.setCell ?_ zq13 _))) hgl hx1, kcell (p := ⟨g, k * 4 + 2, none⟩) (by repeat (first | exact HB.out | with_reducible apply Qad | with_reducible apply Qaa | (with_reducible refine Below.setCell ?_ zq13 _))) hgl hx2, kcell (p := ⟨g, k * 4 + 3, none⟩) (by repeat (first | exact HB.out | with_reducible apply Qad | with_reducible apply Qaa | (with_reducible refine Below.setCell ?_ zq13 _))) hgl hx3⟩ | go_keep) (first | (go_at_call 34; (with_reducible refine (Qak p _ hp).mono ?_); rintro e w1 ⟨h1, hb⟩; rw [if_pos h0] at h1; obtain ⟨An, cn, rfl, hcn, hCn⟩ := h1; have HCN := am hCn; obtain ⟨hbc1, hbf1⟩ := bcell hb; (try have qa := Qaf (Qat (Qal w (.cells #[.int .i64 0, .int .i64 0, .slice none 0 0, .slice none 0 0] 52))) hb); (try (have qa0 : w1.cell? ⟨w.heap.size, 0, none⟩ = some (.int .i64 0) := (Qab qa 0).trans rfl; have qaf0 : w1.frozen? ⟨w.heap.size, 0, none⟩ = false := Qag qa 0; have qa1 : w1.cell? ⟨w.heap.size, 1, none⟩ = some (.int .i64 0) := (Qab qa 1).trans rfl; have qaf1 : w1.frozen? ⟨w.heap.size, 1, none⟩ = false := Qag qa 1; have qa2 : w1.cell? ⟨w.heap.size, 2, none⟩ = some (.slice none 0 0) := (Qab qa 2).trans rfl; have qaf2 : w1.frozen? ⟨w.heap.size, 2, none⟩ = false := Qag qa 2; have qa3 : w1.cell? ⟨w.heap.size, 3, none⟩ = some (.slice none 0 0) := (Qab qa 3).trans rfl; have qaf3 : w1.frozen? ⟨w.heap.size, 3, none⟩ = false := Qag qa 3));  clear hCn; have HB1 := am (Below.refl w1.heap.size w1); have n0_ := am (Qa zq0 hb); clear HB hb; have HB := n0_; clear n0_; have hsz_ := HB.out.size; have hk2_ := (HB.out.cell (p := ⟨b, 2, none⟩) hbl).trans hk2) | (go_at_call 33; (with_reducible refine (Qaq B b l _ An cn p _ (St.below HST.out zq0) HO.out (Kd.C_below HCN.out zq8) hcn).mono ?_); rintro e w2 ⟨h1, hb⟩; rw [HK.out] at h1; subst h1; obtain ⟨hbc2, hbf2⟩ := bcell hb; (try have qb := Qaf qa hb); (try (have qb0 : w2.cell? ⟨w.heap.size, 0, none⟩ = some (.int .i64 0) := (Qab qb 0).trans rfl; have qbf0 : w2.frozen? ⟨w.heap.size, 0, none⟩ = false := Qag qb 0; have qb1 : w2.cell? ⟨w.heap.size, 1, none⟩ = some (.int .i64 0) := (Qab qb 1).trans rfl; have qbf1 : w2.frozen? ⟨w.heap.size, 1, none⟩ = false := Qag qb 1; have qb2 : w2.cell? ⟨w.heap.size, 2, none⟩ = some (.slice none 0 0) := (Qab qb 2).trans rfl; have qbf2 : w2.frozen? ⟨w.heap.size, 2, none⟩ = false := Qag qb 2; have qb3 : w2.cell? ⟨w.heap.size, 3, none⟩ = some (.slice none 0 0) := (Qab qb 3).trans rfl; have qbf3 : w2.frozen? ⟨w.heap.size, 3, none⟩ = false := Qag qb 3)); (try have qc := Qaf (Qal w1 (.cells #[.int .i64 0, .int .i64 0, .slice none 0 0, .slice none 0 0] 52)) hb); (try (have qc0 : w2.cell? ⟨w1.heap.size, 0, none⟩ = some (.int .i64 0) := (Qab qc 0).trans rfl; have qcf0 : w2.frozen? ⟨w1.heap.size, 0, none⟩ = false := Qag qc 0; have qc1 : w2.cell? ⟨w1.heap.size, 1, none⟩ = some (.int .i64 0) := (Qab qc 1).trans rfl; have qcf1 : w2.frozen? ⟨w1.heap.size, 1, none⟩ = false := Qag qc 1; have qc2 : w2.cell? ⟨w1.heap.size, 2, none⟩ = some (.slice none 0 0) := (Qab qc 2).trans rfl; have qcf2 : w2.frozen? ⟨w1.heap.size, 2, none⟩ = false := Qag qc 2; have qc3 : w2.cell? ⟨w1.heap.size, 3, none⟩ = some (.slice none 0 0) := (Qab qc 3).trans rfl; have qcf3 : w2.frozen? ⟨w1.heap.size, 3, none⟩ = false := Qag qc 3));  have n0_ := am (Qa zq0 hb); clear HB hb; have HB := n0_; clear n0_; have hsz_ := HB.out.size; have hk2_ := (HB.out.cell (p := ⟨b, 2, none⟩) hbl).trans hk2))
    all_goals go_wp2
    all_goals go_meet
    all_goals refine ⟨_, rfl, ?_, ?_, ?_, ?_, ?_, (by repeat (first | exact HB.out | with_reducible apply Qad | with_reducible apply Qaa | (with_reducible refine Below.setCell ?_ zq13 _)))⟩
    all_goals first | exact Nat.le_refl _ | omega | (go_simp; done)
   case rest =>
    obtain ⟨gn, rfl, hgn, hn0, hn1, hn2, hn3, hBn⟩ := hcut
    have HBN := am hBn
    have HW1 := am (Qaf HW.out hBn)
    have HS1 := am (Kd.S_below HS.out hBn)
    have hgb : gn ≠ b := by omega
    have hy10 := Qab HW1.out 10
    have hy11 := Qab HW1.out 11
    have hy12 := Qab HW1.out 12
    have hf10 := Qag HW1.out 10
    have hf11 := Qag HW1.out 11
    have hf12 := Qag HW1.out 12
    simp only [List.getElem?_toArray, List.getElem?_cons_zero, List.getElem?_cons_succ] at hy10 hy11 hy12
    have hkf : ∀ (W : World) (j i : Nat) (u : Value), (W.setCell ⟨b, j, none⟩ u).cell? ⟨gn, i, none⟩ = W.cell? ⟨gn, i, none⟩ := fun W j i u => cell_far (W := W) (p := ⟨b, j, none⟩) (a := ⟨gn, i, none⟩) hgb u
    have hsum : IntKind.i64.wrap (((nd l k).f2.length : Int) + ((nd l k).f3.length : Int)) = (((nd l k).f2.length + (nd l k).f3.length : Nat) : Int) := by rw [IntKind.wrap_i64]; omega
    clear hBn
    go_wp2
    go_region_held2 (fun w' => w'.cell? ⟨gn, 0, none⟩ = some (.int .i64 (nd l k).f0) ∧ w'.cell? ⟨gn, 1, none⟩ = some (.int .i64 (nd l k).f1) ∧ w'.cell? ⟨gn, 2, none⟩ = some (.slice A2 (nd l k).f2.length c2) ∧ w'.cell? ⟨gn, 3, none⟩ = some (.slice A3 (nd l k).f3.length c3)) (first | go_keep) (fail)
    go_end0
    rw [Int.natCast_add]
    refine ⟨⟨rfl, hBb, _, Qat (Wk.set (Wk.set (Wk.set HW1.out 9 _) 10 _) 11 _), Kd.S_drew (Kd.S_far (p := ⟨b, 12, none⟩) (Kd.S_far (p := ⟨b, 11, none⟩) (Kd.S_far (p := ⟨b, 10, none⟩) HS1.out (fun k hk => hk) _) (fun k hk => hk) _) (fun k hk => hk) _)⟩, ?_⟩
    exact (((BW.mono HBN.out hBw).setW hBb HW1.out 10 _ |>.setW hBb (Wk.set HW1.out 9 _) 11 _).setW hBb (Wk.set (Wk.set HW1.out 9 _) 10 _) 12 _).drew
 ·
  rw [if_neg h0]
  dsimp only
  have hz0 : 0 < l.length := HO.out.wf.pos
  obtain ⟨v2, v3, hx0, hx1, hx2, hx3, hR2, hR3, -, hgb, -, -, -⟩ := Qdf hbl HS.out 0 HO.out.wf.pos hBw
  obtain ⟨A2, c2, rfl, hl2, -⟩ := Kd.R_reads hR2
  obtain ⟨A3, c3, rfl, hl3, -⟩ := Kd.R_reads hR3
  have hy0 : w.cell? ⟨b, 0, none⟩ = some (.slice (some ⟨g, 0, none⟩) l.length cap) := (Qab HW.out 0).trans rfl
  clear hR2 hR3
  go_enter Tryz.func56, Tryz.ntmps56
  go_wp2
  go_region_held2 (fun w' => w'.cell? ⟨b, 0, none⟩ = some (.slice (some ⟨g, 0, none⟩) l.length cap) ∧ w'.cell? ⟨b, 2, none⟩ = some (.string p) ∧ w'.cell? ⟨g, 0 * 4, none⟩ = some (.int .i64 (nd l 0).f0) ∧ w'.cell? ⟨g, 0 * 4 + 1, none⟩ = some (.int .i64 (nd l 0).f1) ∧ w'.cell? ⟨g, 0 * 4 + 2, none⟩ = some (.slice A2 (nd l 0).f2.length c2) ∧ w'.cell? ⟨g, 0 * 4 + 3, none⟩ = some (.slice A3 (nd l 0).f3.length c3)) (first | exact hF.out.elim | exact ⟨kcell (by repeat (first | exact HB.out | with_reducible apply Qad | with_reducible apply Qaa | (with_reducible refine Below.setCell ?_ zq13 _))) hbl hy0, kcell (by repeat (first | exact HB.out | with_reducible apply Qad | with_reducible apply Qaa | (with_reducible refine Below.setCell ?_ zq13 _))) hbl hk2, kcell (p := ⟨g, 0 * 4, none⟩) (by repeat (first | exact HB.out | with_reducible apply Qad | with_reducible apply Qaa | (with_reducible refine Below.setCell ?_ zq13 _))) hgl hx0, kcell (p := ⟨g, 0 * 4 + 1, none⟩) (by repeat (first | exact HB.out | with_reducible apply Qad | with_reducible apply Qaa | (with_reducible refine Below.setCell ?_ zq13 _))) hgl hx1, kcell (p := ⟨g, 0 * 4 + 2, none⟩) (by repeat (first | exact HB.out | with_reducible apply Qad | with_reducible apply Qaa | (with_reducible refine Below.setCell ?_ zq13 _))) hgl hx2, kcell (p := ⟨g, 0 * 4 + 3, none⟩) (by repeat (first | exact HB.out | with_reducible apply Qad | with_reducible apply Qaa | (with_reducible refine Below.setCell ?_ zq13 _))) hgl hx3⟩ | go_keep) (first | (go_at_call 34; (with_reducible refine Qbn (v := .slice none 0 0) ((Qak p _ hp).mono ?_) ?_); (rintro e w1 ⟨h1, hb⟩; rw [if_neg h0] at h1; subst h1; have n0_ := am (Qa zq0 hb); clear HB hb; have HB := n0_; clear n0_; have hsz_ := HB.out.size; have hk2_ := (HB.out.cell (p := ⟨b, 2, none⟩) hbl).trans hk2; exact ⟨rfl, rfl, BW.mono zq0 hBw⟩); (intro hF0; have hF := am hF0; clear hF0; dsimp only)) | (go_at_call 33; (with_reducible refine Qbn (v := .int .i64 0) hF.out.elim ?_); intro hF1; clear hF1; dsimp only))
  all_goals exact hF.out.elim
end
end Go.Proofs.YtbhjggbijkjmnaaGreatDoor.PZ
end
