import Derived.Test.YtbhjggbijkjmnaaGreatDoorM15
import Derived.Deep.RegionHeld3
import Derived.Deep.RegionHeld2
import Derived.Deep.Cut
import Derived.Deep.QuietTactic
import Derived.BigQuiet
set_option linter.unusedVariables false
set_option linter.unusedSimpArgs false
section
namespace Go.Proofs.YtbhjggbijkjmnaaGreatDoor.PZ
open Go.RowKit Go.Proofs.YtbhjggbijkjmnaaGreatDoorW.PrintWords Go.Proofs.YtbhjggbijkjmnaaGreatDoorW.PrintLast Go.Proofs.YtbhjggbijkjmnaaGreatDoorW.PrintMore Go.Proofs.YtbhjggbijkjmnaaGreatDoor.B Go.Proofs.YtbhjggbijkjmnaaGreatDoor.Ord TD
set_option maxRecDepth 100000
section
attribute [local go_sem ↓] Go.wp_at_zero Go.wp_at_succ
set_option maxHeartbeats 40000000 in
theorem rename_c (B b : Nat) (l : List S52) (x : Value) (p q : ByteArray) (rs : List Value) (w : World) (hst : St B b l (x :: .string p :: .string q :: rs) w) (ho : Ok l) (hp : p.size < 10000000) (hq : q.size < 10000000) (X : List S52 ⊕ Int) (h0 : (Qah p).2 = 0) (hzq : (Qah q).2 = 0) (hr : p ≠ rootP) (hrq : q ≠ rootP) (k : Nat) (hk : wk l (Qah p).1 0 = .inl k) (hC : ¬ ((nd l k).f0 = 2 ∧ q ≠ p ∧ Qbt q p = true)) (a c : Nat × ByteArray × Option Nat) (hsa : spotF l p = .inl a) (hsb : spotF l q = .inl c) (hX : (match spotF l p with | .inr n => .inr n | .inl a => match spotF l q with | .inr n => .inr n | .inl c => moveF l k a c) = X) :
  Calls Tryz.prog 52 #[.pointer (some ⟨b, 0, none⟩)] w fun en w' => OpPost B b (x :: .string p :: .string q :: rs) w X en w' := by
 have Hhsa_ := am hsa
 clear hsa
 have Hhsb_ := am hsb
 clear hsb
 have hbl : b < w.heap.size := by obtain ⟨_, v, h, _⟩ := hst; exact Qai h
 have hBb : B ≤ b := hst.1
 have hBw : B ≤ w.heap.size := by omega
 have hk2 : w.cell? ⟨b, 2, none⟩ = some (.string p) := by obtain ⟨_, v, h, _⟩ := hst; exact (Qab h 2).trans rfl
 have hk3 : w.cell? ⟨b, 3, none⟩ = some (.string q) := by obtain ⟨_, v, h, _⟩ := hst; exact (Qab h 3).trans rfl
 obtain ⟨_, v, hw, hS⟩ := id hst
 obtain ⟨g, cap, rfl, hBg, hgl, -⟩ := Kd.S_form hS ho.wf.pos
 have HW := am hw
 have HS := am hS
 have hk0 : w.cell? ⟨b, 0, none⟩ = some (.slice (some ⟨g, 0, none⟩) l.length cap) := (Qab hw 0).trans rfl
 clear hw hS
 have HST := am hst
 have HO := am ho
 have HB := am (Below.refl w.heap.size w)
 clear hst ho
 have hpr : (p.toList == [47]) = false := beq_eq_false_iff_ne.2 fun h => hr (Qax (h.trans (beq_iff_eq.1 root_eq).symm))
 have hqr : (q.toList == [47]) = false := beq_eq_false_iff_ne.2 fun h => hrq (Qax (h.trans (beq_iff_eq.1 root_eq).symm))
 have hkl : k < l.length := wk_lt HO.out.wf HO.out.wf.pos hk
 have HK := am hk
 have HX := am hX
 clear hk hX
 have HCC := am hC
 clear hC
 go_enter Tryz.func52, Tryz.ntmps52
 go_wp2_with (first
  | (go_at_call 34; (with_reducible refine (Qak p _ hp).mono ?_); rintro e w1 ⟨h1, hb⟩; rw [if_pos h0] at h1; obtain ⟨An, cn, rfl, hcn, hCn⟩ := h1; have HCN := am hCn; clear hCn; have n0_ := am (Qa zq0 hb); clear HB hb; have HB := n0_; clear n0_; have hk2_ := (HB.out.cell (p := ⟨b, 2, none⟩) hbl).trans hk2; have hk3_ := (HB.out.cell (p := ⟨b, 3, none⟩) hbl).trans hk3)
  | (go_at_call 34; (with_reducible refine (Qak q _ hq).mono ?_); rintro e w1q ⟨h1, hb⟩; rw [if_pos hzq] at h1; obtain ⟨Anq, cnq, rfl, hcnq, hCn⟩ := h1; have HCNq := am hCn; clear hCn; have HCN2 := am (Kd.C_below HCN.out hb); have n0_ := am (Qa zq0 hb); clear HB hb; have HB := n0_; clear n0_; have hk2_ := (HB.out.cell (p := ⟨b, 2, none⟩) hbl).trans hk2; have hk3_ := (HB.out.cell (p := ⟨b, 3, none⟩) hbl).trans hk3)
  | (go_at_call 64; (with_reducible refine (Qau _ _).mono ?_); rintro e w9 ⟨rfl, h9⟩; subst w9)
  | (go_at_call 33; (with_reducible refine (Qaq B b l _ An cn p _ (St.below HST.out zq0) HO.out HCN2.out hcn).mono ?_); rintro e w2 ⟨h1, hb⟩; rw [HK.out] at h1; subst h1; have n0_ := am (Qa zq0 hb); clear HB hb; have HB := n0_; clear n0_; have hk2_ := (HB.out.cell (p := ⟨b, 2, none⟩) hbl).trans hk2; have hk3_ := (HB.out.cell (p := ⟨b, 3, none⟩) hbl).trans hk3))
 go_cut [] from 6 (fun w' => Below w.heap.size w w')
 case first =>
  cases hd : ((nd l k).f0 == 2) with
  | false =>
   go_quiet (first | (go_at_call 65; refine Calls.quiet_of_same (Qan B b l _ k _ hkl (St.below HST.out zq0) hd)) | (go_at_call 64; refine Calls.quiet_of_same (Qau _ _)))
   go_wp2
   go_meet
   case rel => exact zq0
  | true =>
   by_cases hqp : q = p
   ·
    have hqpb : (q.toList == p.toList) = true := by rw [hqp]; exact beq_self_eq_true _
    clear hqp
    go_quiet (first | (go_at_call 65; refine Calls.quiet_of_same (Qan B b l _ k _ hkl (St.below HST.out zq0) hd)) | (go_at_call 64; refine Calls.quiet_of_same (Qau _ _)))
    go_wp2
    go_meet
    case rel => exact zq0
   ·
    have hqpb : (q.toList == p.toList) = false := beq_eq_false_iff_ne.2 fun h => hqp (Qax h)
    cases hwi : Qbt q p with
    | true => exact absurd ⟨beq_iff_eq.1 hd, hqp, hwi⟩ HCC.out
    | false =>
     clear hqp
     go_region_held3 (fun w' => w'.cell? ⟨b, 2, none⟩ = some (.string p) ∧ w'.cell? ⟨b, 3, none⟩ = some (.string q)) (go_keep) (first | (go_at_call 65; (with_reducible refine (Qan B b l _ k _ hkl (St.below HST.out zq0) hd).mono ?_); rintro e w9 ⟨rfl, h9⟩; subst w9) | (go_at_call 78; (with_reducible refine (Qfj q p _ hq hp hwi).mono ?_); rintro e w7 ⟨rfl, hb⟩; have n0_ := am (Qa zq0 hb); clear HB hb; have HB := n0_; clear n0_; have hk2_ := (HB.out.cell (p := ⟨b, 2, none⟩) hbl).trans hk2; have hk3_ := (HB.out.cell (p := ⟨b, 3, none⟩) hbl).trans hk3) | (go_at_call 64; (with_reducible refine (Qau _ _).mono ?_); rintro e w9 ⟨rfl, h9⟩; subst w9))
     all_goals go_wp2
     all_goals go_meet
     all_goals exact zq0
 case rest =>
  clear HB
  have HB := am hcut
  have hk2_ := (HB.out.cell (p := ⟨b, 2, none⟩) hbl).trans hk2
  have hk3_ := (HB.out.cell (p := ⟨b, 3, none⟩) hbl).trans hk3
  clear hcut
  have hX := HX.out
  clear HX
  have hsa := Hhsa_.out
  clear Hhsa_
  have hsb := Hhsb_.out
  clear Hhsb_
  obtain ⟨d1, n1, o1⟩ := a
  have HSA := am hsa
  have hd1 : d1 < l.length := (Qbb hsa).choose_spec.2.2.2.2.1
  rw [hsa] at hX
  dsimp only at hX
  clear hsa
  obtain ⟨d2, n2, o2⟩ := c
  have HSB := am hsb
  have hd2 : d2 < l.length := (Qbb hsb).choose_spec.2.2.2.2.1
  rw [hsb] at hX
  dsimp only at hX
  clear hsb
  go_wp2
  go_cut [4, 5] from 6 (fun s4 s5 w' => ∃ ga gb, s4 = .pointer (some ⟨ga, 0, none⟩) ∧ s5 = .pointer (some ⟨gb, 0, none⟩) ∧ w'.cell? ⟨ga, 0, none⟩ = some (.int .i64 (d1 : Int)) ∧ w'.cell? ⟨ga, 1, none⟩ = some (.string n1) ∧ w'.cell? ⟨ga, 2, none⟩ = some (.int .i64 (nodeV o1)) ∧ w'.cell? ⟨gb, 0, none⟩ = some (.int .i64 (d2 : Int)) ∧ w'.cell? ⟨gb, 1, none⟩ = some (.string n2) ∧ w'.cell? ⟨gb, 2, none⟩ = some (.int .i64 (nodeV o2)) ∧ w.heap.size ≤ gb ∧ Below w.heap.size w w')
  case first =>
   have hszc := HB.out.size
   have hbnc := Nat.ne_of_gt (Nat.lt_of_lt_of_le hbl HB.out.size)
   have hbmc := Nat.ne_of_gt (Nat.lt_succ_of_lt (Nat.lt_of_lt_of_le hbl HB.out.size))
   go_region_held2 (fun w' => w'.cell? ⟨b, 2, none⟩ = some (.string p) ∧ w'.cell? ⟨b, 3, none⟩ = some (.string q)) (go_keep) (first | (go_at_call 74; (with_reducible refine (Qcb B b l _ p _ (St.below HST.out zq0) HO.out hp hr).mono ?_); rintro e w3 ⟨h1, hb⟩; rw [HSA.out] at h1; subst h1; (try have qa := Qaf (Qat (Qal wc _)) hb); (try have qa := Qaf (Qat (Qaj (Qal wc _) _)) hb); (try have qb := Qaf (Qat (Qgh wc _ _)) hb); (try (have hza := Qai qa; have hzan := Nat.ne_of_lt hza)); (try (have hzb := Qai qb; have hzbn := Nat.ne_of_lt hzb)); (try (have qa0 : w3.cell? ⟨wc.heap.size, 0, none⟩ = some (.int .i64 0) := (Qab qa 0).trans rfl; have qaf0 : w3.frozen? ⟨wc.heap.size, 0, none⟩ = false := Qag qa 0; have qa1 : w3.cell? ⟨wc.heap.size, 1, none⟩ = some (.string ⟨#[]⟩) := (Qab qa 1).trans rfl; have qaf1 : w3.frozen? ⟨wc.heap.size, 1, none⟩ = false := Qag qa 1; have qa2 : w3.cell? ⟨wc.heap.size, 2, none⟩ = some (.int .i64 0) := (Qab qa 2).trans rfl; have qaf2 : w3.frozen? ⟨wc.heap.size, 2, none⟩ = false := Qag qa 2)); (try (have qb0 : w3.cell? ⟨wc.heap.size + 1, 0, none⟩ = some (.int .i64 0) := (Qab qb 0).trans rfl; have qbf0 : w3.frozen? ⟨wc.heap.size + 1, 0, none⟩ = false := Qag qb 0; have qb1 : w3.cell? ⟨wc.heap.size + 1, 1, none⟩ = some (.string ⟨#[]⟩) := (Qab qb 1).trans rfl; have qbf1 : w3.frozen? ⟨wc.heap.size + 1, 1, none⟩ = false := Qag qb 1; have qb2 : w3.cell? ⟨wc.heap.size + 1, 2, none⟩ = some (.int .i64 0) := (Qab qb 2).trans rfl; have qbf2 : w3.frozen? ⟨wc.heap.size + 1, 2, none⟩ = false := Qag qb 2)); have hs3 := hb.size; (try simp at hs3); have n0_ := am (Qa zq0 hb); clear HB hb; have HB := n0_; clear n0_; have hk2_ := (HB.out.cell (p := ⟨b, 2, none⟩) hbl).trans hk2; have hk3_ := (HB.out.cell (p := ⟨b, 3, none⟩) hbl).trans hk3; have hbn3 := Nat.ne_of_gt (Nat.lt_of_lt_of_le hbl HB.out.size); have hbm3 := Nat.ne_of_gt (Nat.lt_succ_of_lt (Nat.lt_of_lt_of_le hbl HB.out.size)); have hsz_ := HB.out.size; unfold spotV; dsimp only) | (go_at_call 74; (with_reducible refine (Qcb B b l _ q _ (St.below HST.out zq0) HO.out hq hrq).mono ?_); rintro e w4 ⟨h1, hb⟩; rw [HSB.out] at h1; subst h1; (try have ra := Qaf qa hb); (try have ra := Qaf (Qaj qa _) hb); (try have rb := Qaf qb hb); (try have rc := Qaf (Qal w3 _) hb); (try have rc := Qaf (Qaj (Qal w3 _) _) hb); (try have rd := Qaf (Qgh w3 _ _) hb); (try (have ra0 : w4.cell? ⟨wc.heap.size, 0, none⟩ = some (.int .i64 0) := (Qab ra 0).trans rfl; have raf0 : w4.frozen? ⟨wc.heap.size, 0, none⟩ = false := Qag ra 0; have ra1 : w4.cell? ⟨wc.heap.size, 1, none⟩ = some (.string ⟨#[]⟩) := (Qab ra 1).trans rfl; have raf1 : w4.frozen? ⟨wc.heap.size, 1, none⟩ = false := Qag ra 1; have ra2 : w4.cell? ⟨wc.heap.size, 2, none⟩ = some (.int .i64 0) := (Qab ra 2).trans rfl; have raf2 : w4.frozen? ⟨wc.heap.size, 2, none⟩ = false := Qag ra 2)); (try (have rb0 : w4.cell? ⟨wc.heap.size + 1, 0, none⟩ = some (.int .i64 0) := (Qab rb 0).trans rfl; have rbf0 : w4.frozen? ⟨wc.heap.size + 1, 0, none⟩ = false := Qag rb 0; have rb1 : w4.cell? ⟨wc.heap.size + 1, 1, none⟩ = some (.string ⟨#[]⟩) := (Qab rb 1).trans rfl; have rbf1 : w4.frozen? ⟨wc.heap.size + 1, 1, none⟩ = false := Qag rb 1; have rb2 : w4.cell? ⟨wc.heap.size + 1, 2, none⟩ = some (.int .i64 0) := (Qab rb 2).trans rfl; have rbf2 : w4.frozen? ⟨wc.heap.size + 1, 2, none⟩ = false := Qag rb 2)); (try (have rc0 : w4.cell? ⟨w3.heap.size, 0, none⟩ = some (.int .i64 0) := (Qab rc 0).trans rfl; have rcf0 : w4.frozen? ⟨w3.heap.size, 0, none⟩ = false := Qag rc 0; have rc1 : w4.cell? ⟨w3.heap.size, 1, none⟩ = some (.string ⟨#[]⟩) := (Qab rc 1).trans rfl; have rcf1 : w4.frozen? ⟨w3.heap.size, 1, none⟩ = false := Qag rc 1; have rc2 : w4.cell? ⟨w3.heap.size, 2, none⟩ = some (.int .i64 0) := (Qab rc 2).trans rfl; have rcf2 : w4.frozen? ⟨w3.heap.size, 2, none⟩ = false := Qag rc 2)); (try (have rd0 : w4.cell? ⟨w3.heap.size + 1, 0, none⟩ = some (.int .i64 0) := (Qab rd 0).trans rfl; have rdf0 : w4.frozen? ⟨w3.heap.size + 1, 0, none⟩ = false := Qag rd 0; have rd1 : w4.cell? ⟨w3.heap.size + 1, 1, none⟩ = some (.string ⟨#[]⟩) := (Qab rd 1).trans rfl; have rdf1 : w4.frozen? ⟨w3.heap.size + 1, 1, none⟩ = false := Qag rd 1; have rd2 : w4.cell? ⟨w3.heap.size + 1, 2, none⟩ = some (.int .i64 0) := (Qab rd 2).trans rfl; have rdf2 : w4.frozen? ⟨w3.heap.size + 1, 2, none⟩ = false := Qag rd 2)); (try (have hya := Qai ra; have hyan := Nat.ne_of_lt hya)); (try (have hyb := Qai rb; have hybn := Nat.ne_of_lt hyb)); (try (have hyc := Qai rc; have hycn := Nat.ne_of_lt hyc)); (try (have hyd := Qai rd; have hydn := Nat.ne_of_lt hyd)); have hs4 := hb.size; (try simp at hs4); have n0_ := am (Qa zq0 hb); clear HB hb; have HB := n0_; clear n0_; have hk2_ := (HB.out.cell (p := ⟨b, 2, none⟩) hbl).trans hk2; have hk3_ := (HB.out.cell (p := ⟨b, 3, none⟩) hbl).trans hk3; have hbn4 := Nat.ne_of_gt (Nat.lt_of_lt_of_le hbl HB.out.size); have hbm4 := Nat.ne_of_gt (Nat.lt_succ_of_lt (Nat.lt_of_lt_of_le hbl HB.out.size)); have hsz_ := HB.out.size; unfold spotV; dsimp only))
   all_goals go_wp2
   all_goals go_meet
   all_goals refine ⟨_, _, rfl, rfl, ?_, ?_, ?_, ?_, ?_, ?_, ?_, (by repeat (first | exact HB.out | with_reducible apply Qad | with_reducible apply Qaa | with_reducible apply Qac | (with_reducible refine Below.setCell ?_ zq13 _)))⟩
   all_goals first | omega | (go_simp; done)
  case rest =>
   obtain ⟨ga, gb, rfl, rfl, ha0, ha1, ha2, hb0, hb1, hb2, hgb, hBr⟩ := hcut
   clear HB
   have HB := am hBr
   clear hBr
   have hk2_ := (HB.out.cell (p := ⟨b, 2, none⟩) hbl).trans hk2
   have hk3_ := (HB.out.cell (p := ⟨b, 3, none⟩) hbl).trans hk3
   have hy0 := (HB.out.cell (p := ⟨b, 0, none⟩) hbl).trans hk0
   have hgg : gb ≠ g := by omega
   have hgb0 := World.block_lt_of_cell? _ _ hb0
   have hkm : k < 1000000 := by have := HO.out.len; omega
   have hdir1 : (nd l d1).f0 = 2 := (Qbb HSA.out).choose_spec.2.2.2.1
   have HWd := am (Qaf HW.out HB.out)
   have HSd := am (Kd.S_below HS.out HB.out)
   cases o2 with
   | none =>
    dsimp only [nodeV] at hb2
    have hjk : ((-1 : Int) == (k : Int)) = false := beq_eq_false_iff_ne.2 zq3
    have hj0 : decide ((-1 : Int) < 0) = true := rfl
    by_cases hdd : d1 = d2
    ·
     have hdb : ((d1 : Int) == (d2 : Int)) = true := beq_iff_eq.2 (by rw [hdd])
     have hMV : moveF l k (d1, n1, o1) (d2, n2, none) = .inl (putT (cutT l d1 n1) d2 n2 k) := by unfold moveF; dsimp only; rw [if_pos (.inl hdd)]
     rw [hMV] at hX
     clear hMV
     subst hX
     clear hdd
     go_wp2_with (first | (go_at_call 64; (with_reducible refine (Qau _ _).mono ?_); rintro e w9 ⟨rfl, h9⟩; subst w9) | (go_at_call 77; (with_reducible refine (Qez B b l _ d1 n1 _ _ hd1 (St.below HST.out zq0) HO.out).mono ?_); rintro e w5 ⟨rfl, hst5, hb5, hfr⟩; have hfr5 := hfr _ _ _ hy0; have hc0 := (hfr5 ⟨gb, 0, none⟩ hgb0 hgg).trans hb0; have hc1 := (hfr5 ⟨gb, 1, none⟩ hgb0 hgg).trans hb1; have hc2 := (hfr5 ⟨gb, 2, none⟩ hgb0 hgg).trans hb2; have HST5 := am hst5; have HB5 := am (BW.trans (BW.mono zq0 hBw) hb5); clear hst5 hb5 hfr hfr5) | (go_at_call 76; (with_reducible refine (Qer B b _ _ d2 n2 _ k _ (by rw [cutT, setE_len]; exact hd2) HST5.out (ok_cut HO.out hdir1 _) hkm).mono ?_); rintro e w6 ⟨rfl, hst6, hb6⟩; have HST6 := am hst6; have HB6 := am (BW.trans HB5.out hb6); clear hst6 hb6))
     go_end0
     exact ⟨⟨rfl, HST6.out⟩, HB6.out⟩
    ·
     have hdb : ((d1 : Int) == (d2 : Int)) = false := beq_eq_false_iff_ne.2 zq3
     cases hf : fullB l d2 with
     | true =>
      have hMV : moveF l k (d1, n1, o1) (d2, n2, none) = .inr 27 := by unfold moveF; dsimp only; rw [if_neg (fun h => h.elim hdd (fun h => by rw [hf] at h; cases h))]
      rw [hMV] at hX
      clear hMV
      subst hX
      clear hdd
      go_wp2_with (first | (go_at_call 75; (with_reducible refine (Qgi B b l _ d2 _ hd2 (St.below HST.out zq0) hf).mono ?_); rintro e w9 ⟨rfl, h9⟩; subst w9) | (go_at_call 64; (with_reducible refine (Qaw 27 _).mono ?_); rintro e w9 ⟨rfl, h9⟩; subst w9; exact ⟨rfl, rfl, BW.mono zq0 hBw⟩))
     | false =>
      have hMV : moveF l k (d1, n1, o1) (d2, n2, none) = .inl (putT (cutT l d1 n1) d2 n2 k) := by unfold moveF; dsimp only; rw [if_pos (.inr hf)]
      rw [hMV] at hX
      clear hMV
      subst hX
      clear hdd
      go_wp2_with (first | (go_at_call 75; (with_reducible refine (Qgi B b l _ d2 _ hd2 (St.below HST.out zq0) hf).mono ?_); rintro e w9 ⟨rfl, h9⟩; subst w9) | (go_at_call 64; (with_reducible refine (Qau _ _).mono ?_); rintro e w9 ⟨rfl, h9⟩; subst w9) | (go_at_call 77; (with_reducible refine (Qez B b l _ d1 n1 _ _ hd1 (St.below HST.out zq0) HO.out).mono ?_); rintro e w5 ⟨rfl, hst5, hb5, hfr⟩; have hfr5 := hfr _ _ _ hy0; have hc0 := (hfr5 ⟨gb, 0, none⟩ hgb0 hgg).trans hb0; have hc1 := (hfr5 ⟨gb, 1, none⟩ hgb0 hgg).trans hb1; have hc2 := (hfr5 ⟨gb, 2, none⟩ hgb0 hgg).trans hb2; have HST5 := am hst5; have HB5 := am (BW.trans (BW.mono zq0 hBw) hb5); clear hst5 hb5 hfr hfr5) | (go_at_call 76; (with_reducible refine (Qer B b _ _ d2 n2 _ k _ (by rw [cutT, setE_len]; exact hd2) HST5.out (ok_cut HO.out hdir1 _) hkm).mono ?_); rintro e w6 ⟨rfl, hst6, hb6⟩; have HST6 := am hst6; have HB6 := am (BW.trans HB5.out hb6); clear hst6 hb6))
      go_end0
      exact ⟨⟨rfl, HST6.out⟩, HB6.out⟩
   | some j =>
    have hjl : j < l.length := spot_lt HO.out HSB.out
    dsimp only [nodeV] at hb2
    have hj0 : decide ((j : Int) < 0) = false := decide_eq_false zq3
    by_cases hjk' : j = k
    ·
     have hjk : ((j : Int) == (k : Int)) = true := beq_iff_eq.2 (by rw [hjk'])
     have hMV : moveF l k (d1, n1, o1) (d2, n2, some j) = .inl l := by unfold moveF; dsimp only; rw [if_pos hjk']
     rw [hMV] at hX
     clear hMV
     subst hX
     clear hjk'
     go_wp2
     go_end0
     exact ⟨⟨rfl, St.below HST.out HB.out⟩, BW.mono HB.out hBw⟩
    ·
     have hjk : ((j : Int) == (k : Int)) = false := beq_eq_false_iff_ne.2 zq3
     cases hdk : ((nd l k).f0 == 2) with
     | true =>
      cases hdj : ((nd l j).f0 == 2) with
      | false =>
       have hMV : moveF l k (d1, n1, o1) (d2, n2, some j) = .inr 22 := by unfold moveF; dsimp only; rw [if_neg hjk']; rw [if_pos ⟨beq_iff_eq.1 hdk, beq_eq_false_iff_ne.1 hdj⟩]
       rw [hMV] at hX
       clear hMV
       subst hX
       clear hjk'
       go_wp2_with (first | (go_at_call 65; (with_reducible refine (Qan B b l _ k _ hkl (St.below HST.out zq0) hdk).mono ?_); rintro e w9 ⟨rfl, h9⟩; subst w9) | (go_at_call 65; (with_reducible refine (Qan B b l _ j _ hjl (St.below HST.out zq0) hdj).mono ?_); rintro e w9 ⟨rfl, h9⟩; subst w9) | (go_at_call 64; (with_reducible refine (Qaw 22 _).mono ?_); rintro e w9 ⟨rfl, h9⟩; subst w9; exact ⟨rfl, rfl, BW.mono zq0 hBw⟩))
      | true =>
       by_cases hz : (nd l j).f3 = []
       ·
        have hne : (((nd l j).f3.length : Int) == 0) = true := by rw [hz]; rfl
        have hMV : moveF l k (d1, n1, o1) (d2, n2, some j) = .inl (putT (cutT l d1 n1) d2 n2 k) := by unfold moveF; dsimp only; rw [if_neg hjk']; rw [if_neg (fun h => h.2 (beq_iff_eq.1 hdj)), if_neg (fun h => h.1 (beq_iff_eq.1 hdk)), if_neg (fun h => h hz)]
        rw [hMV] at hX
        clear hMV
        subst hX
        clear hjk' hz
        obtain ⟨v2, v3, -, -, -, hx3, -, hR3, -, -, -, -, -⟩ := Qdf (Qai HWd.out) HSd.out j hjl (Nat.le_trans hBw HB.out.size)
        obtain ⟨A3, c3, rfl, hl3, -⟩ := Kd.R_reads hR3
        clear hR3
        have hj1 : (0 : Int) ≤ (j : Int) := by omega
        have hj2 : (j : Int) < (l.length : Int) := by omega
        go_wp2_with (first | (go_at_call 65; (with_reducible refine (Qan B b l _ k _ hkl (St.below HST.out zq0) hdk).mono ?_); rintro e w9 ⟨rfl, h9⟩; subst w9) | (go_at_call 65; (with_reducible refine (Qan B b l _ j _ hjl (St.below HST.out zq0) hdj).mono ?_); rintro e w9 ⟨rfl, h9⟩; subst w9) | (go_at_call 64; (with_reducible refine (Qau _ _).mono ?_); rintro e w9 ⟨rfl, h9⟩; subst w9))
        go_quiet ((go_at_call 64; refine Calls.quiet_of_same (Qau _ _)))
        go_wp2_with (first | (go_at_call 77; (with_reducible refine (Qez B b l _ d1 n1 _ _ hd1 (St.below HST.out zq0) HO.out).mono ?_); rintro e w5 ⟨rfl, hst5, hb5, hfr⟩; have hfr5 := hfr _ _ _ hy0; have hc0 := (hfr5 ⟨gb, 0, none⟩ hgb0 hgg).trans hb0; have hc1 := (hfr5 ⟨gb, 1, none⟩ hgb0 hgg).trans hb1; have hc2 := (hfr5 ⟨gb, 2, none⟩ hgb0 hgg).trans hb2; have HST5 := am hst5; have HB5 := am (BW.trans (BW.mono zq0 hBw) hb5); clear hst5 hb5 hfr hfr5) | (go_at_call 76; (with_reducible refine (Qer B b _ _ d2 n2 _ k _ (by rw [cutT, setE_len]; exact hd2) HST5.out (ok_cut HO.out hdir1 _) hkm).mono ?_); rintro e w6 ⟨rfl, hst6, hb6⟩; have HST6 := am hst6; have HB6 := am (BW.trans HB5.out hb6); clear hst6 hb6))
        go_end0
        exact ⟨⟨rfl, HST6.out⟩, HB6.out⟩
       ·
        have hne : (((nd l j).f3.length : Int) == 0) = false := beq_eq_false_iff_ne.2 fun h => hz (List.length_eq_zero_iff.1 (Int.ofNat.inj h))
        have hMV : moveF l k (d1, n1, o1) (d2, n2, some j) = .inr 25 := by unfold moveF; dsimp only; rw [if_neg hjk']; rw [if_neg (fun h => h.2 (beq_iff_eq.1 hdj)), if_neg (fun h => h.1 (beq_iff_eq.1 hdk)), if_pos hz]
        rw [hMV] at hX
        clear hMV
        subst hX
        clear hjk' hz
        obtain ⟨v2, v3, -, -, -, hx3, -, hR3, -, -, -, -, -⟩ := Qdf (Qai HWd.out) HSd.out j hjl (Nat.le_trans hBw HB.out.size)
        obtain ⟨A3, c3, rfl, hl3, -⟩ := Kd.R_reads hR3
        clear hR3
        have hj1 : (0 : Int) ≤ (j : Int) := by omega
        have hj2 : (j : Int) < (l.length : Int) := by omega
        go_wp2_with (first | (go_at_call 65; (with_reducible refine (Qan B b l _ k _ hkl (St.below HST.out zq0) hdk).mono ?_); rintro e w9 ⟨rfl, h9⟩; subst w9) | (go_at_call 65; (with_reducible refine (Qan B b l _ j _ hjl (St.below HST.out zq0) hdj).mono ?_); rintro e w9 ⟨rfl, h9⟩; subst w9) | (go_at_call 64; (with_reducible refine (Qau _ _).mono ?_); rintro e w9 ⟨rfl, h9⟩; subst w9))
        go_region_with (go_at_call 64; (with_reducible refine Qbn (v := .tuple #[]) ((Qaw 25 _).mono ?_) ?_); (rintro e w9 ⟨rfl, h9⟩; subst w9; exact ⟨rfl, rfl, BW.mono zq0 hBw⟩); (intro hF0; have hF := am hF0; clear hF0; dsimp only))
        all_goals exact hF.out.elim
     | false =>
      cases hdj : ((nd l j).f0 == 2) with
      | true =>
       have hMV : moveF l k (d1, n1, o1) (d2, n2, some j) = .inr 23 := by unfold moveF; dsimp only; rw [if_neg hjk']; rw [if_neg (fun h => h.2 (beq_iff_eq.1 hdj)), if_pos ⟨beq_eq_false_iff_ne.1 hdk, beq_iff_eq.1 hdj⟩]
       rw [hMV] at hX
       clear hMV
       subst hX
       clear hjk'
       go_wp2_with (first | (go_at_call 65; (with_reducible refine (Qan B b l _ k _ hkl (St.below HST.out zq0) hdk).mono ?_); rintro e w9 ⟨rfl, h9⟩; subst w9) | (go_at_call 65; (with_reducible refine (Qan B b l _ j _ hjl (St.below HST.out zq0) hdj).mono ?_); rintro e w9 ⟨rfl, h9⟩; subst w9) | (go_at_call 64; (with_reducible refine (Qau _ _).mono ?_); rintro e w9 ⟨rfl, h9⟩; subst w9) | (go_at_call 64; (with_reducible refine (Qaw 23 _).mono ?_); rintro e w9 ⟨rfl, h9⟩; subst w9; exact ⟨rfl, rfl, BW.mono zq0 hBw⟩))
      | false =>
       by_cases hz : (nd l j).f3 = []
       ·
        have hne : (((nd l j).f3.length : Int) == 0) = true := by rw [hz]; rfl
        have hMV : moveF l k (d1, n1, o1) (d2, n2, some j) = .inl (putT (cutT l d1 n1) d2 n2 k) := by unfold moveF; dsimp only; rw [if_neg hjk']; rw [if_neg (fun h => (beq_eq_false_iff_ne.1 hdk) h.1), if_neg (fun h => (beq_eq_false_iff_ne.1 hdj) h.2), if_neg (fun h => h hz)]
        rw [hMV] at hX
        clear hMV
        subst hX
        clear hjk' hz
        obtain ⟨v2, v3, -, -, -, hx3, -, hR3, -, -, -, -, -⟩ := Qdf (Qai HWd.out) HSd.out j hjl (Nat.le_trans hBw HB.out.size)
        obtain ⟨A3, c3, rfl, hl3, -⟩ := Kd.R_reads hR3
        clear hR3
        have hj1 : (0 : Int) ≤ (j : Int) := by omega
        have hj2 : (j : Int) < (l.length : Int) := by omega
        go_wp2_with (first | (go_at_call 65; (with_reducible refine (Qan B b l _ k _ hkl (St.below HST.out zq0) hdk).mono ?_); rintro e w9 ⟨rfl, h9⟩; subst w9) | (go_at_call 65; (with_reducible refine (Qan B b l _ j _ hjl (St.below HST.out zq0) hdj).mono ?_); rintro e w9 ⟨rfl, h9⟩; subst w9) | (go_at_call 64; (with_reducible refine (Qau _ _).mono ?_); rintro e w9 ⟨rfl, h9⟩; subst w9))
        go_quiet ((go_at_call 64; refine Calls.quiet_of_same (Qau _ _)))
        go_wp2_with (first | (go_at_call 77; (with_reducible refine (Qez B b l _ d1 n1 _ _ hd1 (St.below HST.out zq0) HO.out).mono ?_); rintro e w5 ⟨rfl, hst5, hb5, hfr⟩; have hfr5 := hfr _ _ _ hy0; have hc0 := (hfr5 ⟨gb, 0, none⟩ hgb0 hgg).trans hb0; have hc1 := (hfr5 ⟨gb, 1, none⟩ hgb0 hgg).trans hb1; have hc2 := (hfr5 ⟨gb, 2, none⟩ hgb0 hgg).trans hb2; have HST5 := am hst5; have HB5 := am (BW.trans (BW.mono zq0 hBw) hb5); clear hst5 hb5 hfr hfr5) | (go_at_call 76; (with_reducible refine (Qer B b _ _ d2 n2 _ k _ (by rw [cutT, setE_len]; exact hd2) HST5.out (ok_cut HO.out hdir1 _) hkm).mono ?_); rintro e w6 ⟨rfl, hst6, hb6⟩; have HST6 := am hst6; have HB6 := am (BW.trans HB5.out hb6); clear hst6 hb6))
        go_end0
        exact ⟨⟨rfl, HST6.out⟩, HB6.out⟩
       ·
        have hne : (((nd l j).f3.length : Int) == 0) = false := beq_eq_false_iff_ne.2 fun h => hz (List.length_eq_zero_iff.1 (Int.ofNat.inj h))
        have hMV : moveF l k (d1, n1, o1) (d2, n2, some j) = .inr 25 := by unfold moveF; dsimp only; rw [if_neg hjk']; rw [if_neg (fun h => (beq_eq_false_iff_ne.1 hdk) h.1), if_neg (fun h => (beq_eq_false_iff_ne.1 hdj) h.2), if_pos hz]
        rw [hMV] at hX
        clear hMV
        subst hX
        clear hjk' hz
        obtain ⟨v2, v3, -, -, -, hx3, -, hR3, -, -, -, -, -⟩ := Qdf (Qai HWd.out) HSd.out j hjl (Nat.le_trans hBw HB.out.size)
        obtain ⟨A3, c3, rfl, hl3, -⟩ := Kd.R_reads hR3
        clear hR3
        have hj1 : (0 : Int) ≤ (j : Int) := by omega
        have hj2 : (j : Int) < (l.length : Int) := by omega
        go_wp2_with (first | (go_at_call 65; (with_reducible refine (Qan B b l _ k _ hkl (St.below HST.out zq0) hdk).mono ?_); rintro e w9 ⟨rfl, h9⟩; subst w9) | (go_at_call 65; (with_reducible refine (Qan B b l _ j _ hjl (St.below HST.out zq0) hdj).mono ?_); rintro e w9 ⟨rfl, h9⟩; subst w9) | (go_at_call 64; (with_reducible refine (Qau _ _).mono ?_); rintro e w9 ⟨rfl, h9⟩; subst w9))
        go_region_with (go_at_call 64; (with_reducible refine Qbn (v := .tuple #[]) ((Qaw 25 _).mono ?_) ?_); (rintro e w9 ⟨rfl, h9⟩; subst w9; exact ⟨rfl, rfl, BW.mono zq0 hBw⟩); (intro hF0; have hF := am hF0; clear hF0; dsimp only))
        all_goals exact hF.out.elim
end
end Go.Proofs.YtbhjggbijkjmnaaGreatDoor.PZ
end
