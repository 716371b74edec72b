import Derived.Test.YtbhjggbijkjmnaaGreatDoorM24
import Derived.Test.YtbhjggbijkjmnaaGreatDoorM15
import Derived.Test.YtbhjggbijkjmnaaGreatDoorM22
import Derived.Test.YtbhjggbijkjmnaaGreatDoorM13
import Derived.Deep.QuietTactic
import Derived.Deep.RegionLaw
import Derived.BigQuiet
import Derived.Test.YtbhjggbijkjmnaaGreatDoorM21
set_option linter.unusedVariables false
set_option linter.unusedSimpArgs false
section
namespace Go.Proofs.YtbhjggbijkjmnaaGreatDoor.PZ
open Go.RowKit Go.Proofs.YtbhjggbijkjmnaaGreatDoorW.PrintWords Go.Proofs.YtbhjggbijkjmnaaGreatDoorW.PrintLast Go.Proofs.YtbhjggbijkjmnaaGreatDoorW.PrintMore Go.Proofs.YtbhjggbijkjmnaaGreatDoor.B Go.Proofs.YtbhjggbijkjmnaaGreatDoor.Ord TD
set_option maxRecDepth 100000
section
attribute [local go_sem ↓] Go.wp_at_zero Go.wp_at_succ
section
variable {w W : World} {vt o0 o1 o2 o3 o4 o5 : Value}
theorem RF.grown_ty {W' : World} {e : TypeId} {r : Option Nat} (h : RF w vt o0 o1 o2 o3 o4 o5 W) (h1 : 26 ≠ e) (h2 : 31 ≠ e) (h3 : 37 ≠ e) (hr : ∀ k, r = some k → ∃ cells, W.heap[k]? = some (.cells cells e (0, 0))) (hg : W.grownBy W' r) (hb : Below w.heap.size w W') : RF w vt o0 o1 o2 o3 o4 o5 W' :=
 ⟨Qbp h.t h1 hr hg, Qbp h.o h2 hr hg, Qbp h.rt h1 hr hg, Qbp h.rr h3 hr hg, hb⟩
end
theorem take_part {b : List Int} {a n : Nat} {j : Nat} (hj : j ≤ n) (h : (b.length ≤ a + j) ∨ j = n) : (b.drop a).take j = (b.drop a).take n := by
 rcases h with h | h
 · rw [List.take_of_length_le (by rw [List.length_drop]; omega), List.take_of_length_le (by rw [List.length_drop]; omega)]
 · rw [h]
theorem take_one {b : List Int} {a j : Nat} (h : a + j < b.length) : (b.drop a).take (j + 1) = (b.drop a).take j ++ [b[a + j]] := by
 rw [List.take_succ_eq_append_getElem (by rw [List.length_drop]; omega), List.getElem_drop]
set_option maxHeartbeats 8000000 in
theorem rcont_bad (A : Option Addr) (c : Nat) (l : List S52) (k0 : Int) (p q : ByteArray) (a n : Int) (Ad : Option Addr) (cd : Nat) (d : List Int) (w : World) (hC : Kd.C k52 w A l.length l) (hc : l.length ≤ c) (hrt : Rt l) (hp : p.size < 1000000) (er : Int) (hk : fileF l p = .inr er) :
  Calls Tryz.prog 62 #[.agg #[.slice A l.length c], .agg #[.int .i64 k0, .string p, .string q, .int .i64 a, .int .i64 n, .slice Ad d.length cd]] w fun e w' => RQ w (l, { res0 with f0 := er }) e w' := by
 have HC := am hC
 have HT := am hrt
 have HM := am (show ∀ k, (nd l k).f3.length < 1000000000 from fun k => by have := hrt.pr.ents k; omega)
 have HF0 := am (Qco w (.slice A l.length c) (.int .i64 k0) (.string p) (.string q) (.int .i64 a) (.int .i64 n) (.slice Ad d.length cd))
 clear hC hrt
 unfold fileF at hk
 cases hs : Qav l p with
 | inr e =>
  rw [hs] at hk
  injection hk with hk
  subst hk
  have HS := am hs
  have he : (e != 0) = true := bne_iff_ne.mpr (Qcc hs)
  clear hs
  go_enter Tryz.func62, Tryz.ntmps62
  go_wp2_with (go_at_call 35; (with_reducible refine (Qdd _ c l p _ (Kd.C_below HC.out HF0.out.bel) hc HT.out.pr.wf HM.out hp).mono ?_); rintro en w1 ⟨rfl, hb⟩; rw [HS.out]; dsimp only [pairR]; have HF1 := am (HF0.out.below hb); obtain ⟨⟨t0, t1, t2, t3, t4⟩, -, ⟨r0, r1, r2, r3, r4, r5, r6⟩, f1, f2⟩ := HF1.out.all; clear hb)
  go_region_with (go_at_call 28; (with_reducible refine (Qcp e _).mono ?_); rintro en w2 ⟨rfl, hb⟩; have HF2 := am (HF1.out.below (Qa zq5 hb)); obtain ⟨⟨s0, s1, s2, s3, s4⟩, -, ⟨y0, y1, y2, y3, y4, y5, y6⟩, f3, f4⟩ := HF2.out.all; clear hb)
  all_goals (go_wp2; exact Qbe (l := l) (r := { res0 with f0 := e }) rfl HF2.out _ rfl rfl hc (Kd.C_below HC.out HF2.out.bel) (Nat.zero_le _) (Kd.C_nil _ _) (Nat.zero_le _) (Kd.C_nil _ _))
 | inl k =>
  rw [hs] at hk
  dsimp only at hk
  have hkl : k < l.length := Qfb HT.out.pr.wf hs
  by_cases hd : (nd l k).f0 = 2
  ·
   rw [if_pos hd] at hk
   injection hk with hk
   subst hk
   have HS := am hs
   have hki : (k : Int) < (l.length : Int) := by omega
   have hkb : ((nd l k).f0 == 2) = true := beq_iff_eq.2 hd
   obtain ⟨ad, A2, g2, A3, g3, e3, hy0, hy1, hy2, hy3, -, -, -, -⟩ := Qaz HC.out (k : Int) zq3 zq3
   cases e3
   rw [Int.toNat_natCast] at hy0 hy1 hy2 hy3
   rw [show rd_T52 l (k : Int) = nd l k from rfl] at hy0 hy1 hy2 hy3
   clear hs hd
   go_enter Tryz.func62, Tryz.ntmps62
   go_wp2_with (go_at_call 35; (with_reducible refine (Qdd _ c l p _ (Kd.C_below HC.out HF0.out.bel) hc HT.out.pr.wf HM.out hp).mono ?_); rintro en w1 ⟨rfl, hb⟩; rw [HS.out]; dsimp only [pairR]; have HF1 := am (HF0.out.below hb); obtain ⟨⟨t0, t1, t2, t3, t4⟩, -, ⟨r0, r1, r2, r3, r4, r5, r6⟩, f1, f2⟩ := HF1.out.all; have hz0 := (HF1.out.bel.cell (World.block_lt_of_cell? w _ hy0)).trans hy0; have hz1 := (HF1.out.bel.cell (World.block_lt_of_cell? w _ hy1)).trans hy1; have hz2 := (HF1.out.bel.cell (World.block_lt_of_cell? w _ hy2)).trans hy2; have hz3 := (HF1.out.bel.cell (World.block_lt_of_cell? w _ hy3)).trans hy3; clear hb)
   go_region_with (go_at_call 28; (with_reducible refine (Qcp 23 _).mono ?_); rintro en w2 ⟨rfl, hb⟩; have HF2 := am (HF1.out.below (Qa zq1 hb)); obtain ⟨⟨s0, s1, s2, s3, s4⟩, -, ⟨y0, y1, y2, y3, y4, y5, y6⟩, f3, f4⟩ := HF2.out.all; clear hb)
   all_goals (go_wp2; exact Qbe (l := l) (r := { res0 with f0 := 23 }) rfl HF2.out _ rfl rfl hc (Kd.C_below HC.out HF2.out.bel) (Nat.zero_le _) (Kd.C_nil _ _) (Nat.zero_le _) (Kd.C_nil _ _))
  · rw [if_neg hd] at hk; cases hk
theorem Qgd {l : List S52} (hw : Wf l) {p : ByteArray} {k : Nat} (h : fileF l p = .inl k) : Qav l p = .inl k ∧ (nd l k).f0 ≠ 2 ∧ k < l.length := by
 unfold fileF at h
 split at h
 · cases h
 ·
  rename_i j hj
  split at h
  · cases h
  ·
   rename_i hd
   injection h with h
   subst h
   exact ⟨hj, hd, Qfb hw hj⟩
set_option maxHeartbeats 2000000 in
theorem rcont_read (A : Option Addr) (c : Nat) (l : List S52) (p q : ByteArray) (a n : Int) (Ad : Option Addr) (cd : Nat) (d : List Int) (w : World) (hC : Kd.C k52 w A l.length l) (hc : l.length ≤ c) (hrt : Rt l) (hp : p.size < 1000000) (k : Nat) (hk : fileF l p = .inl k) :
  Calls Tryz.prog 62 #[.agg #[.slice A l.length c], .agg #[.int .i64 7, .string p, .string q, .int .i64 a, .int .i64 n, .slice Ad d.length cd]] w fun e w' => RQ w (l, if 0 ≤ a ∧ 0 ≤ n then { res0 with f1 := partF (nd l k).f2 a n } else { res0 with f0 := 28 }) e w' := by
 obtain ⟨hs, hd, hkl⟩ := Qgd hrt.pr.wf hk
 have HC := am hC
 have HT := am hrt
 have HM := am (show ∀ k, (nd l k).f3.length < 1000000000 from fun k => by have := hrt.pr.ents k; omega)
 have HF0 := am (Qco w (.slice A l.length c) (.int .i64 7) (.string p) (.string q) (.int .i64 a) (.int .i64 n) (.slice Ad d.length cd))
 clear hC hrt hk
 obtain ⟨R, hR⟩ : ∃ R : S37, (if 0 ≤ a ∧ 0 ≤ n then { res0 with f1 := partF (nd l k).f2 a n } else { res0 with f0 := 28 }) = R := ⟨_, rfl⟩
 rw [hR]
 have HR0 := am hR
 clear hR
 have HS := am hs
 have hki : (k : Int) < (l.length : Int) := by omega
 have hkb : ((nd l k).f0 == 2) = false := beq_eq_false_iff_ne.2 hd
 obtain ⟨ad, A2, g2, A3, g3, e3, hy0, hy1, hy2, hy3, hl2, hC2, -, -⟩ := Qaz HC.out (k : Int) zq3 zq3
 cases e3
 rw [Int.toNat_natCast] at hy0 hy1 hy2 hy3
 rw [show rd_T52 l (k : Int) = nd l k from rfl] at hy0 hy1 hy2 hy3 hl2 hC2
 have hs2 := HT.out.pr.size k
 have HC2 := am hC2
 have HL2 := am hl2
 clear hs hd hC2 hl2
 go_enter Tryz.func62, Tryz.ntmps62
 go_wp2_with (go_at_call 35; (with_reducible refine (Qdd _ c l p _ (Kd.C_below HC.out HF0.out.bel) hc HT.out.pr.wf HM.out hp).mono ?_); rintro en w1 ⟨rfl, hb⟩; rw [HS.out]; dsimp only [pairR]; have HF1 := am (HF0.out.below hb); obtain ⟨⟨t0, t1, t2, t3, t4⟩, ⟨p0, p1, p2, p3, p4, p5⟩, ⟨r0, r1, r2, r3, r4, r5, r6⟩, f1, f2⟩ := HF1.out.all; have hz0 := (HF1.out.bel.cell (World.block_lt_of_cell? w _ hy0)).trans hy0; have hz1 := (HF1.out.bel.cell (World.block_lt_of_cell? w _ hy1)).trans hy1; have hz2 := (HF1.out.bel.cell (World.block_lt_of_cell? w _ hy2)).trans hy2; have hz3 := (HF1.out.bel.cell (World.block_lt_of_cell? w _ hy3)).trans hy3; clear hb)
 rotate_left
 ·
  have hgood : 0 ≤ a ∧ 0 ≤ n := by assumption
  obtain ⟨m, rfl⟩ : ∃ m : Nat, a = m := ⟨a.toNat, by omega⟩
  obtain ⟨t, rfl⟩ : ∃ t : Nat, n = t := ⟨n.toNat, by omega⟩
  have HR := am (show R = { res0 with f1 := ((nd l k).f2.drop m).take t } by rw [← HR0.out, if_pos hgood]; rfl)
  have HFS := am ((HF1.out.below (Qaa (Below.refl _ _) (.cells #[.int .i64 (nd l k).f0, .int .i64 (nd l k).f1, .slice A2 (nd l k).f2.length g2, .slice A3 (nd l k).f3.length g3] 52))).below (Qaa (Below.refl _ _) (.cells #[] 5)))
  have HNB := am (Qaj (Qal w1 (.cells #[.int .i64 (nd l k).f0, .int .i64 (nd l k).f1, .slice A2 (nd l k).f2.length g2, .slice A3 (nd l k).f3.length g3] 52)) (.cells #[] 5))
  have HRS := am (R_new0 (Kd.int .u8) (w1.alloc (.cells #[.int .i64 (nd l k).f0, .int .i64 (nd l k).f1, .slice A2 (nd l k).f2.length g2, .slice A3 (nd l k).f3.length g3] 52)) (base := w.heap.size) 5 (by rw [World.size_alloc]; have := HF1.out.bel.size; omega))
  rw [World.size_alloc] at HRS
  clear hgood t0 t1 t2 t3 t4 p0 p1 p2 p3 p4 p5 r0 r1 r2 r3 r4 r5 r6 f1 f2 hz0 hz1 hz2 hz3 HF1
  generalize (w1.alloc (.cells #[.int .i64 (nd l k).f0, .int .i64 (nd l k).f1, .slice A2 (nd l k).f2.length g2, .slice A3 (nd l k).f3.length g3] 52)).alloc (.cells #[] 5) = w2 at *
  generalize w1.heap.size = gn at *
  go_loopw [9, 10] (fun v9 v10 wr => ∃ i j : Nat, v10 = .int .i64 i ∧ Aside0 (i = m + j ∧ j ≤ t ∧ (j = 0 ∨ i ≤ (nd l k).f2.length)) ∧ Aside0 (RF w (.slice (some ad) l.length c) (.int .i64 7) (.string p) (.string q) (.int .i64 m) (.int .i64 t) (.slice Ad d.length cd) wr) ∧ Aside0 (wr.heap[gn]? = some (.cells #[.int .i64 (nd l k).f0, .int .i64 (nd l k).f1, .slice A2 (nd l k).f2.length g2, .slice A3 (nd l k).f3.length g3] 52 (0, 0))) ∧ Aside0 (Kd.R (Kd.int .u8) 5 wr w.heap.size (fun _ => True) v9 (((nd l k).f2.drop m).take j))) (fun v9 v10 _ => (nd l k).f2.length - (intOf v10).toNat)
  case atStart => exact ⟨m, 0, rfl, ⟨rfl, Nat.zero_le _, .inl rfl⟩, HFS, HNB, ⟨by rw [List.take_zero]; exact HRS.out⟩⟩
  case round =>
   obtain ⟨i, j, rfl, HJ, HF, HN, HS9⟩ := hrel
   have hn2 := (Qab HN.out 2).trans (show _ = some (Value.slice A2 (nd l k).f2.length g2) from rfl)
   have hnl := Qai HN.out
   obtain ⟨hij, hjt, hjl⟩ := HJ.out
   have hXl : (((nd l k).f2.drop m).take j).length = j := by rw [List.length_take, List.length_drop]; omega
   by_cases hlt : i < (nd l k).f2.length ∧ j < t
   ·
    obtain ⟨hi1, hj1⟩ := hlt
    obtain ⟨ad4, e4, hx0⟩ := Kd.at_int (Kd.C_below HC2.out HF.out.bel) (i : Int) zq3 zq3
    cases e4
    rw [Int.toNat_natCast] at hx0
    rw [show rd (nd l k).f2 (i : Int) = (nd l k).f2[i] by simp [rd, List.getD_eq_getElem?_getD, List.getElem?_eq_getElem hi1]] at hx0
    have HTK := am (show ((nd l k).f2.drop m).take (j + 1) = ((nd l k).f2.drop m).take j ++ [(nd l k).f2[i]] by subst hij; exact take_one hi1)
    have HLL := am (show ((((nd l k).f2.drop m).take j).length + 1) * 1 ≤ 140737488355328 by omega)
    obtain ⟨⟨t0, t1, t2, t3, t4⟩, ⟨p0, p1, p2, p3, p4, p5⟩, -, -, -⟩ := HF.out.all
    have hii : (i : Int) < ((nd l k).f2.length : Int) := by omega
    have hdi : decide ((i : Int) < ((nd l k).f2.length : Int)) = true := decide_eq_true hii
    have hXt : ((((nd l k).f2.drop m).take j).length : Int) < (t : Int) := by omega
    clear hij hjt hjl hXl
    generalize (nd l k).f2[i] = b at hx0 HTK
    generalize ((nd l k).f2.drop m).take j = X at *
    have hdX : decide ((X.length : Int) < (t : Int)) = true := decide_eq_true hXt
    obtain ⟨A8, c8, e8, -, -⟩ := Kd.R_reads HS9.out
    subst e8
    go_wp2_with ((with_reducible refine Qas (b := .append) (xs := #[.tmp 67, .tmp 73]) rfl ?_); at_builtin; (refine Kd.R_append (Kd.int .u8) (w0 := w) w.heap.size rfl (.tmp 67) (.tmp 73) 29 5 (.int .u8 0) 1 rfl Tryz.underlying29 info5 rfl zq9 zq3 (.slice A8 X.length c8) X b [.int .u8 b] (fun _ => True) (fun _ => False) rfl rfl rfl (fun _ h => h.elim) (fun _ _ => trivial) HS9.out HF.out.bel HF.out.bel.size HLL.out ?_); intro v9 w9 ho hbb hg hat; have HS10 := am ho; have hty := Kd.R_typed HS9.out; have HF9 := am (HF.out.grown_ty zq9 zq9 zq9 hty hg hbb); have HN9 := am (Qbp HN.out zq9 hty hg); clear ho hbb hg hat hty)
    go_roundw
    case rel => exact ⟨i + 1, j + 1, rfl, ⟨by have := HJ.out; omega, by omega, by omega⟩, HF9, HN9, ⟨by rw [HTK.out]; exact HS10.out⟩⟩
    case measure => simp [intOf]; omega
   ·
    have HE := am (show ((nd l k).f2.drop m).take j = ((nd l k).f2.drop m).take t from take_part hjt zq3)
    obtain ⟨⟨t0, t1, t2, t3, t4⟩, ⟨p0, p1, p2, p3, p4, p5⟩, ⟨r0, r1, r2, r3, r4, r5, r6⟩, f1, f2⟩ := HF.out.all
    have hXt : i < (nd l k).f2.length → ¬ ((((nd l k).f2.drop m).take j).length : Int) < (t : Int) := by omega
    rw [← HE.out] at HR
    clear hij hjt hjl hXl hlt HE HJ
    generalize ((nd l k).f2.drop m).take j = X at *
    obtain ⟨A8, c8, e8, hc8, hC8⟩ := Kd.R_reads HS9.out
    subst e8
    have HC8 := am hC8
    clear hC8 HS9
    by_cases hi1 : i < (nd l k).f2.length
    ·
     have hii : (i : Int) < ((nd l k).f2.length : Int) := by omega
     have hdi : decide ((i : Int) < ((nd l k).f2.length : Int)) = true := decide_eq_true hii
     have hXn := hXt hi1
     have hdX : decide ((X.length : Int) < (t : Int)) = false := decide_eq_false hXn
     clear hXt
     go_wp2
     rw [HR.out]
     refine Qbe (fn := Tryz.f62) (w := w) (W := wr) (l := l) (r := { res0 with f1 := X }) (A2 := A8) (A3 := none) (c1 := c) (c2 := c8) (c3 := 0) zq25 HF.out _ ?h4 ?h5 hc (Kd.C_below HC.out HF.out.bel) hc8 HC8.out (Nat.zero_le _) (Kd.C_nil _ _)
     case h4 => rfl
     case h5 => rfl
    ·
     have hii : ¬ (i : Int) < ((nd l k).f2.length : Int) := by omega
     have hdi : decide ((i : Int) < ((nd l k).f2.length : Int)) = false := decide_eq_false hii
     clear hXt
     go_wp2
     rw [HR.out]
     refine Qbe (fn := Tryz.f62) (w := w) (W := wr) (l := l) (r := { res0 with f1 := X }) (A2 := A8) (A3 := none) (c1 := c) (c2 := c8) (c3 := 0) zq25 HF.out _ ?h4 ?h5 hc (Kd.C_below HC.out HF.out.bel) hc8 HC8.out (Nat.zero_le _) (Kd.C_nil _ _)
     case h4 => rfl
     case h5 => rfl
 all_goals
  have HBAD := am (show R = { res0 with f0 := 28 } by rw [← HR0.out, if_neg zq3])
  go_region_with (go_at_call 28; (with_reducible refine (Qcp 28 _).mono ?_); rintro en w2 ⟨rfl, hb⟩; have HF2 := am (HF1.out.below (Qa zq1 hb)); obtain ⟨⟨s0, s1, s2, s3, s4⟩, -, ⟨y0, y1, y2, y3, y4, y5, y6⟩, f3, f4⟩ := HF2.out.all; clear hb)
  all_goals (go_wp2; rw [HBAD.out]; exact Qbe (l := l) (r := { res0 with f0 := 28 }) rfl HF2.out _ rfl rfl hc (Kd.C_below HC.out HF2.out.bel) (Nat.zero_le _) (Kd.C_nil _ _) (Nat.zero_le _) (Kd.C_nil _ _))
theorem step_copy_cells {P : Program} {ops : Array Oper} {o : Oper} {a : Act} {w : World} {K : Act → World → Prop} {Q : Exit → Act → World → Prop} {E : Prop} (hw : Region.wanted o (yielded ops a.tmps) = true) (d s : Operand) (dT sT : TypeId)
  (ho : o.op = .call { callee := .builtin .copy, args := #[d, s], argTypes := #[dT, sT] }) (elem : TypeId) (hu : P.underlying dT = some (.slice elem)) (hsz : (P.info? elem).map (·.size) = some 1)
  (g off dLen dCap : Nat) (ad : Addr) (sLen sCap : Nat) (hd : a.eval d = .slice (some ⟨g, off, none⟩) dLen dCap) (hs : a.eval s = .slice (some ad) sLen sCap) (cs : List Value) (hn : cs.length = Nat.min sLen dLen)
  (hsrc : ∀ j v, cs[j]? = some v → w.cell? (ad.add j) = some v) (hc : ∀ j, j < cs.length → (w.cell? ⟨g, off + j, none⟩).isSome = true) (hf : ∀ j, j < cs.length → w.frozen? ⟨g, off + j, none⟩ = false) (h1 : ∀ v ∈ cs, v.oneCell' = true)
  (h : ∀ w1, w1 = w.setCells g off cs → K (a.put o.dst (goInt cs.length)) w1) :
  if Region.wanted o (yielded ops a.tmps) = true then Oper.wp P o a w K Q else E := by
 rw [if_pos hw]
 have hrun := run_copy_cells (P := P) w dT sT o.type elem g off dLen dCap ad sLen sCap cs hu hsz hn hsrc hc hf h1
 unfold Oper.wp
 simp [execOp, ho, resolve, invoke, builtin, hd, hs, hrun, Result.andThen]
 exact h _ rfl
theorem setCell_swap (w : World) (p : Addr) (u : Value) (g o : Nat) (v : Value) (h : p.block ≠ g) : (w.setCell p u).setCell ⟨g, o, none⟩ v = (w.setCell ⟨g, o, none⟩ v).setCell p u := by
 unfold World.setCell
 congr 1
 apply Array.ext_getElem?
 intro i
 simp only [Array.getElem?_modify]
 by_cases h1 : g = i
 ·
  by_cases h2 : p.block = i
  · omega
  · simp [h1, h2]
 ·
  by_cases h2 : p.block = i
  · simp [h1, h2]
  · simp [h1, h2]
theorem Qhc (p : Addr) (u : Value) (g : Nat) (h : p.block ≠ g) : ∀ (vs : List Value) (o : Nat) (w : World), (w.setCell p u).setCells g o vs = (w.setCells g o vs).setCell p u
 | [], _, _ => rfl
 | v :: vs, o, w => by
  show ((w.setCell p u).setCell ⟨g, o, none⟩ v).setCells g (o + 1) vs = ((w.setCell ⟨g, o, none⟩ v).setCells g (o + 1) vs).setCell p u
  rw [setCell_swap w p u g o v h, Qhc p u g h vs (o + 1)]
theorem R_setCells {e base g n cap : Nat} {w : World} {ok : Nat → Prop} {xs ys : List Int} {at_ : Nat} (HO : (Kd.int .u8).R e w base ok (.slice (some ⟨g, 0, none⟩) n cap) xs) (hle : at_ + ys.length ≤ xs.length) :
  (Kd.int .u8).R e (w.setCells g at_ (nums .u8 ys)) base ok (.slice (some ⟨g, 0, none⟩) n cap) (overF xs at_ ys) ∧ (∀ j, j < xs.length → (w.cell? ⟨g, j, none⟩).isSome = true) ∧ (∀ j, w.frozen? ⟨g, j, none⟩ = false) := by
 have hown := Kd.own_of_R HO
 rcases hown.2 with ⟨hv, hx0⟩ | ⟨g', cap', cur, hv, hb, hh, hnc, hcm, hcs, htake⟩
 · cases hv
 injection hv with hv1 hv2 hv3
 injection hv1 with hv1
 injection hv1 with hv1
 subst hv1 hv2 hv3
 have hcs1 : cur.size = cap := by omega
 have hl : (nums .u8 ys).length = ys.length := Qef _ _
 obtain ⟨cur', h3, h4, h5⟩ := Qda (nums .u8 ys) at_ w cur hh (by rw [hl]; omega)
 have hln : (overF xs at_ ys).length = xs.length := by unfold overF; rw [List.length_append, List.length_append, List.length_take, List.length_drop]; omega
 refine ⟨Kd.R_of_own ?_ HO.1, fun j hj => ?_, fun j => Qag hh j⟩
 ·
  rw [hln]
  refine ⟨by rw [Qdk, hln, Nat.mul_one], .inr ⟨g, cap, cur', rfl, hb, h3, hnc, hcm, by rw [h4, hcs], ?_⟩⟩
  rw [h5, hl]
  have htk : cur.toList.take xs.length = nums .u8 xs := by rw [Nat.mul_one] at htake; exact htake
  show (cur.toList.take at_ ++ nums .u8 ys ++ cur.toList.drop (at_ + ys.length)).take (xs.length * 1) = nums .u8 (overF xs at_ ys)
  rw [Nat.mul_one]
  have e1 : cur.toList.take at_ = nums .u8 (xs.take at_) := by
   rw [nums, List.map_take, ← nums, ← htk, List.take_take, Nat.min_eq_left zq3]
  have e2 : (cur.toList.drop (at_ + ys.length)).take (xs.length - (at_ + ys.length)) = nums .u8 (xs.drop (at_ + ys.length)) := by
   rw [nums, List.map_drop, ← nums, ← htk, List.drop_take]
  have hl1 : (cur.toList.take at_ ++ nums .u8 ys).length = at_ + ys.length := by rw [List.length_append, e1, Qef, Qef, List.length_take]; omega
  rw [List.take_append, hl1, List.take_of_length_le (by rw [hl1]; exact hle), e2, e1, overF, nums_append, nums_append]
 ·
  rw [Qab hh]
  simp
  omega
theorem sum_wrap (i n : Nat) (h : i + n ≤ 100000) : IntKind.i64.wrap ((i : Int) + (n : Int)) = ((i + n : Nat) : Int) := by
 rw [IntKind.wrap_i64]
 omega
theorem nums_at {w : World} {ad : Addr} {xs : List Int} (h : ∀ j, j < xs.length → w.cell? (ad.add j) = some (.int .u8 (xs.getD j 0))) : ∀ j v, (nums .u8 xs)[j]? = some v → w.cell? (ad.add j) = some v := by
 intro j v hv
 rw [nums, List.getElem?_map] at hv
 cases hx : xs[j]? with
 | none => rw [hx] at hv; cases hv
 | some u =>
  rw [hx] at hv
  injection hv with hv
  rw [← hv, h j (List.getElem?_eq_some_iff.1 hx).1, List.getD_eq_getElem?_getD, hx]
  rfl
theorem nums_one (xs : List Int) : ∀ v ∈ nums .u8 xs, v.oneCell' = true := by
 intro v hv
 rw [nums, List.mem_map] at hv
 obtain ⟨u, -, rfl⟩ := hv
 rfl
theorem write_after (B b : Nat) (l : List S52) (rest : List Value) (g cap k i M g4 c4 : Nat) (xs : List Int) (w1 w2 w6 : World) (hW1 : Wk w1 b (.slice (some ⟨g, 0, none⟩) l.length cap) rest) (hbB : Below w1.heap.size w1 w2) (hgb : g ≠ b) (hg4 : w1.heap.size ≤ g4) (hg : g < w1.heap.size)
  (hP : ∀ (w' : World) (u : Value) (bs : List Int), Below w1.heap.size w1 w' → Kd.R (Kd.int .u8) 5 w' w1.heap.size (fun _ => True) u bs → Kd.S k52 52 (w'.setCell ⟨g, k * 4 + 2, none⟩ u) B (fun k => k ≠ b) (.slice (some ⟨g, 0, none⟩) l.length cap) (setD l k bs))
  (hR : Kd.R (Kd.int .u8) 5 w2 w1.heap.size (fun _ => True) (.slice (some ⟨g4, 0, none⟩) M c4) (Qcq (nd l k).f2 M)) (hM : i + xs.length ≤ M)
  (h6 : w6 = (w2.setCell ⟨g, k * 4 + 2, none⟩ (.slice (some ⟨g4, 0, none⟩) M c4)).drew.setCells g4 i (nums .u8 xs)) :
  Wk w6 b (.slice (some ⟨g, 0, none⟩) l.length cap) rest ∧ Kd.S k52 52 w6 B (fun k => k ≠ b) (.slice (some ⟨g, 0, none⟩) l.length cap) (setD l k (overF (Qcq (nd l k).f2 M) i xs)) ∧ ∃ w3, Below w1.heap.size w1 w3 ∧ w6 = w3.setCell ⟨g, k * 4 + 2, none⟩ (.slice (some ⟨g4, 0, none⟩) M c4) := by
 have e : w6 = (w2.drew.setCells g4 i (nums .u8 xs)).setCell ⟨g, k * 4 + 2, none⟩ (.slice (some ⟨g4, 0, none⟩) M c4) := h6.trans (Qhc ⟨g, k * 4 + 2, none⟩ _ g4 (show g ≠ g4 by omega) _ i w2.drew)
 have hb3 : Below w1.heap.size w1 (w2.drew.setCells g4 i (nums .u8 xs)) := (Qad hbB).trans (Qgp hg4 _ _)
 have hr3 := (R_setCells (w := w2.drew) (xs := Qcq (nd l k).f2 M) (ys := xs) (at_ := i) (Kd.R_drew hR) (by rw [Qcf]; exact hM)).1
 subst e
 exact ⟨Qam (p := ⟨g, k * 4 + 2, none⟩) (Qaf hW1 hb3) (Ne.symm hgb) _, hP _ _ _ hb3 hr3, _, hb3, rfl⟩
set_option maxHeartbeats 4000000 in
theorem write_walk (B b : Nat) (l : List S52) (x y z : Value) (p : ByteArray) (a : Int) (Ad : Option Addr) (cd : Nat) (xs : List Int) (r0 r1 r2 r3 r4 : Value) (w : World) (hst : St B b l (x :: .string p :: y :: .int .i64 a :: z :: .slice Ad xs.length cd :: r0 :: r1 :: r2 :: r3 :: r4 :: [.int .i64 0]) w) (ho : Ok l) (hp : p.size < 10000000) (hd : ∀ k, (nd l k).f2.length < 1000000000)
  (hxc : xs.length ≤ cd) (hx : ∀ w', Below B w w' → Kd.C (Kd.int .u8) w' Ad xs.length xs) :
  Calls Tryz.prog 54 #[.pointer (some ⟨b, 0, none⟩)] w fun en w' => (match Qfz l p a xs with
   | .inl l' => en = .returned (.tuple #[]) ∧ St B b l' (x :: .string p :: y :: .int .i64 a :: z :: .slice Ad xs.length cd :: r0 :: r1 :: r2 :: r3 :: r4 :: [.int .i64 xs.length]) w'
   | .inr e => en = .panicked (wrong e)) ∧ BW B w w' := by
 obtain ⟨hBb, v, hw, hS⟩ := hst
 have hbl := Qai hw
 have hBw : B ≤ w.heap.size := by omega
 have hk4 : w.cell? ⟨b, 4, none⟩ = some (.int .i64 a) := (Qab hw 4).trans rfl
 have hk6 : w.cell? ⟨b, 6, none⟩ = some (.slice Ad xs.length cd) := (Qab hw 6).trans rfl
 obtain ⟨g, cap, rfl, hBg, hgl, -⟩ := Kd.S_form hS ho.wf.pos
 have HW := am hw
 have HS := am hS
 have HO := am ho
 have HX := am hx
 clear hw hS ho hx
 unfold Qfz
 cases hf : fileF l p with
 | inr e =>
  dsimp only
  have HF := am hf
  clear hf
  go_enter Tryz.func54, Tryz.ntmps54
  go_wp2_with (first | (go_at_call 79; (with_reducible refine (Qbq B b l _ p _ g cap _ hBb HW.out HS.out HO.out hp).mono ?_); rintro e w1 ⟨h1, hb⟩; rw [HF.out] at h1; subst h1; exact ⟨rfl, rfl, BW.mono hb hBw⟩))
 | inl k =>
  dsimp only
  have hkl := (fileF_lt HO.out hf).1
  have HF := am hf
  clear hf
  by_cases hn : 0 ≤ a ∧ a ≤ 46368 ∧ (xs.length : Int) ≤ 46368 - a
  ·
   rw [if_pos hn]
   obtain ⟨hn0, hn1, hn2⟩ := hn
   obtain ⟨i, rfl⟩ : ∃ m : Nat, a = m := ⟨a.toNat, by omega⟩
   have hd0 : decide ((0 : Int) ≤ (i : Int)) = true := decide_eq_true hn0
   have hd1 : decide ((i : Int) ≤ 46368) = true := decide_eq_true hn1
   have hd2 : decide ((xs.length : Int) ≤ 46368 - (i : Int)) = true := decide_eq_true hn2
   rw [Int.toNat_natCast]
   have hdk := hd k
   by_cases hx0 : xs.length = 0
   ·
    rw [if_pos hx0]
    have hxz : decide ((0 : Int) < (xs.length : Int)) = false := decide_eq_false zq3
    have hxz2 : decide (0 < xs.length) = false := decide_eq_false zq3
    clear hx0
    go_enter Tryz.func54, Tryz.ntmps54
    go_wp2_with (first
     | (go_at_call 79; (with_reducible refine (Qbq B b l _ p _ g cap _ hBb HW.out HS.out HO.out hp).mono ?_); rintro e w1 ⟨h1, hb⟩; rw [HF.out] at h1; subst h1; have hk4_ := (hb.cell (p := ⟨b, 4, none⟩) hbl).trans hk4; have hk6_ := (hb.cell (p := ⟨b, 6, none⟩) hbl).trans hk6; have HW1 := am (Qaf HW.out hb); have HS1 := am (Kd.S_below HS.out hb); have HB := am hb; clear hb))
    go_quiet (fail)
    have hy12 : w1.cell? ⟨b, 12, none⟩ = some (.int .i64 0) := (Qab HW1.out 12).trans rfl
    have hf12 := Qag HW1.out 12
    go_wp2_with (first | (go_at_call 64; (with_reducible refine (Qau _ _).mono ?_); rintro e w9 ⟨rfl, h9⟩; subst w9))
    go_end0
    exact ⟨⟨rfl, hBb, _, Wk.set (Qbk HW1.out _) 11 _, Kd.S_far (p := ⟨b, 12, none⟩) (Kd.S_drewN HS1.out _) (fun k hk => hk) _⟩, ((BW.mono HB.out hBw).drewN _).setW hBb (Qbk HW1.out _) 12 _⟩
   ·
    rw [if_neg hx0]
    have hxp : 0 < xs.length := Nat.pos_of_ne_zero hx0
    have hxz : decide ((0 : Int) < (xs.length : Int)) = true := decide_eq_true zq3
    have hxz2 : decide (0 < xs.length) = true := decide_eq_true hxp
    obtain ⟨M, hM⟩ : ∃ M, max (nd l k).f2.length (i + xs.length) = M := ⟨_, rfl⟩
    have hmx : max ((nd l k).f2.length : Int) (IntKind.i64.wrap ((i : Int) + (xs.length : Int))) = (M : Int) := by rw [sum_wrap i xs.length zq3]; omega
    have hM1 : i + xs.length ≤ M := by omega
    have hM2 : M < 1000000000 := by omega
    have hMp : 0 < M := by omega
    rw [hM]
    have HM := am hM
    clear hx0 hM
    go_enter Tryz.func54, Tryz.ntmps54
    go_wp2_with (first
     | (go_at_call 79; (with_reducible refine (Qbq B b l _ p _ g cap _ hBb HW.out HS.out HO.out hp).mono ?_); rintro e w1 ⟨h1, hb⟩; rw [HF.out] at h1; subst h1; have hk4_ := (hb.cell (p := ⟨b, 4, none⟩) hbl).trans hk4; have hk6_ := (hb.cell (p := ⟨b, 6, none⟩) hbl).trans hk6; have HW1 := am (Qaf HW.out hb); have hS1 := Kd.S_below HS.out hb; have hbl1 := Qai HW1.out; have hB1 : B ≤ w1.heap.size := zq3; obtain ⟨v2, v3, -, -, hx2, -, hR2, -, hfr, hgb, -, -, hput⟩ := Qdf hbl1 hS1 k hkl hB1; obtain ⟨A2, c2, rfl, hl2, hC2⟩ := Kd.R_reads hR2; have hf2 := hfr 2; have HP := am hput; have HC := am hC2; have HB := am hb; have hgl1 := World.block_lt_of_cell? _ _ hx2; clear hb hS1 hR2 hfr hput hC2))
    go_quiet (fail)
    go_wp2_with (first | (go_at_call 64; (with_reducible refine (Qau _ _).mono ?_); rintro e w9 ⟨rfl, h9⟩; subst w9))
    go_region_with (first | (go_at_call 80; (with_reducible refine (sized_walk A2 c2 (nd l k).f2 M _ ?hC hl2 hM2).mono ?_); (case hC => exact Kd.C_below HC.out (by repeat (first | with_reducible exact Below.refl _ _ | with_reducible apply Qad | with_reducible apply Qac)));  rintro e w2 ⟨v4, rfl, hr, hb⟩; obtain ⟨g4, c4, hv4, hg4, hl4, -⟩ := Kd.R_form hr (by rw [Qcf]; exact hMp); rw [Qcf] at hv4; subst hv4; have HR := am (Kd.R_lower hr (show w1.heap.size ≤ (w1.drewN (nq + 1)).heap.size from Nat.le_refl _)); have HB2 := am (Qa (Qac (Below.refl w1.heap.size w1) _) hb); have hg41 : w1.heap.size ≤ g4 := hg4; have hy2 : w2.cell? ⟨g, k * 4 + 2, none⟩ = some (.slice A2 (nd l k).f2.length c2) := (HB2.out.cell (p := ⟨g, k * 4 + 2, none⟩) hgl1).trans hx2; have hyf : w2.frozen? ⟨g, k * 4 + 2, none⟩ = false := (HB2.out.frozen (p := ⟨g, k * 4 + 2, none⟩) hgl1).trans hf2; have hy6 : w2.cell? ⟨b, 6, none⟩ = some (.slice Ad xs.length cd) := (HB2.out.cell (p := ⟨b, 6, none⟩) hbl1).trans hk6_; clear hr hb hg4))
    all_goals
     clear hmx
     have hgg : g4 ≠ g := by omega
     have hlc : M ≤ c4 := by have := (Kd.R_reads' HR.out).2.1; exact this
     have hci : ¬ c4 = i := by omega
     have hi0 : (0 : Int) ≤ (i : Int) := by omega
     have hi1 : (i : Int) ≤ (M : Int) := by omega
     have hi2 : (M : Int) ≤ (c4 : Int) := by omega
     have hadd : (⟨g4, 0, none⟩ : Addr).add i = ⟨g4, i, none⟩ := Qbl g4 i
     have HXC := am (HX.out (w2.setCell ⟨g, k * 4 + 2, none⟩ (.slice (some ⟨g4, 0, none⟩) M c4)).drew (Qad ((Below.trans (Below.mono HB.out hBw) (Below.mono HB2.out hB1)).setCell (p := ⟨g, k * 4 + 2, none⟩) hBg _)))
     have HR5 := am (R_setCells (w := (w2.setCell ⟨g, k * 4 + 2, none⟩ (.slice (some ⟨g4, 0, none⟩) M c4)).drew) (xs := Qcq (nd l k).f2 M) (ys := xs) (at_ := i) (Kd.R_drew (Kd.R_far (p := ⟨g, k * 4 + 2, none⟩) (Kd.R_mono (Kd.R_bound HR.out) (ok' := fun k => k ≠ g) (fun k hk => by have := hk.2.1; omega)) (fun k hk => hk) _)) (by rw [Qcf]; exact hM1))
     obtain ⟨ad, hA, hsrc⟩ := (Kd.reads_of_C (d := (0 : Int)) HXC.out).2.2 hxp
     subst hA
     have HSR := am hsrc
     clear hsrc
     go_wp2
     go_region_law ((refine step_copy_cells zq25 _ _ _ _ zq25 5 Tryz.underlying29 info5s g4 i (M - i) (c4 - i) ad xs.length cd zq25 zq25 (nums .u8 xs) (by rw [Qef]; exact (Nat.min_eq_left (Nat.le_sub_of_add_le (Nat.add_comm i xs.length ▸ hM1))).symm) (nums_at HSR.out) (fun j hj => HR5.out.2.1 (i + j) (by rw [Qef] at hj; rw [Qcf]; omega)) (fun j _ => HR5.out.2.2 (i + j)) (nums_one xs) ?_; intro w6 h6; obtain ⟨hw6, hs6, w3, hb3, e3⟩ := write_after B b l _ g cap k i M g4 c4 xs w1 w2 w6 HW1.out HB2.out hgb hg41 hgl1 HP.out HR.out hM1 h6; have HW6 := am hw6; have HS6 := am hs6; have HB6 := am (BW.trans (BW.mono HB.out hBw) (e3 ▸ (BW.mono hb3 hB1).setN hBg (Kd.S_below (Kd.S_below HS.out HB.out) hb3) (k * 4 + 2) _)); have hz12 := (Qab HW6.out 12).trans (show _ = some (Value.int .i64 0) from rfl); have hzf := Qag HW6.out 12; clear h6 hw6 hs6 hb3 e3))
     all_goals go_wp2
     all_goals go_end0
     all_goals exact ⟨⟨rfl, hBb, _, Wk.set HW6.out 11 _, Kd.S_far (p := ⟨b, 12, none⟩) HS6.out (fun k hk => hk) _⟩, HB6.out.setW hBb HW6.out 12 _⟩
  ·
   rw [if_neg hn]
   dsimp only
   by_cases h0 : 0 ≤ a
   ·
    have hd0 : decide ((0 : Int) ≤ a) = true := decide_eq_true h0
    by_cases h1 : a ≤ 46368
    ·
     have hd1 : decide (a ≤ 46368) = true := decide_eq_true h1
     have hd2 : decide ((xs.length : Int) ≤ 46368 - a) = false := decide_eq_false fun h => hn ⟨h0, h1, h⟩
     clear hn
     go_enter Tryz.func54, Tryz.ntmps54
     go_wp2_with (first
      | (go_at_call 79; (with_reducible refine (Qbq B b l _ p _ g cap _ hBb HW.out HS.out HO.out hp).mono ?_); rintro e w1 ⟨h1, hb⟩; rw [HF.out] at h1; subst h1; have hk4_ := (hb.cell (p := ⟨b, 4, none⟩) hbl).trans hk4; have hk6_ := (hb.cell (p := ⟨b, 6, none⟩) hbl).trans hk6; have HB := am hb; clear hb))
     go_quiet (fail)
     go_wp2_with (first | (go_at_call 64; (with_reducible refine (Qaw 28 _).mono ?_); rintro e w9 ⟨rfl, h9⟩; subst w9; exact ⟨rfl, rfl, (BW.mono HB.out hBw).drewN _⟩))
    ·
     have hd1 : decide (a ≤ 46368) = false := decide_eq_false h1
     clear hn h1
     go_enter Tryz.func54, Tryz.ntmps54
     go_wp2_with (first
      | (go_at_call 79; (with_reducible refine (Qbq B b l _ p _ g cap _ hBb HW.out HS.out HO.out hp).mono ?_); rintro e w1 ⟨h1, hb⟩; rw [HF.out] at h1; subst h1; have hk4_ := (hb.cell (p := ⟨b, 4, none⟩) hbl).trans hk4; have hk6_ := (hb.cell (p := ⟨b, 6, none⟩) hbl).trans hk6; have HB := am hb; clear hb))
     go_quiet (fail)
     go_wp2_with (first | (go_at_call 64; (with_reducible refine (Qaw 28 _).mono ?_); rintro e w9 ⟨rfl, h9⟩; subst w9; exact ⟨rfl, rfl, (BW.mono HB.out hBw).drewN _⟩))
   ·
    have hd0 : decide ((0 : Int) ≤ a) = false := decide_eq_false h0
    clear hn h0
    go_enter Tryz.func54, Tryz.ntmps54
    go_wp2_with (first
     | (go_at_call 79; (with_reducible refine (Qbq B b l _ p _ g cap _ hBb HW.out HS.out HO.out hp).mono ?_); rintro e w1 ⟨h1, hb⟩; rw [HF.out] at h1; subst h1; have hk4_ := (hb.cell (p := ⟨b, 4, none⟩) hbl).trans hk4; have hk6_ := (hb.cell (p := ⟨b, 6, none⟩) hbl).trans hk6; have HB := am hb; clear hb))
    go_quiet (fail)
    go_wp2_with (first | (go_at_call 64; (with_reducible refine (Qaw 28 _).mono ?_); rintro e w9 ⟨rfl, h9⟩; subst w9; exact ⟨rfl, rfl, (BW.mono HB.out hBw).drewN _⟩))
end
section
attribute [local go_sem ↓] Go.wp_at_zero Go.wp_at_succ
attribute [local go_sem] max2_int
set_option maxHeartbeats 8000000 in
theorem rcont_range (A : Option Addr) (c : Nat) (l : List S52) (k0 : Int) (p q : ByteArray) (a n : Int) (Ad : Option Addr) (cd : Nat) (d : List Int) (w : World) (hC : Kd.C k52 w A l.length l) (hc : l.length ≤ c) (hrt : Rt l) (hp : p.size < 1000000) (k : Nat) (hk : fileF l p = .inl k)
  (hbad : (k0 = 8 ∧ (a < 0 ∨ (0 ≤ a ∧ 46368 < a) ∨ (0 ≤ a ∧ a ≤ 46368 ∧ 46368 - a < (d.length : Int)))) ∨ (k0 = 9 ∧ (n < 0 ∨ (0 ≤ n ∧ 46368 < n)))) :
  Calls Tryz.prog 62 #[.agg #[.slice A l.length c], .agg #[.int .i64 k0, .string p, .string q, .int .i64 a, .int .i64 n, .slice Ad d.length cd]] w fun e w' => RQ w (l, { res0 with f0 := 28 }) e w' := by
 obtain ⟨hs, hd, hkl⟩ := Qgd hrt.pr.wf hk
 have HC := am hC
 have HT := am hrt
 have HM := am (show ∀ k, (nd l k).f3.length < 1000000000 from fun k => by have := hrt.pr.ents k; omega)
 have HF0 := am (Qco w (.slice A l.length c) (.int .i64 k0) (.string p) (.string q) (.int .i64 a) (.int .i64 n) (.slice Ad d.length cd))
 clear hC hrt hk
 have HS := am hs
 have hki : (k : Int) < (l.length : Int) := by omega
 have hkb : ((nd l k).f0 == 2) = false := beq_eq_false_iff_ne.2 hd
 obtain ⟨ad, A2, g2, A3, g3, e3, hy0, hy1, hy2, hy3, hl2, hC2, -, -⟩ := Qaz HC.out (k : Int) zq3 zq3
 cases e3
 rw [Int.toNat_natCast] at hy0 hy1 hy2 hy3
 rw [show rd_T52 l (k : Int) = nd l k from rfl] at hy0 hy1 hy2 hy3 hl2 hC2
 clear hs hd hC2 hl2
 rcases hbad with ⟨rfl, hb | ⟨hb, hb2⟩ | ⟨hb, hb2, hb3⟩⟩ | ⟨rfl, hb | ⟨hb, hb2⟩⟩
 all_goals
  go_enter Tryz.func62, Tryz.ntmps62
  go_wp2_with (go_at_call 35; (with_reducible refine (Qdd _ c l p _ (Kd.C_below HC.out HF0.out.bel) hc HT.out.pr.wf HM.out hp).mono ?_); rintro en w1 ⟨rfl, hb⟩; rw [HS.out]; dsimp only [pairR]; have HF1 := am (HF0.out.below hb); obtain ⟨⟨t0, t1, t2, t3, t4⟩, ⟨p0, p1, p2, p3, p4, p5⟩, ⟨r0, r1, r2, r3, r4, r5, r6⟩, f1, f2⟩ := HF1.out.all; have hz0 := (HF1.out.bel.cell (World.block_lt_of_cell? w _ hy0)).trans hy0; have hz1 := (HF1.out.bel.cell (World.block_lt_of_cell? w _ hy1)).trans hy1; have hz2 := (HF1.out.bel.cell (World.block_lt_of_cell? w _ hy2)).trans hy2; have hz3 := (HF1.out.bel.cell (World.block_lt_of_cell? w _ hy3)).trans hy3; clear hb)
  go_region_with (go_at_call 28; (with_reducible refine (Qcp 28 _).mono ?_); rintro en w2 ⟨rfl, hb⟩; have HF2 := am (HF1.out.below (Qa zq1 hb)); obtain ⟨⟨s0, s1, s2, s3, s4⟩, -, ⟨y0, y1, y2, y3, y4, y5, y6⟩, f3, f4⟩ := HF2.out.all; clear hb)
  all_goals (go_wp2; exact Qbe (l := l) (r := { res0 with f0 := 28 }) rfl HF2.out _ rfl rfl hc (Kd.C_below HC.out HF2.out.bel) (Nat.zero_le _) (Kd.C_nil _ _) (Nat.zero_le _) (Kd.C_nil _ _))
end
end Go.Proofs.YtbhjggbijkjmnaaGreatDoor.PZ
end
