import Derived.Test.YtbhjggbijkjmnaaGreatDoorM25
import Derived.Test.YtbhjggbijkjmnaaGreatDoorM21
import Derived.Test.YtbhjggbijkjmnaaGreatDoorM15
import Derived.Deep.RegionWith
set_option linter.unusedVariables false
set_option linter.unusedSimpArgs false
section
namespace Go.Proofs.YtbhjggbijkjmnaaGreatDoor.PZ
open Go.RowKit Go.Proofs.YtbhjggbijkjmnaaGreatDoorW.PrintWords Go.Proofs.YtbhjggbijkjmnaaGreatDoorW.PrintLast Go.Proofs.YtbhjggbijkjmnaaGreatDoorW.PrintMore Go.Proofs.YtbhjggbijkjmnaaGreatDoor.B Go.Proofs.YtbhjggbijkjmnaaGreatDoor.Ord TD
set_option maxRecDepth 100000
section
attribute [local go_sem ↓] Go.wp_at_zero Go.wp_at_succ
attribute [local go_sem] max2_int
theorem H_other {α : Type} {d : Kd α} {e : TypeId} {w : World} {base : Nat} {ok oki okb : Nat → Prop} {v : Value} {xs : List α} {i : Int} {c : List Value} (h : Kd.H d e w base ok v xs i oki c) (hd : ∀ k, ok k → ¬ okb k) : Kd.H d e w base (fun k => ok k ∨ okb k) v xs i (fun k => oki k ∨ okb k) c := by
 obtain ⟨ho, f, hf⟩ := h
 exact ⟨fun k hk => hk.imp (ho k) id, f, Kd.R_mono hf (fun k hk => ⟨.inl hk.1, fun h2 => h2.elim hk.2 (hd k hk.1)⟩)⟩
theorem S_data {W : World} {B g n cap : Nat} {ok okb : Nat → Prop} {l : List S52} (h : Kd.S k52 52 W B ok (.slice (some ⟨g, 0, none⟩) n cap) l) (i : Nat) (hi : i < l.length) {u : Value} {bs : List Int} (hr : Kd.R (Kd.int .u8) 5 W B okb u bs) (hd : ∀ k, ok k → ¬ okb k) :
  (∃ v2, W.cell? ⟨g, i * 4 + 2, none⟩ = some v2) ∧ W.frozen? ⟨g, i * 4 + 2, none⟩ = false ∧ Kd.S k52 52 (W.setCell ⟨g, i * 4 + 2, none⟩ u) B (fun k => ok k ∨ okb k) (.slice (some ⟨g, 0, none⟩) n cap) (setD l i bs) := by
 have hn := (Kd.S_reads' h).1
 have hg : ok g := (Kd.S_R h).1 g rfl
 obtain ⟨oki, c, hcl, hM, hcc, hfr, hoki, hH⟩ := Kd.S_elem h ⟨0, 0, [], []⟩ (i : Int) zq3 zq3
 rw [Qhd] at hM
 obtain ⟨v2, v3, rfl, hd2, hd3⟩ := Qfo hM
 rw [Int.toNat_natCast] at hcc hfr
 obtain ⟨h2, h3⟩ := Kd.H_seg (seg := [u]) (j := 2) (H_other hH hd) zq3 zq3 (by simp; decide) zq31
 rw [Int.toNat_natCast] at h2 h3
 have h4 := Kd.H_back (okp := fun k => oki k ∨ okb k) h2 (x' := ⟨(nd l i).f0, (nd l i).f1, bs, (nd l i).f3⟩)
  (Qdu _ _ _ ⟨(nd l i).f0, (nd l i).f1, bs, (nd l i).f3⟩ (Kd.R_mono (Kd.R_step hr (fun k hk hlt => h3.block k hlt (fun he => hd k (by injection he with he; rw [he]; exact hg) hk))) (fun k hk => .inr hk)) (Kd.R_mono (Kd.R_step hd3 (fun k hk hlt => h3.block k hlt (fun he => (hoki k hk).2 (by injection he)))) (fun k hk => .inl hk))) (fun k hk => hk)
 rw [Int.toNat_natCast] at h4
 exact ⟨⟨v2, hcc 2 _ rfl⟩, hfr 2, h4⟩
theorem R_byte {W : World} {B g n cap : Nat} {ok : Nat → Prop} {bs : List Int} (h : Kd.R (Kd.int .u8) 5 W B ok (.slice (some ⟨g, 0, none⟩) n cap) bs) (i : Nat) (hi : i < bs.length) :
  (∃ v, W.cell? ⟨g, i, none⟩ = some v) ∧ W.frozen? ⟨g, i, none⟩ = false ∧ ∀ v : Int, Kd.R (Kd.int .u8) 5 (W.setCell ⟨g, i, none⟩ (.int .u8 v)) B ok (.slice (some ⟨g, 0, none⟩) n cap) (bs.set i v) := by
 have hn := (Kd.R_reads' h).1
 obtain ⟨c, hc, hM, hcc, hf⟩ := Kd.R_elem h 0 (i : Int) zq3 zq3
 have hc1 : c = [.int .u8 (bs.getD (i : Int).toNat 0)] := hM
 subst hc1
 rw [Int.toNat_natCast] at hcc hf
 have h0 := hcc 0 _ rfl
 have hf0 := hf 0
 rw [Nat.add_zero, show i * (Kd.int .u8).sz = i from Nat.mul_one i] at h0 hf0
 refine ⟨⟨_, h0⟩, hf0, fun v => ?_⟩
 obtain ⟨h2, -⟩ := Kd.R_seg h (i : Int) zq3 zq3 (c := [.int .u8 (bs.getD i 0)]) (seg := [.int .u8 v]) (j := 0) (x' := v) (okp := fun _ => False) rfl (by rw [Int.toNat_natCast]; exact hcc) (Nat.le_refl 1) rfl (fun _ h => h.elim)
 rw [Int.toNat_natCast, Nat.add_zero, show i * (Kd.int .u8).sz = i from Nat.mul_one i] at h2
 exact h2
theorem over_set {b x : List Int} {a j : Nat} (h : j < x.length) (hb : a + x.length ≤ b.length) : (overF b a (x.take j)).set (a + j) x[j] = overF b a (x.take (j + 1)) := by
 unfold overF
 rw [List.length_take, List.length_take, Nat.min_eq_left zq3, Nat.min_eq_left zq3, List.take_succ_eq_append_getElem h, List.drop_eq_getElem_cons (i := a + j) zq3]
 have hl : (b.take a ++ x.take j).length = a + j := by rw [List.length_append, List.length_take, List.length_take]; omega
 rw [List.set_append, if_neg zq3, hl, Nat.sub_self, List.set_cons_zero]
 simp only [List.append_assoc, List.cons_append, List.nil_append, Nat.add_assoc]
theorem over_zero (b : List Int) (a : Nat) (x : List Int) : overF b a (x.take 0) = b := by
 unfold overF
 rw [List.take_zero, List.append_nil, List.length_nil, Nat.add_zero, List.take_append_drop]
section
variable {w W W' : World} {vt o0 o1 o2 o3 o4 o5 : Value} {l : List S52} {r : S37} {A1 A2 A3 : Option Addr} {c1 c2 c3 : Nat}
theorem rf_end3 {fn : Func} (hres : fn.results = #[.cell 4 26, .cell 5 37]) (h : RF w vt o0 o1 o2 o3 o4 o5 W) (tmps : Array Value) (h4 : tmps.getD 4 undef = .pointer (some ⟨w.heap.size + 1 + 1, 0, none⟩)) (h5 : tmps.getD 5 undef = .pointer (some ⟨w.heap.size + 1 + 1 + 1, 0, none⟩))
  (hc1 : l.length ≤ c1) (hC1 : Kd.C k52 W A1 l.length l) (hc2 : r.f1.length ≤ c2) (hC2 : Kd.C (Kd.int .u8) W A2 r.f1.length r.f1) (hc3 : r.f2.length ≤ c3) (hC3 : Kd.C Kd.string W A3 r.f2.length r.f2) {W3 : World} (hW3 : Below (laid2 W (w.heap.size + 1 + 1) (w.heap.size + 1 + 1 + 1) (.slice A1 l.length c1) (.int .i64 r.f0) (.slice A2 r.f1.length c2) (.slice A3 r.f2.length c3) (.int .i64 r.f3) (.int .i64 r.f4) (.int .i64 r.f5)).heap.size (laid2 W (w.heap.size + 1 + 1) (w.heap.size + 1 + 1 + 1) (.slice A1 l.length c1) (.int .i64 r.f0) (.slice A2 r.f1.length c2) (.slice A3 r.f2.length c3) (.int .i64 r.f3) (.int .i64 r.f4) (.int .i64 r.f5)) W3) :
  bodyPost Tryz.prog fn (fun e w' => RQ w (l, r) e w') .ret { tmps := tmps, defers := [] } W3 := by
 have hne : w.heap.size + 1 + 1 ≠ w.heap.size + 1 + 1 + 1 := by omega
 have hT : (W.setCell ⟨w.heap.size + 1 + 1, 0, none⟩ (.slice A1 l.length c1)).heap[w.heap.size + 1 + 1]? = some (.cells #[.slice A1 l.length c1] 26 (0, 0)) := Qap (cs := #[.slice none 0 0]) h.rt 0 _ rfl
 have hR : (W.setCell ⟨w.heap.size + 1 + 1, 0, none⟩ (.slice A1 l.length c1)).heap[w.heap.size + 1 + 1 + 1]? = some (.cells #[.int .i64 0, .slice none 0 0, .slice none 0 0, .int .i64 0, .int .i64 0, .int .i64 0] 37 (0, 0)) := Qam (p := ⟨w.heap.size + 1 + 1, 0, none⟩) h.rr (Ne.symm hne) _
 have hT2 : (laid2 W (w.heap.size + 1 + 1) (w.heap.size + 1 + 1 + 1) (.slice A1 l.length c1) (.int .i64 r.f0) (.slice A2 r.f1.length c2) (.slice A3 r.f2.length c3) (.int .i64 r.f3) (.int .i64 r.f4) (.int .i64 r.f5)).heap[w.heap.size + 1 + 1]? = some (.cells #[.slice A1 l.length c1] 26 (0, 0)) := (Qeb hne).trans hT
 have hk1 : ∀ k, k ≠ w.heap.size + 1 + 1 → (W.setCell ⟨w.heap.size + 1 + 1, 0, none⟩ (.slice A1 l.length c1)).heap[k]? = W.heap[k]? := fun k hk => Below.heap_setCell W ⟨w.heap.size + 1 + 1, 0, none⟩ _ k hk
 have hR2 : (laid2 W (w.heap.size + 1 + 1) (w.heap.size + 1 + 1 + 1) (.slice A1 l.length c1) (.int .i64 r.f0) (.slice A2 r.f1.length c2) (.slice A3 r.f2.length c3) (.int .i64 r.f3) (.int .i64 r.f4) (.int .i64 r.f5)).heap[w.heap.size + 1 + 1 + 1]? = some (.cells #[.int .i64 r.f0, .slice A2 r.f1.length c2, .slice A3 r.f2.length c3, .int .i64 r.f3, .int .i64 r.f4, .int .i64 r.f5] 37 (0, 0)) := set6_blk hR
 have hk2 : ∀ k, k ≠ w.heap.size + 1 + 1 + 1 → (laid2 W (w.heap.size + 1 + 1) (w.heap.size + 1 + 1 + 1) (.slice A1 l.length c1) (.int .i64 r.f0) (.slice A2 r.f1.length c2) (.slice A3 r.f2.length c3) (.int .i64 r.f3) (.int .i64 r.f4) (.int .i64 r.f5)).heap[k]? = (W.setCell ⟨w.heap.size + 1 + 1, 0, none⟩ (.slice A1 l.length c1)).heap[k]? := fun k hk => Qeb hk
 have hb : Below w.heap.size w (laid2 W (w.heap.size + 1 + 1) (w.heap.size + 1 + 1 + 1) (.slice A1 l.length c1) (.int .i64 r.f0) (.slice A2 r.f1.length c2) (.slice A3 r.f2.length c3) (.int .i64 r.f3) (.int .i64 r.f4) (.int .i64 r.f5)) := Qeq (h.bel.setCell (p := ⟨w.heap.size + 1 + 1, 0, none⟩) (Nat.le_trans (Nat.le_succ _) (Nat.le_succ _)) _) zq3
 generalize laid2 W (w.heap.size + 1 + 1) (w.heap.size + 1 + 1 + 1) (.slice A1 l.length c1) (.int .i64 r.f0) (.slice A2 r.f1.length c2) (.slice A3 r.f2.length c3) (.int .i64 r.f3) (.int .i64 r.f4) (.int .i64 r.f5) = W2 at hT2 hR2 hk2 hb hW3 ⊢
 generalize W.setCell ⟨w.heap.size + 1 + 1, 0, none⟩ (.slice A1 l.length c1) = W1 at hT hR hk1 hk2
 exact bodyPost_ret (Qen hres _ _ (w.heap.size + 1 + 1) (w.heap.size + 1 + 1 + 1) 26 37 _ _ (0, 0) (0, 0) _ _ h4 (Qaf hT2 hW3) Tryz.underlying26 rfl zq15 h5 (Qaf hR2 hW3) Tryz.underlying37 rfl zq15) rfl
  ⟨A1, c1, A2, c2, A3, c3, rfl, hc1, Kd.C_below (C_resR hR hk2 (C_box h.rt hk1 hC1)) hW3, hc2, Kd.C_below (C_u8R hR hk2 (Qgx h.rt hk1 hC2)) hW3, hc3, Kd.C_below (C_strR hR hk2 (Qfy h.rt hk1 hC3)) hW3, Qa hb hW3⟩
end
theorem RF.set_ty {w W : World} {vt o0 o1 o2 o3 o4 o5 : Value} {g : Nat} {cs : Array Value} {e : TypeId} (h : RF w vt o0 o1 o2 o3 o4 o5 W) (hg : W.heap[g]? = some (.cells cs e (0, 0))) (h1 : 26 ≠ e) (h2 : 31 ≠ e) (h3 : 37 ≠ e) (hB : w.heap.size ≤ g) (j : Nat) (u : Value) : RF w vt o0 o1 o2 o3 o4 o5 (W.setCell ⟨g, j, none⟩ u) :=
 ⟨Qam (p := ⟨g, j, none⟩) h.t (Qce h.t hg h1) u, Qam (p := ⟨g, j, none⟩) h.o (Qce h.o hg h2) u, Qam (p := ⟨g, j, none⟩) h.rt (Qce h.rt hg h1) u, Qam (p := ⟨g, j, none⟩) h.rr (Qce h.rr hg h3) u, h.bel.setCell (p := ⟨g, j, none⟩) hB u⟩
set_option maxHeartbeats 3000000 in
theorem rcont_set (A : Option Addr) (c : Nat) (l : List S52) (k0 : Int) (p q : ByteArray) (a n : Int) (Ad : Option Addr) (cd : Nat) (d : List Int) (w : World) (hC : Kd.C k52 w A l.length l) (hc : l.length ≤ c) (hrt : Rt l) (hp : p.size < 1000000) (hdC : Kd.C (Kd.int .u8) w Ad d.length d) (hcd : d.length ≤ cd) (k : Nat) (hk : fileF l p = .inl k) (s : Nat) (hs46 : s ≤ 46368)
  (hgood : (k0 = 9 ∧ n = (s : Int)) ∨ (k0 = 8 ∧ 0 ≤ a ∧ a ≤ 46368 ∧ (d.length : Int) ≤ 46368 - a ∧ ((d.length = 0 ∧ s = (nd l k).f2.length) ∨ (0 < d.length ∧ (s : Int) = max ((nd l k).f2.length : Int) (a + (d.length : Int)))))) :
  Calls Tryz.prog 62 #[.agg #[.slice A l.length c], .agg #[.int .i64 k0, .string p, .string q, .int .i64 a, .int .i64 n, .slice Ad d.length cd]] w fun e w' => RQ w (if k0 = 9 then (setD l k (Qcq (nd l k).f2 s), res0) else (setD l k (overF (Qcq (nd l k).f2 s) a.toNat d), { res0 with f5 := (d.length : Int) })) e w' := by
 obtain ⟨hs, hd, hkl⟩ := Qgd hrt.pr.wf hk
 have HC := am hC
 have HT := am hrt
 have HM := am (show ∀ k, (nd l k).f3.length < 1000000000 from fun k => by have := hrt.pr.ents k; omega)
 have HM2 := am (show ∀ k, (nd l k).f2.length < 1000000000 ∧ (nd l k).f3.length < 1000000000 from fun k => ⟨by have := hrt.pr.size k; omega, HM.out k⟩)
 have hl56 : l.length ≤ 56 := hrt.pr.le
 have HF0 := am (Qco w (.slice A l.length c) (.int .i64 k0) (.string p) (.string q) (.int .i64 a) (.int .i64 n) (.slice Ad d.length cd))
 have HDC := am hdC
 have HCD := am hcd
 clear hC hrt hk hdC hcd
 have HS := am hs
 have hki : (k : Int) < (l.length : Int) := by omega
 have hkb : ((nd l k).f0 == 2) = false := beq_eq_false_iff_ne.2 hd
 obtain ⟨ad, A2, g2, A3, g3, e3, hy0, hy1, hy2, hy3, hl2, hC2, -, -⟩ := Qaz HC.out (k : Int) zq3 zq3
 cases e3
 rw [Int.toNat_natCast] at hy0 hy1 hy2 hy3
 rw [show rd_T52 l (k : Int) = nd l k from rfl] at hy0 hy1 hy2 hy3 hl2 hC2
 have hs2 := HT.out.pr.size k
 have HC2 := am hC2
 have HL2 := am hl2
 have hsz : (0 : Int) ≤ (s : Int) := by omega
 have hzl : (s : Int).toNat * 1 ≤ 281474976710656 := by omega
 have hsi : ¬ (46368 < (s : Int)) := by omega
 clear hs hd hC2 hl2
 obtain ⟨R, hR⟩ : ∃ R : List S52 × S37, (if k0 = 9 then (setD l k (Qcq (nd l k).f2 s), res0) else (setD l k (overF (Qcq (nd l k).f2 s) a.toNat d), { res0 with f5 := (d.length : Int) })) = R := ⟨_, rfl⟩
 rw [hR]
 have HR0 := am hR
 clear hR
 rcases hgood with ⟨rfl, rfl⟩ | ⟨rfl, ha0, ha1, ha2, ⟨hd0, rfl⟩ | ⟨hd0, hsl⟩⟩
 case' inr.inl =>
  have hd1 : ¬ 0 < d.length := by omega
  have hd2 : ¬ (0 : Int) < (d.length : Int) := by omega
  have HD0 := am hd0
  clear hd0
 case' inr.inr =>
  have hd2 : (0 : Int) < (d.length : Int) := by omega
  have hmx := hsl.symm
  clear hsl
 all_goals
  go_enter Tryz.func62, Tryz.ntmps62
  go_upto_region 28 with (first
   | (go_at_call 35; (with_reducible refine (Qdd _ c l p _ (Kd.C_below HC.out HF0.out.bel) hc HT.out.pr.wf HM.out hp).mono ?_); rintro en w1 ⟨rfl, hb⟩; rw [HS.out]; dsimp only [pairR]; have HF1 := am (HF0.out.below hb); obtain ⟨⟨t0, t1, t2, t3, t4⟩, ⟨p0, p1, p2, p3, p4, p5⟩, ⟨r0, r1, r2, r3, r4, r5, r6⟩, f1, f2⟩ := HF1.out.all; have hz0 := (HF1.out.bel.cell (World.block_lt_of_cell? w _ hy0)).trans hy0; have hz1 := (HF1.out.bel.cell (World.block_lt_of_cell? w _ hy1)).trans hy1; have hz2 := (HF1.out.bel.cell (World.block_lt_of_cell? w _ hy2)).trans hy2; have hz3 := (HF1.out.bel.cell (World.block_lt_of_cell? w _ hy3)).trans hy3; clear hb)
   | ((with_reducible refine Qbx (N := 126) rfl ?_); (refine Kd.R_make (Kd.int .u8) (w0 := w) w.heap.size 5 rfl (N := 126) rfl 29 _ _ rfl (_ : Int) rfl rfl Tryz.underlying29 (.int .u8 0) 1 info5 rfl zq9 zq3 (0 : Int) (ok := fun _ => True) (okp := fun _ => True) rfl (fun _ hk => hk) trivial hsz hzl (Qaa HF1.out.bel _) (by rw [World.size_alloc]; have := HF1.out.bel.size; omega) ?_); intro v2 w2 ho hb hg hnew; rw [Int.toNat_natCast] at ho; have HO2 := am ho; have HNB2 := am (Qaf (Qal w1 (.cells #[.int .i64 (nd l k).f0, .int .i64 (nd l k).f1, .slice A2 (nd l k).f2.length g2, .slice A3 (nd l k).f3.length g3] 52)) (Qfc hg)); have HF2 := am ((HF1.out.below (Qaa (Below.refl _ _) (.cells #[.int .i64 (nd l k).f0, .int .i64 (nd l k).f1, .slice A2 (nd l k).f2.length g2, .slice A3 (nd l k).f3.length g3] 52))).below (Qfc hg)); clear ho hb hg hnew t0 t1 t2 t3 t4 p0 p1 p2 p3 p4 p5 r0 r1 r2 r3 r4 r5 r6 f1 f2 hz0 hz1 hz2 hz3; obtain ⟨⟨t0, t1, t2, t3, t4⟩, ⟨p0, p1, p2, p3, p4, p5⟩, -, -, -⟩ := HF2.out.all; have hn2 := (Qab HNB2.out 2).trans (show _ = some (Value.slice A2 (nd l k).f2.length g2) from rfl); have hnl := Qai HNB2.out)
   | ((with_reducible refine Qas (b := .copy) (xs := #[.tmp 127, .tmp 129]) rfl ?_); (refine Kd.R_copy (0 : Int) (enc := fun x => .int .u8 x) (w0 := w) w.heap.size rfl _ _ 29 29 5 rfl Tryz.underlying29 info5s v2 _ (nd l k).f2 A2 (nd l k).f2.length g2 (fun _ => True) rfl rfl HO2.out (Kd.C_below HC2.out HF2.out.bel) HF2.out.bel HF2.out.bel.size ?_); intro w3 hr hb hg; rw [sized_take] at hr; have hty := Kd.R_typed HO2.out; have HO3 := am hr; have HF3 := am (HF2.out.grown_ty zq9 zq9 zq9 hty hg hb); clear hr hb hg hty t0 t1 t2 t3 t4 p0 p1 p2 p3 p4 p5 hn2 hnl; obtain ⟨⟨t0, t1, t2, t3, t4⟩, -, -, -, -⟩ := HF3.out.all)
   | (go_at_call 10; (with_reducible refine (Qdi _ c l _ (Kd.C_below HC.out HF3.out.bel) hc zq3 HM2.out).mono ?_); rintro e w4 ⟨u, rfl, hs, hb⟩; obtain ⟨g4, c4, hu, hBg, hgl, -⟩ := Kd.S_form hs zq3; subst hu; have HS4 := am hs; have HF4 := am (HF3.out.below hb); have HO4 := am (Kd.R_below (Kd.R_mono (Kd.R_bound HO3.out) (fun k hk => show k < w3.heap.size from hk.2.2.1)) hb); clear hs hb t0 t1 t2 t3 t4 hgl))
 have HSM := am (show ∀ j, j < d.length → a + (j : Int) < (s : Int) from fun j hj => by omega)
 clear hmx
 rotate_left
 obtain ⟨s, hs⟩ : ∃ s, (nd l k).f2.length = s := ⟨_, rfl⟩
 rw [hs] at HR0 HO4 hs46
 have HSM := am (show ∀ j, j < d.length → a + (j : Int) < (s : Int) from fun j hj => by have := HD0.out; omega)
 clear hs hd1 hd2
 rotate_left
 all_goals
  have HW5 := am (Qal w4 (.cells #[.slice (some ⟨g4, 0, none⟩) l.length c4] 26))
  have HF5 := am (HF4.out.below (Qaa (Below.refl _ _) (.cells #[.slice (some ⟨g4, 0, none⟩) l.length c4] 26)))
  have HO5 := am (Kd.R_alloc HO4.out (.cells #[.slice (some ⟨g4, 0, none⟩) l.length c4] 26))
  have HM3 := am HF3.out.lt.2.2.2
  have HS5 := am (Kd.S_lower (Kd.S_alloc (Kd.S_mono (Kd.S_bound HS4.out) (fun k hk => show w3.heap.size ≤ k from hk.2.1)) (.cells #[.slice (some ⟨g4, 0, none⟩) l.length c4] 26)) HF3.out.bel.size)
  clear HF4 HF3 HS4 HO4 HO3 HF2 HNB2 HO2 HF1
  generalize w4.alloc (.cells #[.slice (some ⟨g4, 0, none⟩) l.length c4] 26) = w5 at *
  generalize w4.heap.size = gout at *
  generalize w3.heap.size = m3 at *
  have HGT := am ((Kd.S_typed HS5.out g4 rfl).choose_spec)
  have HGN := am (Qce HW5.out HGT.out zq9)
  obtain ⟨⟨t0, t1, t2, t3, t4⟩, ⟨p0, p1, p2, p3, p4, p5⟩, -, -, -⟩ := HF5.out.all
  have hg4 : m3 ≤ g4 := (Kd.S_R HS5.out).1 g4 rfl
 ·
  obtain ⟨A6, n6, c6, rfl⟩ := R_any HO5.out
  obtain ⟨⟨v9, hv9⟩, hvf, hS6⟩ := S_data HS5.out k hkl HO5.out (fun k h1 h2 => by omega)
  have hv9l := World.block_lt_of_cell? _ _ hv9
  have hb0 := (Qab HW5.out 0).trans (show _ = some (Value.slice (some ⟨g4, 0, none⟩) l.length c4) from rfl)
  have hbl := Qai HW5.out
  have HS6 := am hS6
  have HW6 := am (Qam (p := ⟨g4, k * 4 + 2, none⟩) HW5.out HGN.out (.slice A6 n6 c6))
  have HF6 := am (HF5.out.far (g := g4) (by have := HM3.out; omega) (k * 4 + 2) (.slice A6 n6 c6))
  have HRR := am (show R = (setD l k (Qcq (nd l k).f2 s), res0) from HR0.out.symm)
  clear hS6
  go_upto_region 36 with (fail)
  clear hv9 hvf hv9l hb0 hbl t0 t1 t2 t3 t4 p0 p1 p2 p3 p4 p5
  generalize w5.setCell ⟨g4, k * 4 + 2, none⟩ (.slice A6 n6 c6) = w6 at *
  have hb0 := (Qab HW6.out 0).trans (show _ = some (Value.slice (some ⟨g4, 0, none⟩) l.length c4) from rfl)
  have hbl := Qai HW6.out
  obtain ⟨⟨t0, t1, t2, t3, t4⟩, -, ⟨r0, r1, r2, r3, r4, r5, r6⟩, f1, f2⟩ := HF6.out.all
  generalize setD l k (Qcq (nd l k).f2 s) = X at *
  obtain ⟨A7, c7, e7, hc7, hC7⟩ := Kd.S_reads HS6.out
  injection e7 with e8 e9 e10
  subst e8 e10
  have HC7 := am hC7
  clear hC7
  rw [e9] at hb0 ⊢
  clear e9
  go_wp2
  rw [HRR.out]
  refine Qbe (fn := Tryz.f62) (w := w) (W := w6) (l := X) (r := res0) (A1 := some ⟨g4, 0, none⟩) (A2 := none) (A3 := none) (c1 := c4) (c2 := 0) (c3 := 0) zq25 HF6.out _ ?h4 ?h5 hc7 HC7.out (Nat.zero_le _) (Kd.C_nil _ _) (Nat.zero_le _) (Kd.C_nil _ _)
  case h4 => rfl
  case h5 => rfl
 all_goals
  obtain ⟨m, rfl⟩ : ∃ m : Nat, a = m := ⟨a.toNat, by omega⟩
  have HRR := am (show R = (setD l k (overF (Qcq (nd l k).f2 s) m d), { res0 with f5 := (d.length : Int) }) from HR0.out.symm)
  obtain ⟨A6, c6, e6⟩ := Kd.R_slice HO5.out
  rw [Qcf] at e6
  subst e6
  clear HR0
  generalize hB0 : Qcq (nd l k).f2 s = B0 at *
  have HBL := am (show B0.length = s by rw [← hB0, Qcf])
  clear hB0
  go_wp2
  clear t0 t1 t2 t3 t4 p0 p1 p2 p3 p4 p5
  go_loopw [14] (fun v14 wr => ∃ j : Nat, v14 = .int .i64 j ∧ j ≤ d.length ∧ Aside0 (RF w (.slice (some ad) l.length c) (.int .i64 8) (.string p) (.string q) (.int .i64 m) (.int .i64 n) (.slice Ad d.length cd) wr) ∧ Aside0 (wr.heap[gout]? = some (.cells #[.slice (some ⟨g4, 0, none⟩) l.length c4] 26 (0, 0))) ∧ Aside0 (Kd.S k52 52 wr w.heap.size (fun k => m3 ≤ k) (.slice (some ⟨g4, 0, none⟩) l.length c4) l) ∧ Aside0 (Kd.R (Kd.int .u8) 5 wr w.heap.size (fun k => k < m3) (.slice A6 s c6) (overF B0 m (d.take j)))) (fun v14 _ => d.length - (intOf v14).toNat)
  case atStart => exact ⟨0, rfl, Nat.zero_le _, HF5, HW5, HS5, ⟨by rw [over_zero]; exact HO5.out⟩⟩
  case round =>
   obtain ⟨j, rfl, hj, HF, HW, HS, HO⟩ := hrel
   obtain ⟨⟨t0, t1, t2, t3, t4⟩, ⟨p0, p1, p2, p3, p4, p5⟩, -, -, -⟩ := HF.out.all
   by_cases hlt : j < d.length
   ·
    have hjj : (j : Int) < (d.length : Int) := by omega
    have hsm := HSM.out j hlt
    have hmj : ((m : Int) + (j : Int)).toNat = m + j := by omega
    have hmj0 : 0 ≤ (m : Int) + (j : Int) := by omega
    have hmj1 : m + j < s := by omega
    have hmj2 : IntKind.i64.wrap ((m : Int) + (j : Int)) = (m : Int) + (j : Int) := by rw [IntKind.wrap_i64]; omega
    have hol : (overF B0 m (d.take j)).length = s := by rw [overF_len _ _ _ (by rw [HBL.out, List.length_take]; omega), HBL.out]
    obtain ⟨gb, cb, eb, hgb, hgbl, csB, hcsB⟩ := Kd.R_form HO.out zq3
    injection eb with e1 e2 e3
    subst e1
    obtain ⟨⟨v9, hv9⟩, hvf, hnx⟩ := R_byte HO.out (m + j) zq3
    have hv9l := World.block_lt_of_cell? _ _ hv9
    obtain ⟨ad4, e4, hx0⟩ := Kd.at_int (Kd.C_below HDC.out HF.out.bel) (j : Int) zq3 zq3
    cases e4
    rw [Int.toNat_natCast] at hx0
    rw [show rd d (j : Int) = d[j] by simp [rd, List.getD_eq_getElem?_getD, List.getElem?_eq_getElem hlt]] at hx0
    have hx0l := World.block_lt_of_cell? _ _ hx0
    have hnx2 := hnx d[j]
    rw [over_set hlt (by rw [HBL.out]; have := HSM.out (d.length - 1) zq3; omega)] at hnx2
    have HNX := am hnx2
    have HCB := am hcsB
    have hgb3 : gb < m3 := HO.out.1 gb rfl
    clear e2 e3 hnx hnx2 hol hcsB
    generalize d[j] = x at hx0 HNX
    go_wp2
    apply ways
    case h =>
     intro HWY
     go_region_with (fail)
     all_goals exact HWY.out
    go_wp2
    go_roundw
    case rel => exact ⟨j + 1, rfl, by omega, ⟨(HF.out.set_ty HCB.out zq9 zq9 zq9 hgb (m + j) _).below (Qad (Below.refl _ _))⟩, ⟨Qat (Qam (p := ⟨gb, m + j, none⟩) HW.out (Qce HW.out HCB.out zq9) _)⟩, ⟨Kd.S_drew (Kd.S_far (p := ⟨gb, m + j, none⟩) HS.out (fun k (hk : m3 ≤ k) => by show k ≠ gb; omega) _)⟩, ⟨Kd.R_drew HNX.out⟩⟩
    case measure => simp [intOf]; omega
   ·
    have hje : j = d.length := by omega
    subst hje
    have hge : ¬ ((d.length : Int) < (d.length : Int)) := Int.lt_irrefl _
    have ho := HO.out
    rw [List.take_length] at ho
    have HO6 := am ho
    obtain ⟨⟨v9, hv9⟩, hvf, hS6⟩ := S_data HS.out k hkl HO6.out (fun k h1 h2 => by omega)
    have hv9l := World.block_lt_of_cell? _ _ hv9
    have hb0 := (Qab HW.out 0).trans (show _ = some (Value.slice (some ⟨g4, 0, none⟩) l.length c4) from rfl)
    have hbl := Qai HW.out
    have HGT2 := am ((Kd.S_typed HS.out g4 rfl).choose_spec)
    have HS6 := am hS6
    have HW6 := am (Qam (p := ⟨g4, k * 4 + 2, none⟩) HW.out (Qce HW.out HGT2.out zq9) (.slice A6 s c6))
    have HF6 := am (HF.out.far (g := g4) (by have := HM3.out; omega) (k * 4 + 2) (.slice A6 s c6))
    clear hS6 ho hlt
    go_upto_region 34 with (fail)
    clear hv9 hvf hv9l hb0 hbl t0 t1 t2 t3 t4 p0 p1 p2 p3 p4 p5
    generalize wr.setCell ⟨g4, k * 4 + 2, none⟩ (.slice A6 s c6) = w6 at *
    have hb0 := (Qab HW6.out 0).trans (show _ = some (Value.slice (some ⟨g4, 0, none⟩) l.length c4) from rfl)
    have hbl := Qai HW6.out
    obtain ⟨⟨t0, t1, t2, t3, t4⟩, ⟨p0, p1, p2, p3, p4, p5⟩, ⟨r0, r1, r2, r3, r4, r5, r6⟩, f1, f2⟩ := HF6.out.all
    have hXl : (setD l k (overF B0 m d)).length = l.length := setD_len
    generalize setD l k (overF B0 m d) = X at *
    obtain ⟨A7, c7, e7, hc7, hC7⟩ := Kd.S_reads HS6.out
    injection e7 with e8 e9 e10
    subst e8 e10
    have HC7 := am hC7
    clear hC7 hXl
    rw [e9] at hb0 ⊢
    clear e9
    apply ways
    case h =>
     intro HWY
     go_region_with (fail)
     all_goals exact HWY.out
    go_wp2
    rw [HRR.out]
    refine rf_end3 (fn := Tryz.f62) (w := w) (W := w6) (l := X) (r := { res0 with f5 := (d.length : Int) }) (A1 := some ⟨g4, 0, none⟩) (A2 := none) (A3 := none) (c1 := c4) (c2 := 0) (c3 := 0) zq25 HF6.out _ ?h4 ?h5 hc7 HC7.out (Nat.zero_le _) (Kd.C_nil _ _) (Nat.zero_le _) (Kd.C_nil _ _) (Qad (Below.refl _ _))
    case h4 => rfl
    case h5 => rfl
end
section
attribute [local go_sem ↓] Go.wp_at_zero Go.wp_at_succ
set_option maxHeartbeats 6000000 in
theorem rcreate (A : Option Addr) (c : Nat) (l : List S52) (k0 : Int) (p q : ByteArray) (a n : Int) (Ad : Option Addr) (cd : Nat) (d : List Int) (w : World) (hC : Kd.C k52 w A l.length l) (hc : l.length ≤ c) (hrt : Rt l) (hp : p.size < 1000000) (hq : q.size < 1000000) (hk : k0 = 1 ∨ k0 = 2) :
  Calls Tryz.prog 58 #[.agg #[.slice A l.length c], .agg #[.int .i64 k0, .string p, .string q, .int .i64 a, .int .i64 n, .slice Ad d.length cd]] w fun e w' => RQ w (Qbh l (plain (Qdc l p k0))) e w' := by
 have HC := am hC
 have HT := am hrt
 have HM := am (show ∀ k, (nd l k).f3.length < 1000000000 from fun k => by have := hrt.pr.ents k; omega)
 have hl56 : l.length ≤ 56 := hrt.pr.le
 have HF0 := am (Qco w (.slice A l.length c) (.int .i64 k0) (.string p) (.string q) (.int .i64 a) (.int .i64 n) (.slice Ad d.length cd))
 clear hC hrt
 unfold Qdc
 by_cases hr : p = rootP
 ·
  rw [if_pos hr]
  have hpr : (p.toList == [47]) = true := by rw [hr]; exact root_eq
  clear hr
  dsimp only [plain, Qbh]
  go_enter Tryz.func58, Tryz.ntmps58
  go_wp2
  go_region_with (go_at_call 28; (with_reducible refine (Qcp 24 _).mono ?_); rintro en w1 ⟨rfl, hb⟩; have HF1 := am (HF0.out.below (Qa zq1 hb)); have k1 := HF1.out.tc; obtain ⟨m0, m1, m2, m3⟩ := HF1.out.lt; obtain ⟨c0, c1, c2, c3, c4, c5, c6⟩ := HF1.out.rc; obtain ⟨f1, f2⟩ := HF1.out.fr; clear hb)
  all_goals (go_wp2; exact Qbe (l := l) (r := { res0 with f0 := 24 }) rfl HF1.out _ rfl rfl hc (Kd.C_below HC.out HF1.out.bel) (Nat.zero_le _) (Kd.C_nil _ _) (Nat.zero_le _) (Kd.C_nil _ _))
 rw [if_neg hr]
 have hpr : (p.toList == [47]) = false := beq_eq_false_iff_ne.2 fun h => hr (Qax (h.trans (beq_iff_eq.1 root_eq).symm))
 have HNE := am (show (Qah p).2 = 0 → (Qah p).1 ≠ [] from fun h0 h2 => hr (Qcn h0 h2))
 cases hs : spotF l p with
 | inr e =>
  have HS := am hs
  have he : (e != 0) = true := bne_iff_ne.mpr (Qdy hs)
  clear hs hr
  dsimp only [plain, Qbh]
  go_enter Tryz.func58, Tryz.ntmps58
  go_wp2_with (go_at_call 81; (with_reducible refine (rto _ c l p _ (Kd.C_below HC.out HF0.out.bel) hc HT.out.pr.wf HM.out hp HNE.out).mono ?_); rintro e w1 ⟨rfl, hb⟩; rw [HS.out]; dsimp only [spotR, nodeV]; have HF1 := am (HF0.out.below hb); obtain ⟨ho0, ho1, ho2, ho3, ho4, ho5⟩ := HF1.out.oc; have htc := HF1.out.tc; obtain ⟨hl0, hl1, hl2, hl3⟩ := HF1.out.lt; clear hb)
  go_region_with (go_at_call 28; (with_reducible refine (Qcp e _).mono ?_); rintro en w2 ⟨rfl, hb⟩; have HF2 := am (HF1.out.below (Qa zq1 hb)); have k1 := HF2.out.tc; obtain ⟨m0, m1, m2, m3⟩ := HF2.out.lt; obtain ⟨c0, c1, c2, c3, c4, c5, c6⟩ := HF2.out.rc; obtain ⟨f1, f2⟩ := HF2.out.fr; clear hb)
  all_goals (go_wp2; exact Qbe (l := l) (r := { res0 with f0 := e }) rfl HF2.out _ rfl rfl hc (Kd.C_below HC.out HF2.out.bel) (Nat.zero_le _) (Kd.C_nil _ _) (Nat.zero_le _) (Kd.C_nil _ _))
 | inl s =>
  obtain ⟨d0, nm, o⟩ := s
  have HS := am hs
  have hdl : d0 < l.length := (Qbb hs).choose_spec.2.2.2.2.1
  clear hs hr
  cases o with
  | some j =>
   have hj : decide ((j : Int) ≥ 0) = true := decide_eq_true zq3
   dsimp only [plain, Qbh]
   go_enter Tryz.func58, Tryz.ntmps58
   go_wp2_with (go_at_call 81; (with_reducible refine (rto _ c l p _ (Kd.C_below HC.out HF0.out.bel) hc HT.out.pr.wf HM.out hp HNE.out).mono ?_); rintro e w1 ⟨rfl, hb⟩; rw [HS.out]; dsimp only [spotR, nodeV]; have HF1 := am (HF0.out.below hb); obtain ⟨ho0, ho1, ho2, ho3, ho4, ho5⟩ := HF1.out.oc; have htc := HF1.out.tc; obtain ⟨hl0, hl1, hl2, hl3⟩ := HF1.out.lt; clear hb)
   go_region_with (go_at_call 28; (with_reducible refine (Qcp 24 _).mono ?_); rintro en w2 ⟨rfl, hb⟩; have HF2 := am (HF1.out.below (Qa zq1 hb)); have k1 := HF2.out.tc; obtain ⟨m0, m1, m2, m3⟩ := HF2.out.lt; obtain ⟨c0, c1, c2, c3, c4, c5, c6⟩ := HF2.out.rc; obtain ⟨f1, f2⟩ := HF2.out.fr; clear hb)
   all_goals (go_wp2; exact Qbe (l := l) (r := { res0 with f0 := 24 }) rfl HF2.out _ rfl rfl hc (Kd.C_below HC.out HF2.out.bel) (Nat.zero_le _) (Kd.C_nil _ _) (Nat.zero_le _) (Kd.C_nil _ _))
  | none =>
   obtain ⟨ad, A2, g2, A3, g3, e3, -, -, -, hy3, -, -, hl3, hC3⟩ := Qaz HC.out (d0 : Int) zq3 zq3
   cases e3
   rw [Int.toNat_natCast] at hy3
   have hdi : (d0 : Int) < (l.length : Int) := by omega
   have hrd : rd_T52 l (d0 : Int) = nd l d0 := rfl
   rw [hrd] at hy3 hl3 hC3
   clear hrd hC3
   cases hf : fullB l d0 with
   | true =>
    have hfe : decide (((nd l d0).f3.length : Int) ≥ 64) = true := decide_eq_true (by have := of_decide_eq_true hf; omega)
    dsimp only [plain, Qbh]
    rw [hf, if_pos rfl]
    dsimp only
    go_enter Tryz.func58, Tryz.ntmps58
    go_wp2_with (go_at_call 81; (with_reducible refine (rto _ c l p _ (Kd.C_below HC.out HF0.out.bel) hc HT.out.pr.wf HM.out hp HNE.out).mono ?_); rintro e w1 ⟨rfl, hb⟩; rw [HS.out]; dsimp only [spotR, nodeV]; have HF1 := am (HF0.out.below hb); obtain ⟨ho0, ho1, ho2, ho3, ho4, ho5⟩ := HF1.out.oc; have htc := HF1.out.tc; obtain ⟨hl0, hl1, hl2, hl3⟩ := HF1.out.lt; have hy := (HF1.out.bel.cell (World.block_lt_of_cell? w _ hy3)).trans hy3; clear hb)
    go_region_with (go_at_call 28; (with_reducible refine (Qcp 27 _).mono ?_); rintro en w2 ⟨rfl, hb⟩; have HF2 := am (HF1.out.below (Qa zq1 hb)); have k1 := HF2.out.tc; obtain ⟨m0, m1, m2, m3⟩ := HF2.out.lt; obtain ⟨c0, c1, c2, c3, c4, c5, c6⟩ := HF2.out.rc; obtain ⟨f1, f2⟩ := HF2.out.fr; clear hb)
    all_goals (go_wp2; exact Qbe (l := l) (r := { res0 with f0 := 27 }) rfl HF2.out _ rfl rfl hc (Kd.C_below HC.out HF2.out.bel) (Nat.zero_le _) (Kd.C_nil _ _) (Nat.zero_le _) (Kd.C_nil _ _))
   | false =>
    have hfe : ¬ (((nd l d0).f3.length : Int) ≥ 64) := by have := of_decide_eq_false hf; omega
    have hsm : (nd l d0).f3.length < 64 := by omega
    dsimp only [plain, Qbh]
    rw [hf, if_neg zq9]
    by_cases hl : l.length < 56
    ·
     rw [if_pos hl]
     rcases hk with rfl | rfl
     ·
      dsimp only
      have hpl : (putT l d0 nm l.length).length = l.length := by unfold putT; rw [setE_len]
      have hlN : ¬ ((l.length : Int) ≥ 56) := by omega
      have HM2 := am (show ∀ k, (nd l k).f2.length < 1000000000 ∧ (nd l k).f3.length < 1000000000 from fun k => ⟨by have := HT.out.pr.size k; omega, HM.out k⟩)
      have HLN := am (show ((putT l d0 nm l.length).length + 1) * 64 ≤ 140737488355328 by rw [hpl]; omega)
      have HP0 := am (show 0 < (putT l d0 nm l.length).length by rw [hpl]; omega)
      clear hpl
      go_enter Tryz.func58, Tryz.ntmps58
      go_upto_region 15 with (first
       | (go_at_call 81; (with_reducible refine (rto _ c l p _ (Kd.C_below HC.out HF0.out.bel) hc HT.out.pr.wf HM.out hp HNE.out).mono ?_); rintro e w1 ⟨rfl, hb⟩; rw [HS.out]; dsimp only [spotR, nodeV]; have HF1 := am (HF0.out.below hb); obtain ⟨ho0, ho1, ho2, ho3, ho4, ho5⟩ := HF1.out.oc; have htc := HF1.out.tc; obtain ⟨hl0, hl1, hl2, hl3⟩ := HF1.out.lt; have hy := (HF1.out.bel.cell (World.block_lt_of_cell? w _ hy3)).trans hy3; clear hb)
       | (go_at_call 82; (with_reducible refine (rput _ c l d0 nm l.length _ (Kd.C_below HC.out (Qaa HF1.out.bel _)) hc zq3 HM2.out hdl).mono ?_); rintro e w2 ⟨u, rfl, hs, hb⟩; have HB2 := am (show Below w1.heap.size w1 w2 from Qa (Qaa (Below.refl _ _) _) hb); have HN := am (Qaf (Qal w1 (.cells #[.int .i64 1, .int .i64 0, .slice none 0 0, .slice none 0 0] 52)) hb); have hs := Kd.S_lower hs (base' := w1.heap.size) zq14; obtain ⟨g2, cap2, hu, hBg, hgl, -⟩ := Kd.S_form hs HP0.out; subst hu; have HS3 := am (show Kd.S k52 52 (w2.alloc (.cells #[.slice (some ⟨g2, 0, none⟩) (putT l d0 nm l.length).length cap2] 26)) w1.heap.size (fun k => k ≠ w2.heap.size) (.slice (some ⟨g2, 0, none⟩) (putT l d0 nm l.length).length cap2) (putT l d0 nm l.length) from Kd.S_below (Kd.S_mono (Kd.S_elderB hs w2.heap.size (Nat.le_refl _)) (fun _ hk => hk.2)) (Qaa (Below.refl _ _) _)); have HT3 := am (Qal w2 (.cells #[.slice (some ⟨g2, 0, none⟩) (putT l d0 nm l.length).length cap2] 26)); have HOB := am (show (Value.slice (some ⟨g2, 0, none⟩) (putT l d0 nm l.length).length cap2).ownBlock ≠ some w2.heap.size from fun h => by simp [Value.ownBlock] at h; omega); have HBS := am (show w1.heap.size ≤ (w2.alloc (.cells #[.slice (some ⟨g2, 0, none⟩) (putT l d0 nm l.length).length cap2] 26)).heap.size by rw [World.size_alloc]; have := HB2.out.size; omega); have HFR := am (show ∀ k, (w2.alloc (.cells #[.slice (some ⟨g2, 0, none⟩) (putT l d0 nm l.length).length cap2] 26)).heap.size ≤ k → k ≠ w2.heap.size from fun k hk => by rw [World.size_alloc] at hk; omega); have hn0 := (Qab HN.out 0).trans (show _ = some (Value.int .i64 1) from rfl); have hn1 := (Qab HN.out 1).trans (show _ = some (Value.int .i64 0) from rfl); have hn2 := (Qab HN.out 2).trans (show _ = some (Value.slice none 0 0) from rfl); have hn3 := (Qab HN.out 3).trans (show _ = some (Value.slice none 0 0) from rfl); have hnl := Qai HN.out; clear ho0 ho1 ho2 ho3 ho4 ho5 htc hl0 hl1 hl2 hl3 hs hb hBg hgl)
       | ((with_reducible refine Qas (b := .append) (xs := #[.tmp 64, .tmp 66]) rfl ?_); at_builtin; ((refine Kd.S_append k52 (w0 := w2.alloc (.cells #[.slice (some ⟨g2, 0, none⟩) (putT l d0 nm l.length).length cap2] 26)) w1.heap.size rfl (.tmp 64) (.tmp 66) 24 52 (.agg #[.int .i64 0, .int .i64 0, .slice none 0 0, .slice none 0 0]) 64 rfl Tryz.underlying24 info52 rfl zq9 zq3 (.slice (some ⟨g2, 0, none⟩) (putT l d0 nm l.length).length cap2) (putT l d0 nm l.length) ⟨1, 0, [], []⟩ _ (fun k => k ≠ w2.heap.size) (fun _ => False) rfl (by rw [World.size_alloc]; rfl) (Qdu _ _ _ ⟨1, 0, [], []⟩ (Kd.R_nil _ _ _ _ _) (Kd.R_nil _ _ _ _ _)) (fun _ h => h.elim) HFR.out (Kd.S_mono HS3.out (fun k hk => ⟨hk, fun h => h⟩)) (Below.refl _ _) HBS.out HLN.out ?_); intro v4 w4 ho hbb hg hat; have HS4 := am ho; have HB4 := am hbb; have HT4 := am (Qba HT3.out hg (Ne.symm HOB.out)); obtain ⟨A4, n4, c4, rfl⟩ := S_any ho; have hk4 := (Qab HT4.out 0).trans rfl; have hz4 := Qag HT4.out 0; have hl4 := Qai HT4.out; clear ho hbb hg hat hn0 hn1 hn2 hn3 hnl)))
      all_goals (
       have HS5 := am (Kd.S_set HS4.out HT4.out zq9 0 (.slice A4 n4 c4))
       have hw2 : w.heap.size + 1 + 1 + 1 < w2.heap.size := Nat.lt_of_lt_of_le HF1.out.lt.2.2.2 HB2.out.size
       have HF5 := am ((HF1.out.below ((Qaa HB2.out _).trans HB4.out)).far hw2 0 (.slice A4 n4 c4))
       have HT5 := am (Qap HT4.out 0 (.slice A4 n4 c4) rfl)
       clear hk4 hz4 hl4
       generalize w4.setCell ⟨w2.heap.size, 0, none⟩ (.slice A4 n4 c4) = w5 at HS5 HF5 HT5 ⊢
       have hk5 := (Qab HT5.out 0).trans (show _ = some (Value.slice A4 n4 c4) from rfl)
       have hl5 := Qai HT5.out
       obtain ⟨c0, c1, c2, c3, c4', c5, c6⟩ := HF5.out.rc
       obtain ⟨f1, f2⟩ := HF5.out.fr
       obtain ⟨m0, m1, m2, m3⟩ := HF5.out.lt
       obtain ⟨hn4, hc4, hC4⟩ := Kd.S_reads' HS5.out
       have HN4 := am hn4
       clear hn4
       go_wp2
       have hn4 := HN4.out
       subst hn4
       clear HS4 HS5 HT5 hk5 HN4
       generalize (putT l d0 nm l.length) ++ [⟨1, 0, [], []⟩] = X at hc4 hC4 ⊢
       refine Qbe (fn := Tryz.f58) (w := w) (W := w5) (l := X) (r := res0) (A1 := A4) (A2 := none) (A3 := none) (c1 := c4) (c2 := 0) (c3 := 0) zq25 HF5.out _ ?h4 ?h5 hc4 hC4 (Nat.zero_le _) (Kd.C_nil _ _) (Nat.zero_le _) (Kd.C_nil _ _)
       case h4 => rfl
       case h5 => rfl)
     ·
      dsimp only
      have hpl : (putT l d0 nm l.length).length = l.length := by unfold putT; rw [setE_len]
      have hlN : ¬ ((l.length : Int) ≥ 56) := by omega
      have HM2 := am (show ∀ k, (nd l k).f2.length < 1000000000 ∧ (nd l k).f3.length < 1000000000 from fun k => ⟨by have := HT.out.pr.size k; omega, HM.out k⟩)
      have HLN := am (show ((putT l d0 nm l.length).length + 1) * 64 ≤ 140737488355328 by rw [hpl]; omega)
      have HP0 := am (show 0 < (putT l d0 nm l.length).length by rw [hpl]; omega)
      clear hpl
      go_enter Tryz.func58, Tryz.ntmps58
      go_upto_region 15 with (first
       | (go_at_call 81; (with_reducible refine (rto _ c l p _ (Kd.C_below HC.out HF0.out.bel) hc HT.out.pr.wf HM.out hp HNE.out).mono ?_); rintro e w1 ⟨rfl, hb⟩; rw [HS.out]; dsimp only [spotR, nodeV]; have HF1 := am (HF0.out.below hb); obtain ⟨ho0, ho1, ho2, ho3, ho4, ho5⟩ := HF1.out.oc; have htc := HF1.out.tc; obtain ⟨hl0, hl1, hl2, hl3⟩ := HF1.out.lt; have hy := (HF1.out.bel.cell (World.block_lt_of_cell? w _ hy3)).trans hy3; clear hb)
       | (go_at_call 82; (with_reducible refine (rput _ c l d0 nm l.length _ (Kd.C_below HC.out (Qaa HF1.out.bel _)) hc zq3 HM2.out hdl).mono ?_); rintro e w2 ⟨u, rfl, hs, hb⟩; have HB2 := am (show Below w1.heap.size w1 w2 from Qa (Qaa (Below.refl _ _) _) hb); have HN := am (Qaf (Qal w1 (.cells #[.int .i64 2, .int .i64 0, .slice none 0 0, .slice none 0 0] 52)) hb); have hs := Kd.S_lower hs (base' := w1.heap.size) zq14; obtain ⟨g2, cap2, hu, hBg, hgl, -⟩ := Kd.S_form hs HP0.out; subst hu; have HS3 := am (show Kd.S k52 52 (w2.alloc (.cells #[.slice (some ⟨g2, 0, none⟩) (putT l d0 nm l.length).length cap2] 26)) w1.heap.size (fun k => k ≠ w2.heap.size) (.slice (some ⟨g2, 0, none⟩) (putT l d0 nm l.length).length cap2) (putT l d0 nm l.length) from Kd.S_below (Kd.S_mono (Kd.S_elderB hs w2.heap.size (Nat.le_refl _)) (fun _ hk => hk.2)) (Qaa (Below.refl _ _) _)); have HT3 := am (Qal w2 (.cells #[.slice (some ⟨g2, 0, none⟩) (putT l d0 nm l.length).length cap2] 26)); have HOB := am (show (Value.slice (some ⟨g2, 0, none⟩) (putT l d0 nm l.length).length cap2).ownBlock ≠ some w2.heap.size from fun h => by simp [Value.ownBlock] at h; omega); have HBS := am (show w1.heap.size ≤ (w2.alloc (.cells #[.slice (some ⟨g2, 0, none⟩) (putT l d0 nm l.length).length cap2] 26)).heap.size by rw [World.size_alloc]; have := HB2.out.size; omega); have HFR := am (show ∀ k, (w2.alloc (.cells #[.slice (some ⟨g2, 0, none⟩) (putT l d0 nm l.length).length cap2] 26)).heap.size ≤ k → k ≠ w2.heap.size from fun k hk => by rw [World.size_alloc] at hk; omega); have hn0 := (Qab HN.out 0).trans (show _ = some (Value.int .i64 2) from rfl); have hn1 := (Qab HN.out 1).trans (show _ = some (Value.int .i64 0) from rfl); have hn2 := (Qab HN.out 2).trans (show _ = some (Value.slice none 0 0) from rfl); have hn3 := (Qab HN.out 3).trans (show _ = some (Value.slice none 0 0) from rfl); have hnl := Qai HN.out; clear ho0 ho1 ho2 ho3 ho4 ho5 htc hl0 hl1 hl2 hl3 hs hb hBg hgl)
       | ((with_reducible refine Qas (b := .append) (xs := #[.tmp 64, .tmp 66]) rfl ?_); at_builtin; ((refine Kd.S_append k52 (w0 := w2.alloc (.cells #[.slice (some ⟨g2, 0, none⟩) (putT l d0 nm l.length).length cap2] 26)) w1.heap.size rfl (.tmp 64) (.tmp 66) 24 52 (.agg #[.int .i64 0, .int .i64 0, .slice none 0 0, .slice none 0 0]) 64 rfl Tryz.underlying24 info52 rfl zq9 zq3 (.slice (some ⟨g2, 0, none⟩) (putT l d0 nm l.length).length cap2) (putT l d0 nm l.length) ⟨2, 0, [], []⟩ _ (fun k => k ≠ w2.heap.size) (fun _ => False) rfl (by rw [World.size_alloc]; rfl) (Qdu _ _ _ ⟨2, 0, [], []⟩ (Kd.R_nil _ _ _ _ _) (Kd.R_nil _ _ _ _ _)) (fun _ h => h.elim) HFR.out (Kd.S_mono HS3.out (fun k hk => ⟨hk, fun h => h⟩)) (Below.refl _ _) HBS.out HLN.out ?_); intro v4 w4 ho hbb hg hat; have HS4 := am ho; have HB4 := am hbb; have HT4 := am (Qba HT3.out hg (Ne.symm HOB.out)); obtain ⟨A4, n4, c4, rfl⟩ := S_any ho; have hk4 := (Qab HT4.out 0).trans rfl; have hz4 := Qag HT4.out 0; have hl4 := Qai HT4.out; clear ho hbb hg hat hn0 hn1 hn2 hn3 hnl)))
      all_goals (
       have HS5 := am (Kd.S_set HS4.out HT4.out zq9 0 (.slice A4 n4 c4))
       have hw2 : w.heap.size + 1 + 1 + 1 < w2.heap.size := Nat.lt_of_lt_of_le HF1.out.lt.2.2.2 HB2.out.size
       have HF5 := am ((HF1.out.below ((Qaa HB2.out _).trans HB4.out)).far hw2 0 (.slice A4 n4 c4))
       have HT5 := am (Qap HT4.out 0 (.slice A4 n4 c4) rfl)
       clear hk4 hz4 hl4
       generalize w4.setCell ⟨w2.heap.size, 0, none⟩ (.slice A4 n4 c4) = w5 at HS5 HF5 HT5 ⊢
       have hk5 := (Qab HT5.out 0).trans (show _ = some (Value.slice A4 n4 c4) from rfl)
       have hl5 := Qai HT5.out
       obtain ⟨c0, c1, c2, c3, c4', c5, c6⟩ := HF5.out.rc
       obtain ⟨f1, f2⟩ := HF5.out.fr
       obtain ⟨m0, m1, m2, m3⟩ := HF5.out.lt
       obtain ⟨hn4, hc4, hC4⟩ := Kd.S_reads' HS5.out
       have HN4 := am hn4
       clear hn4
       go_wp2
       have hn4 := HN4.out
       subst hn4
       clear HS4 HS5 HT5 hk5 HN4
       generalize (putT l d0 nm l.length) ++ [⟨2, 0, [], []⟩] = X at hc4 hC4 ⊢
       refine Qbe (fn := Tryz.f58) (w := w) (W := w5) (l := X) (r := res0) (A1 := A4) (A2 := none) (A3 := none) (c1 := c4) (c2 := 0) (c3 := 0) zq25 HF5.out _ ?h4 ?h5 hc4 hC4 (Nat.zero_le _) (Kd.C_nil _ _) (Nat.zero_le _) (Kd.C_nil _ _)
       case h4 => rfl
       case h5 => rfl)
    ·
     rw [if_neg hl]
     have hlN : (l.length : Int) ≥ 56 := by omega
     dsimp only
     go_enter Tryz.func58, Tryz.ntmps58
     go_wp2_with (go_at_call 81; (with_reducible refine (rto _ c l p _ (Kd.C_below HC.out HF0.out.bel) hc HT.out.pr.wf HM.out hp HNE.out).mono ?_); rintro e w1 ⟨rfl, hb⟩; rw [HS.out]; dsimp only [spotR, nodeV]; have HF1 := am (HF0.out.below hb); obtain ⟨ho0, ho1, ho2, ho3, ho4, ho5⟩ := HF1.out.oc; have htc := HF1.out.tc; obtain ⟨hl0, hl1, hl2, hl3⟩ := HF1.out.lt; have hy := (HF1.out.bel.cell (World.block_lt_of_cell? w _ hy3)).trans hy3; clear hb)
     go_region_with (go_at_call 28; (with_reducible refine (Qcp 27 _).mono ?_); rintro en w2 ⟨rfl, hb⟩; have HF2 := am (HF1.out.below (Qa zq1 hb)); have k1 := HF2.out.tc; obtain ⟨m0, m1, m2, m3⟩ := HF2.out.lt; obtain ⟨c0, c1, c2, c3, c4, c5, c6⟩ := HF2.out.rc; obtain ⟨f1, f2⟩ := HF2.out.fr; clear hb)
     all_goals (go_wp2; exact Qbe (l := l) (r := { res0 with f0 := 27 }) rfl HF2.out _ rfl rfl hc (Kd.C_below HC.out HF2.out.bel) (Nat.zero_le _) (Kd.C_nil _ _) (Nat.zero_le _) (Kd.C_nil _ _))
end
end Go.Proofs.YtbhjggbijkjmnaaGreatDoor.PZ
end
