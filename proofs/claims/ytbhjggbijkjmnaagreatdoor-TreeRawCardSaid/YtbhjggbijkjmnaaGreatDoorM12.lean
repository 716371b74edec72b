import Derived.Test.YtbhjggbijkjmnaaGreatDoorM04
import Derived.Test.YtbhjggbijkjmnaaGreatDoorM10
import Derived.Test.YtbhjggbijkjmnaaGreatDoorM11
import Derived.Test.YtbhjggbijkjmnaaGreatDoorM08
import Derived.BigQuiet
import Derived.Deep.QuietTactic
import Derived.Test.YtbhjggbijkjmnaaGreatDoorM01
import Derived.Deep.RegionHeld3
import Derived.Deep.DrawnRows
set_option linter.unusedVariables false
set_option linter.unusedSimpArgs false
section
namespace Go.Proofs.YtbhjggbijkjmnaaGreatDoor.PZ
open Go.RowKit Go.Proofs.YtbhjggbijkjmnaaGreatDoorW.PrintWords Go.Proofs.YtbhjggbijkjmnaaGreatDoorW.PrintLast Go.Proofs.YtbhjggbijkjmnaaGreatDoorW.PrintMore Go.Proofs.YtbhjggbijkjmnaaGreatDoor.B Go.Proofs.YtbhjggbijkjmnaaGreatDoor.Ord TD
set_option maxRecDepth 100000
theorem ref_find_l0 (l : List S62) (n : ByteArray) (hl : l.length < 1000000000000) : ∀ (d i : Nat), i ≤ l.length → l.length - i = d → Ev (fun k => moraineref11_Find.l0 k l n (i : Int)) (((i + fI (l.drop i) n : Nat) : Int), fB (l.drop i) n) := by
 intro d
 induction d with
 | zero =>
  intro i hi hd
  refine Ev.step (f := fun _ => some (((i + fI (l.drop i) n : Nat) : Int), fB (l.drop i) n)) (fun k => ?_) (Ev.now _)
  simp only [moraineref11_Find.l0]
  rw [if_neg zq3, List.drop_of_length_le zq3]
  rfl
 | succ d ih =>
  intro i hi hd
  have hil : i < l.length := by omega
  have r2 : rd_T62 l (i : Int) = l[i] := Qft l i hil
  have e2 : l.drop i = l[i] :: l.drop (i + 1) := List.drop_eq_getElem_cons hil
  rw [e2, fI_cons, fB_cons]
  by_cases h : lts l[i].f0 n = true
  ·
   refine Ev.step (f := fun k => moraineref11_Find.l0 k l n ((i + 1 : Nat) : Int)) (fun k => ?_) ?_
   ·
    simp only [moraineref11_Find.l0]
    rw [if_pos zq3, if_pos zq3, r2, if_pos h, w64 (x := (i : Int) + 1) zq3 zq3]
    rfl
   ·
    rw [if_pos h, if_pos h, show i + (fI (l.drop (i + 1)) n + 1) = i + 1 + fI (l.drop (i + 1)) n by omega]
    exact ih (i + 1) zq3 zq3
  ·
   refine Ev.step (f := fun _ => some ((i : Int), (l[i].f0.toList == n.toList))) (fun k => ?_) ?_
   ·
    simp only [moraineref11_Find.l0]
    rw [if_pos zq3, if_pos zq3, r2, if_neg h]
   ·
    rw [if_neg h, if_neg h]
    exact Ev.now _
theorem ref_find_ev (l : List S62) (n : ByteArray) (hl : l.length < 1000000000000) : Ev (fun k => moraineref11_Find.f k l n) ((fI l n : Int), fB l n) := by
 have := ref_find_l0 l n hl l.length 0 zq3 zq3
 rw [List.drop_zero, Nat.zero_add] at this
 exact this
theorem ref_cut_l0 (l : List S62) (n : ByteArray) (hl : l.length < 100000000000) : ∀ (d i : Nat) (out : List S62), out.length ≤ i → i ≤ l.length → l.length - i = d → Ev (fun k => moraineref11_Cut.l0 k l n out (i : Int)) (out ++ cutL (l.drop i) n) := by
 intro d
 induction d with
 | zero =>
  intro i out ho hi hd
  refine Ev.step (f := fun _ => some (out ++ cutL (l.drop i) n)) (fun k => ?_) (Ev.now _)
  simp only [moraineref11_Cut.l0]
  rw [if_neg zq3, List.drop_of_length_le zq3]
  simp [cutL]
 | succ d ih =>
  intro i out ho hi hd
  have hil : i < l.length := by omega
  have r2 : rd_T62 l (i : Int) = l[i] := Qft l i hil
  have e2 : l.drop i = l[i] :: l.drop (i + 1) := List.drop_eq_getElem_cons hil
  by_cases h : l[i].f0.toList = n.toList
  ·
   refine Ev.step (f := fun k => moraineref11_Cut.l0 k l n out ((i + 1 : Nat) : Int)) (fun k => ?_) ?_
   ·
    simp only [moraineref11_Cut.l0]
    rw [if_pos zq3, if_pos zq3, r2, if_pos h, w64 (x := (i : Int) + 1) zq3 zq3]
    rfl
   ·
    have : cutL (l.drop i) n = cutL (l.drop (i + 1)) n := by
     rw [e2]; unfold cutL; rw [List.filter_cons]; simp [h]
    rw [this]
    exact ih (i + 1) out zq3 zq3 zq3
  ·
   refine Ev.step (f := fun k => moraineref11_Cut.l0 k l n (out ++ [l[i]]) ((i + 1 : Nat) : Int)) (fun k => ?_) ?_
   ·
    simp only [moraineref11_Cut.l0]
    rw [if_pos zq3, if_pos zq3, r2, if_neg h, if_pos zq3, w64 (x := (i : Int) + 1) zq3 zq3]
    rfl
   ·
    have : out ++ cutL (l.drop i) n = (out ++ [l[i]]) ++ cutL (l.drop (i + 1)) n := by
     rw [e2]; unfold cutL; rw [List.filter_cons]; simp [h]
    rw [this]
    exact ih (i + 1) _ zq20 zq3 zq3
theorem ref_cut_ev (l : List S62) (n : ByteArray) (hl : l.length < 100000000000) : Ev (fun k => moraineref11_Cut.f k l n) (cutL l n) := by
 have := ref_cut_l0 l n hl l.length 0 [] zq14 zq3 zq3
 rw [List.drop_zero, List.nil_append] at this
 exact this
theorem Qgc (A : Option Addr) (c : Nat) (es : List S62) (n : ByteArray) (w : World) (hr : Kd.C k62 w A es.length es) (hc : es.length ≤ c) (hl : es.length < 100000000000) :
  Calls Tryz.prog 91 #[.slice A es.length c, .string n] w fun e w' => e = .returned (.tuple #[.int .i64 (fI es n : Nat), .bool (fB es n)]) ∧ ∃ m, w' = w.drewN m := by
 obtain ⟨k, hk⟩ := (ref_find_ev es n zq3).rounds
 exact (moraineref11_Find.calls k A c es n _ _ w hr hc hk).mono fun _ _ h => ⟨h.1, h.2.out⟩
theorem rcut_call (A : Option Addr) (c : Nat) (es : List S62) (n : ByteArray) (w : World) (hr : Kd.C k62 w A es.length es) (hc : es.length ≤ c) (hl : es.length < 100000000000) :
  Calls Tryz.prog 98 #[.slice A es.length c, .string n] w fun e w' => ∃ u : Value, e = .returned u ∧ Kd.R k62 62 w' w.heap.size (fun _ => True) u (cutL es n) ∧ Below w.heap.size w w' := by
 obtain ⟨k, hk⟩ := (ref_cut_ev es n hl).rounds
 exact moraineref11_Cut.calls k A c es n _ w hr hc hk
def pairR (x : Nat ⊕ Int) : Int × Int := match x with | .inl k => ((k : Int), 0) | .inr e => (0, e)
theorem wk_step {l : List S52} {es : List S62} {a : Nat} {n : ByteArray} {r : List ByteArray} (he : (nd l a).f3 = es) (hd : (nd l a).f0 = 2) (hs : Srt es) (hf : fB es n = true) : ∃ h : fI es n < es.length, wk l (n :: r) a = wk l r (ino es[fI es n]) := by
 obtain ⟨hl, hk⟩ := Qha hs hf
 refine ⟨hl, ?_⟩
 conv => lhs; unfold wk
 rw [if_pos hd, he, hk]
set_option maxHeartbeats 2000000 in
theorem rwalk (A : Option Addr) (c : Nat) (l : List S52) (An : Option Addr) (cn : Nat) (ns : List ByteArray) (w : World) (hC : Kd.C k52 w A l.length l) (hc : l.length ≤ c) (hw : Wf l) (hm : ∀ k, (nd l k).f3.length < 1000000000) (hn : Kd.C Kd.string w An ns.length ns) (hcn : ns.length ≤ cn) (hlen : ns.length < 1000000000) :
  Calls Tryz.prog 69 #[.agg #[.slice A l.length c], .slice An ns.length cn] w fun e w' => e = .returned (.tuple #[.int .i64 (pairR (wk l ns 0)).1, .int .i64 (pairR (wk l ns 0)).2]) ∧ Below w.heap.size w w' := by
 have HC := am hC
 have HN := am hn
 have HM := am hm
 have HW := am hw
 clear hC hn hm hw
 go_enter Tryz.func69, Tryz.ntmps69
 go_wp2
 go_loopw [6, 7] (fun v6 v7 wr => ∃ a i : Nat, v6 = .int .i64 a ∧ v7 = .int .i64 i ∧ i ≤ ns.length ∧ a < l.length ∧ Aside0 (wk l (ns.drop i) a = wk l ns 0) ∧ Aside0 (Below (w.alloc (.cells #[.slice A l.length c] 26)).heap.size (w.alloc (.cells #[.slice A l.length c] 26)) wr)) (fun v6 v7 _ => ns.length - (intOf v7).toNat)
 case atStart => exact ⟨0, 0, rfl, rfl, Nat.zero_le _, HW.out.pos, ⟨rfl⟩, ⟨Below.refl _ _⟩⟩
 case round =>
  obtain ⟨a, i, rfl, rfl, hi, ha, HE, HB⟩ := hrel
  have hb0 := (Qab (Qaf (Qal w (.cells #[.slice A l.length c] 26)) HB.out) 0).trans (show _ = some (Value.slice A l.length c) from rfl)
  have hbl := Qai (Qaf (Qal w (.cells #[.slice A l.length c] 26)) HB.out)
  have HBW := am (show Below w.heap.size w wr from Qa (Qaa (Below.refl _ _) _) HB.out)
  by_cases hlt : i < ns.length
  ·
   obtain ⟨ad, e, hx0⟩ := Kd.at_string HN.out (i : Int) zq3 zq3
   cases e
   rw [Int.toNat_natCast] at hx0
   replace hx0 := (HBW.out.cell (World.block_lt_of_cell? w _ hx0)).trans hx0
   have e2 : ns.drop i = rdOf ByteArray.empty ns (i : Int) :: ns.drop (i + 1) := by
    rw [List.drop_eq_getElem_cons hlt]
    congr 1
    unfold rdOf
    simp [List.getD_eq_getElem?_getD, List.getElem?_eq_getElem hlt]
   have hE := HE.out
   rw [e2] at hE
   clear e2
   generalize rdOf ByteArray.empty ns (i : Int) = nm at hx0 hE
   obtain ⟨ad2, A2, c2, A3, c3, e3, hy0, -, -, hy3, -, -, hl3, hC3⟩ := Qaz (Kd.C_below HC.out HBW.out) (a : Int) zq3 zq3
   cases e3
   rw [Int.toNat_natCast] at hy0 hy3
   have hnd : rd_T52 l (a : Int) = nd l a := rfl
   rw [hnd] at hy0 hy3 hl3 hC3
   clear hnd
   have hsrt := HW.out.srt a
   have hsz := HM.out a
   have HC3 := am hC3
   have HL3 := am hl3
   clear hC3 hl3
   by_cases hk : (nd l a).f0 = 2
   ·
    have hkb : ((nd l a).f0 != 2) = false := bne_eq_false_iff_eq.mpr hk
    cases hf : fB (nd l a).f3 nm with
    | true =>
     obtain ⟨hfl, hwk⟩ := wk_step (r := ns.drop (i + 1)) rfl hk hsrt hf
     rw [hwk] at hE
     obtain ⟨ad4, e4, hz0, hz1⟩ := Qbg HC3.out ((fI (nd l a).f3 nm : Nat) : Int) zq3 zq3
     cases e4
     rw [Int.toNat_natCast] at hz1
     have hin := HW.out.ino_lt (List.getElem_mem hfl)
     have hre : rd_T62 (nd l a).f3 ((fI (nd l a).f3 nm : Nat) : Int) = (nd l a).f3[fI (nd l a).f3 nm] := by simp [rd_T62, List.getD_eq_getElem?_getD, List.getElem?_eq_getElem hfl]
     rw [hre, ← hin.2.2] at hz1
     clear hre hz0
     have HE2 := am hE
     have hin1 := hin.1
     clear hE hwk hin
     generalize ino (nd l a).f3[fI (nd l a).f3 nm] = b at hz1 HE2 hin1
     have hfi : ((fI (nd l a).f3 nm : Nat) : Int) < ((nd l a).f3.length : Int) := by omega
     have hfz : 0 ≤ ((fI (nd l a).f3 nm : Nat) : Int) := by omega
     have HRF := am (fun (W : World) (h : Below wr.heap.size wr W) => Qgc (some ad4) c3 (nd l a).f3 nm W (Kd.C_below HC3.out h) HL3.out zq3)
     rw [hf] at HRF
     generalize fI (nd l a).f3 nm = q at hz1 HRF hfi hfz
     generalize (nd l a).f3 = es at hy3 hz1 HRF hfi hfz HC3 HL3
     generalize (nd l a).f0 = kd at hy0 hkb
     clear hf hk hsrt hsz hfl
     go_wp2
     go_quiet ((go_at_call 91; exact Calls.quiet_of (HRF.out _ zq5))) 
     go_wp2
     go_roundw
     case rel => exact ⟨b, i + 1, rfl, by simp, by omega, hin1, HE2, ⟨by repeat (first | exact HB.out | with_reducible apply Qac | with_reducible apply Qad)⟩⟩
     case measure => simp [intOf]; omega
    | false =>
     have hE2 : wk l (nm :: ns.drop (i + 1)) a = .inr 21 := by unfold wk; rw [if_pos hk, Qfq hsrt hf]
     rw [hE2] at hE
     have HE2 := am hE
     clear hE hE2
     have HRF := am (fun (W : World) (h : Below wr.heap.size wr W) => Qgc A3 c3 (nd l a).f3 nm W (Kd.C_below HC3.out h) HL3.out zq3)
     rw [hf] at HRF
     generalize fI (nd l a).f3 nm = q at HRF
     generalize (nd l a).f3 = es at hy3 HRF HC3 HL3
     generalize (nd l a).f0 = kd at hy0 hkb
     clear hf hk hsrt hsz
     go_wp2
     go_quiet ((go_at_call 91; exact Calls.quiet_of (HRF.out _ zq5)))
     go_wp2
     go_ret2
     exact ⟨by rw [← HE2.out]; rfl, by repeat (first | exact HBW.out | with_reducible apply Qac | with_reducible apply Qad)⟩
   ·
    have hkb : ((nd l a).f0 != 2) = true := bne_iff_ne.mpr hk
    have hE2 : wk l (nm :: ns.drop (i + 1)) a = .inr 22 := by unfold wk; rw [if_neg hk]
    rw [hE2] at hE
    have HE2 := am hE
    clear hE hE2
    generalize (nd l a).f0 = kd at hy0 hkb
    clear hk hsrt hsz
    go_wp2
    go_ret2
    exact ⟨by rw [← HE2.out]; rfl, HBW.out⟩
  ·
   have hil : ns.drop i = [] := List.drop_eq_nil_of_le zq3
   have hE := HE.out
   rw [hil] at hE
   have HE2 := am (show wk l ns 0 = .inl a from hE.symm)
   clear hE hil
   go_wp2
   go_ret2
   exact ⟨by rw [HE2.out]; rfl, HBW.out⟩
set_option maxHeartbeats 1000000 in
theorem Qdd (A : Option Addr) (c : Nat) (l : List S52) (p : ByteArray) (w : World) (hC : Kd.C k52 w A l.length l) (hc : l.length ≤ c) (hw : Wf l) (hm : ∀ k, (nd l k).f3.length < 1000000000) (hp : p.size < 1000000) :
  Calls Tryz.prog 35 #[.agg #[.slice A l.length c], .string p] w fun e w' => e = .returned (.tuple #[.int .i64 (pairR (Qav l p)).1, .int .i64 (pairR (Qav l p)).2]) ∧ Below w.heap.size w w' := by
 obtain ⟨k, hk⟩ := (Qcx p zq3).rounds
 have HC := am hC
 have HW := am hw
 have HM := am hm
 clear hC hw hm
 unfold Qav
 by_cases h0 : (Qah p).2 = 0
 ·
  rw [if_pos h0]
  have hsz : (Qah p).1.length ≤ 8 := by
   have h := Qg p h0
   unfold Qf at h
   exact of_decide_eq_true (Bool.and_eq_true_iff.1 h).1
  obtain ⟨ns, es, hsp⟩ : ∃ ns es, Qah p = (ns, es) := ⟨_, _, rfl⟩
  rw [hsp] at hk h0 hsz ⊢
  have HK := am hk
  have h0b : (es != 0) = false := bne_eq_false_iff_eq.mpr h0
  have HB0 := am (show Below w.heap.size w (w.alloc (.cells #[.slice A l.length c] 26)) from Qaa (Below.refl _ _) _)
  clear hk hsp
  go_enter Tryz.func35, Tryz.ntmps35
  go_wp2_with (first
   | (go_at_call 68; (with_reducible refine (moraineref10_Split.calls k p ns es _ HK.out).mono ?_); rintro e w1 ⟨v, rfl, hr, hb⟩; obtain ⟨A1, c1, hv, hc1, hC1⟩ := Kd.R_reads hr; subst hv; have HC1 := am hC1; have HB1 := am (Qa HB0.out hb); have ht := (Qab (Qaf (Qal w (.cells #[.slice A l.length c] 26)) hb) 0).trans (show _ = some (Value.slice A l.length c) from rfl); have htl := Qai (Qaf (Qal w (.cells #[.slice A l.length c] 26)) hb); clear hr hb hC1)
   | (go_at_call 69; (with_reducible refine (rwalk A c l A1 c1 ns _ (Kd.C_below HC.out HB1.out) hc HW.out HM.out HC1.out hc1 zq3).mono ?_); rintro e w2 ⟨rfl, hb⟩; have HB2 := am (Qa HB1.out hb); clear hb))
  go_ret2
  exact ⟨rfl, HB2.out⟩
 ·
  rw [if_neg h0]
  obtain ⟨ns, es, hsp⟩ : ∃ ns es, Qah p = (ns, es) := ⟨_, _, rfl⟩
  rw [hsp] at hk h0 ⊢
  have HK := am hk
  have h0b : (es != 0) = true := bne_iff_ne.mpr h0
  have HB0 := am (show Below w.heap.size w (w.alloc (.cells #[.slice A l.length c] 26)) from Qaa (Below.refl _ _) _)
  clear hk hsp h0
  go_enter Tryz.func35, Tryz.ntmps35
  go_wp2_with (go_at_call 68; (with_reducible refine (moraineref10_Split.calls k p ns es _ HK.out).mono ?_); rintro e w1 ⟨v, rfl, hr, hb⟩; obtain ⟨A1, c1, hv, hc1, hC1⟩ := Kd.R_reads hr; subst hv; have HB1 := am (Qa HB0.out hb); clear hr hb hC1 hc1)
  go_ret2
  exact ⟨rfl, HB1.out⟩
section
attribute [local go_sem ↓] Go.wp_at_zero Go.wp_at_succ
set_option maxHeartbeats 4000000 in
theorem to_out (b : Nat) (A : Option Addr) (cap : Nat) (l : List S52) (rest : List Value) (p : ByteArray) (q : List ByteArray) (nm : ByteArray) (n : Int) (w : World) (hw : Wk w b (.slice A l.length cap) rest) (hc : Kd.C k52 w A l.length l) (ho : Ok l) (hp : p.size < 10000000)
  (hs : Qah p = (q ++ [nm], 0)) (h : wk l q 0 = .inr n) :
  Calls Tryz.prog 74 #[.pointer (some ⟨b, 0, none⟩), .string p] w fun en w' => en = .panicked (wrong n) ∧ Below w.heap.size w w' := by
 have HC := am hc
 have HW := am hw
 have HO := am ho
 have HS := am hs
 have HE := am h
 have hql : q.length ≤ 8 := by
  have := Qbi p
  rw [hs] at this
  simp at this
  omega
 clear hc hw ho hs h
 go_enter Tryz.func74, Tryz.ntmps74
 go_wp2_with (go_at_call 34; refine (names_in p _ _ hp HS.out).mono ?_; rintro e w1 ⟨v1, rfl, hr, hb⟩; obtain ⟨A1, c1, rfl, hl1, hC1⟩ := Kd.R_reads hr; have HC1 := am hC1; have HB := am (Qa (Qaa (Below.refl _ _) _) hb); have HR4 := am (Qaf (Qal w (.cells #[.int .i64 0, .string ⟨#[]⟩, .int .i64 0] 92)) hb); clear hr hC1 hb)
 have hCq : Kd.C Kd.string w1 A1 q.length q := by
  have h := Kd.C_take HC1.out (m := q.length) zq14
  rw [List.take_left] at h
  exact h
 obtain ⟨a1, e, hx⟩ := Kd.at_string HC1.out (q.length : Int) zq3 zq30
 subst e
 have hrd : rdOf ByteArray.empty (q ++ [nm]) (q.length : Int) = nm := by simp [rdOf, List.getD_eq_getElem?_getD]
 rw [Int.toNat_natCast, hrd] at hx
 have hxl := World.block_lt_of_cell? _ _ hx
 have hws := IntKind.wrap_i64
 have hw1 : IntKind.i64.wrap ((q.length : Int) + 1 - 1) = (q.length : Int) := by rw [IntKind.wrap_i64]; omega
 have hw2 : IntKind.i64.wrap (q.length : Int) = (q.length : Int) := by rw [IntKind.wrap_i64]; omega
 have hz0 : (0 : Int) ≤ (q.length : Int) := by omega
 have hz1 : (q.length : Int) ≤ (c1 : Int) := by simp at hl1; omega
 have hz2 : (q.length : Int) < (q.length : Int) + 1 := by omega
 have hqc : q.length ≤ c1 := by omega
 have HCQ := am hCq
 have hfar : (a1.add q.length).block ≠ w1.heap.size := by omega
 have hWb : b < w.heap.size := Qai HW.out
 clear hCq hrd hws
 go_region_with (first | (go_at_call 33; (with_reducible refine (walk_out b A cap l rest (some a1) c1 q n _ ?_ ?_ ?_ ?_ ?_ ?_ ?_).mono ?_); (exact Qaf HW.out zq12); (exact Kd.C_below HC.out zq12); (exact Kd.C_below HCQ.out zq8); (exact hqc); (omega); (exact HO.out); (exact HE.out); rintro e w2 ⟨rfl, hb⟩; have HB2 := am (Qa zq12 hb); clear hb; refine any_end (P := Tryz.prog) (md := .text) (a := ⟨#[], []⟩) (w := w2) ?_))
 all_goals exact ⟨rfl, rfl, HB2.out⟩
set_option maxHeartbeats 4000000 in
theorem to_file (b : Nat) (A : Option Addr) (cap : Nat) (l : List S52) (rest : List Value) (p : ByteArray) (q : List ByteArray) (nm : ByteArray) (d : Nat) (w : World) (hw : Wk w b (.slice A l.length cap) rest) (hc : Kd.C k52 w A l.length l) (ho : Ok l) (hp : p.size < 10000000)
  (hs : Qah p = (q ++ [nm], 0)) (h : wk l q 0 = .inl d) (hd : ((nd l d).f0 == 2) = false) :
  Calls Tryz.prog 74 #[.pointer (some ⟨b, 0, none⟩), .string p] w fun en w' => en = .panicked (wrong 22) ∧ Below w.heap.size w w' := by
 have HC := am hc
 have HW := am hw
 have HO := am ho
 have HS := am hs
 have HE := am h
 have hql : q.length ≤ 8 := by
  have := Qbi p
  rw [hs] at this
  simp at this
  omega
 have hdl := wk_lt ho.wf ho.wf.pos h
 clear hc hw ho hs h
 go_enter Tryz.func74, Tryz.ntmps74
 go_wp2_with (go_at_call 34; refine (names_in p _ _ hp HS.out).mono ?_; rintro e w1 ⟨v1, rfl, hr, hb⟩; obtain ⟨A1, c1, rfl, hl1, hC1⟩ := Kd.R_reads hr; have HC1 := am hC1; have HB := am (Qa (Qaa (Below.refl _ _) _) hb); have HR4 := am (Qaf (Qal w (.cells #[.int .i64 0, .string ⟨#[]⟩, .int .i64 0] 92)) hb); clear hr hC1 hb)
 have hCq : Kd.C Kd.string w1 A1 q.length q := by
  have h := Kd.C_take HC1.out (m := q.length) zq14
  rw [List.take_left] at h
  exact h
 obtain ⟨a1, e, hx⟩ := Kd.at_string HC1.out (q.length : Int) zq3 zq30
 subst e
 have hrd : rdOf ByteArray.empty (q ++ [nm]) (q.length : Int) = nm := by simp [rdOf, List.getD_eq_getElem?_getD]
 rw [Int.toNat_natCast, hrd] at hx
 have hxl := World.block_lt_of_cell? _ _ hx
 have hws := IntKind.wrap_i64
 have hw1 : IntKind.i64.wrap ((q.length : Int) + 1 - 1) = (q.length : Int) := by rw [IntKind.wrap_i64]; omega
 have hw2 : IntKind.i64.wrap (q.length : Int) = (q.length : Int) := by rw [IntKind.wrap_i64]; omega
 have hz0 : (0 : Int) ≤ (q.length : Int) := by omega
 have hz1 : (q.length : Int) ≤ (c1 : Int) := by simp at hl1; omega
 have hz2 : (q.length : Int) < (q.length : Int) + 1 := by omega
 have hqc : q.length ≤ c1 := by omega
 have HCQ := am hCq
 have hfar : (a1.add q.length).block ≠ w1.heap.size := by omega
 have hWb : b < w.heap.size := Qai HW.out
 clear hCq hrd hws
 go_region_held3 (fun w' => w'.cell? (a1.add q.length) = some (.string nm)) (first | go_keep | (rw [cell_far hfar, cell_far hfar, cell_far hfar]; go_keep))
  (first | (go_at_call 33; (with_reducible refine (walk_st b A cap l rest (some a1) c1 q d _ ?_ ?_ ?_ ?_ ?_ ?_ ?_).mono ?_); (exact Qaf HW.out zq12); (exact Kd.C_below HC.out zq12); (exact Kd.C_below HCQ.out zq8); (exact hqc); (omega); (exact HO.out); (exact HE.out); rintro e w2 ⟨rfl, hb⟩; have HB2 := am (Qa zq12 hb); have hx2 := hb.cell (p := a1.add q.length) zq20; obtain ⟨hbc, hbf⟩ := bcell hb; have hbw := hb; clear hb))
 ·
  have hk3 := Qal w2 (.cells #[.int .i64 (d : Int), .string nm, .int .i64 (-1)] 92)
  have hB3 := Qaa HB2.out (.cells #[.int .i64 (d : Int), .string nm, .int .i64 (-1)] 92)
  have HR5 := am (Qaj (Qaf HR4.out (Qa (Qad (Below.refl w1.heap.size w1)) hbw)) (.cells #[.int .i64 (d : Int), .string nm, .int .i64 (-1)] 92))
  have HGS : Aside0 (w.heap.size ≤ w2.heap.size) := ⟨HB2.out.size⟩
  have HGN : Aside0 (w2.heap.size ≠ w.heap.size) := ⟨by have := Qai (Qaf HR4.out (Qa (Qad (Below.refl w1.heap.size w1)) hbw)); omega⟩
  clear hbc hbf hx2 hbw
  generalize w2.alloc (.cells #[.int .i64 (d : Int), .string nm, .int .i64 (-1)] 92) = w3 at *
  generalize w2.heap.size = g at *
  have HB3 := am hB3
  have HK3 := am hk3
  have hg0 := Qab hk3 0
  have hg1 := Qab hk3 1
  have hg2 := Qab hk3 2
  simp only [List.getElem?_toArray, List.getElem?_cons_zero, List.getElem?_cons_succ] at hg0 hg1 hg2
  have hW3 : Wk w3 b (.slice A l.length cap) rest := Qaf HW.out hB3
  have hC3 := Kd.C_below HC.out hB3
  clear hk3
  obtain ⟨ad, A2, c2, A3, c3, e, -, -, -, hx3, -, -, hl3, hCe⟩ := Qaz HC.out (d : Int) zq3 zq3
  subst e
  rw [Int.toNat_natCast] at hx3
  have hrd : rd_T52 l (d : Int) = nd l d := rfl
  rw [hrd] at hx3 hl3 hCe
  have hal0 : (ad.add (d * 4)).block < w.heap.size := World.block_lt_of_cell? w ⟨(ad.add (d * 4)).block, (ad.add (d * 4)).off + 3, none⟩ hx3
  have HCW := am hCe
  replace hx3 := (hB3.cell (p := ⟨(ad.add (d * 4)).block, (ad.add (d * 4)).off + 3, none⟩) hal0).trans hx3
  replace hCe := Kd.C_below hCe hB3
  have h0 : w3.cell? ⟨b, 0, none⟩ = some (.slice (some ad) l.length cap) := (Qab hW3 0).trans rfl
  have hdb : ((rd_T52 l (d : Int)).f0 == 2) = false := hd
  have hd0 : (0 : Int) ≤ (d : Int) := by omega
  have hd1 : (d : Int) < (l.length : Int) := by omega
  have HW3 := am hW3
  have HC3 := am hC3
  have HCE := am hCe
  have HL3 := am hl3
  have hsm := HO.out.small d
  have hsr := HO.out.wf.srt d
  have HSR := am hsr
  have hgl : g < w3.heap.size := Qai HK3.out
  have hbl3 : b < w3.heap.size := Qai HW3.out
  have hal3 := World.block_lt_of_cell? _ _ hx3
  clear hW3 hC3 hrd hl3 hCe hsr hB3
  go_wp2_with (first | (go_at_call 65; refine (Qei b _ cap l rest d _ hdl HW3.out HC3.out).mono ?_; rintro e w4 ⟨rfl, hw4⟩; subst w4) | (go_at_call 64; refine (Qaw 22 _).mono ?_; rintro e w4 ⟨rfl, hw4⟩; subst w4; exact ⟨rfl, rfl, HB3.out⟩))
 ·
  have hk2 := Qaf (Qat (Qal w1 (.cells #[.int .i64 0, .string ⟨#[]⟩, .int .i64 0] 92))) hbw
  have hk3 : (((w2.setCell ⟨w1.heap.size, 0, none⟩ (.int .i64 (d : Int))).setCell ⟨w1.heap.size, 1, none⟩ (.string nm)).setCell ⟨w1.heap.size, 2, none⟩ (.int .i64 (-1))).heap[w1.heap.size]? = some (.cells #[.int .i64 (d : Int), .string nm, .int .i64 (-1)] 92 (0, 0)) := Qap (Qap (Qap hk2 0 (.int .i64 (d : Int)) rfl) 1 (.string nm) rfl) 2 (.int .i64 (-1)) rfl
  have HGS : Aside0 (w.heap.size ≤ w1.heap.size) := ⟨HB.out.size⟩
  have HGN : Aside0 (w1.heap.size ≠ w.heap.size) := ⟨by have := Qai HR4.out; omega⟩
  have hB3 := ((HB2.out.setCell (p := ⟨w1.heap.size, 0, none⟩) HGS.out (.int .i64 (d : Int))).setCell (p := ⟨w1.heap.size, 1, none⟩) HGS.out (.string nm)).setCell (p := ⟨w1.heap.size, 2, none⟩) HGS.out (.int .i64 (-1))
  have hr5 := Qaf HR4.out (Qa (Qad (Qaa (Below.refl w1.heap.size w1) _)) hbw)
  have HR5 := am (Qam (p := ⟨w1.heap.size, 2, none⟩) (Qam (p := ⟨w1.heap.size, 1, none⟩) (Qam (p := ⟨w1.heap.size, 0, none⟩) hr5 (Ne.symm HGN.out) (.int .i64 (d : Int))) (Ne.symm HGN.out) (.string nm)) (Ne.symm HGN.out) (.int .i64 (-1)))
  clear hbc hbf hx2 hbw hk2 hr5
  generalize ((w2.setCell ⟨w1.heap.size, 0, none⟩ (.int .i64 (d : Int))).setCell ⟨w1.heap.size, 1, none⟩ (.string nm)).setCell ⟨w1.heap.size, 2, none⟩ (.int .i64 (-1)) = w3 at *
  generalize w1.heap.size = g at *
  have HB3 := am hB3
  have HK3 := am hk3
  have hg0 := Qab hk3 0
  have hg1 := Qab hk3 1
  have hg2 := Qab hk3 2
  simp only [List.getElem?_toArray, List.getElem?_cons_zero, List.getElem?_cons_succ] at hg0 hg1 hg2
  have hW3 : Wk w3 b (.slice A l.length cap) rest := Qaf HW.out hB3
  have hC3 := Kd.C_below HC.out hB3
  clear hk3
  obtain ⟨ad, A2, c2, A3, c3, e, -, -, -, hx3, -, -, hl3, hCe⟩ := Qaz HC.out (d : Int) zq3 zq3
  subst e
  rw [Int.toNat_natCast] at hx3
  have hrd : rd_T52 l (d : Int) = nd l d := rfl
  rw [hrd] at hx3 hl3 hCe
  have hal0 : (ad.add (d * 4)).block < w.heap.size := World.block_lt_of_cell? w ⟨(ad.add (d * 4)).block, (ad.add (d * 4)).off + 3, none⟩ hx3
  have HCW := am hCe
  replace hx3 := (hB3.cell (p := ⟨(ad.add (d * 4)).block, (ad.add (d * 4)).off + 3, none⟩) hal0).trans hx3
  replace hCe := Kd.C_below hCe hB3
  have h0 : w3.cell? ⟨b, 0, none⟩ = some (.slice (some ad) l.length cap) := (Qab hW3 0).trans rfl
  have hdb : ((rd_T52 l (d : Int)).f0 == 2) = false := hd
  have hd0 : (0 : Int) ≤ (d : Int) := by omega
  have hd1 : (d : Int) < (l.length : Int) := by omega
  have HW3 := am hW3
  have HC3 := am hC3
  have HCE := am hCe
  have HL3 := am hl3
  have hsm := HO.out.small d
  have hsr := HO.out.wf.srt d
  have HSR := am hsr
  have hgl : g < w3.heap.size := Qai HK3.out
  have hbl3 : b < w3.heap.size := Qai HW3.out
  have hal3 := World.block_lt_of_cell? _ _ hx3
  clear hW3 hC3 hrd hl3 hCe hsr hB3
  go_wp2_with (first | (go_at_call 65; refine (Qei b _ cap l rest d _ hdl HW3.out HC3.out).mono ?_; rintro e w4 ⟨rfl, hw4⟩; subst w4) | (go_at_call 64; refine (Qaw 22 _).mono ?_; rintro e w4 ⟨rfl, hw4⟩; subst w4; exact ⟨rfl, rfl, HB3.out⟩))
end
def St (B b : Nat) (l : List S52) (rest : List Value) (w : World) : Prop := B ≤ b ∧ ∃ v, Wk w b v rest ∧ Kd.S k52 52 w B (fun k => k ≠ b) v l
theorem St.below {B b : Nat} {l : List S52} {rest : List Value} {w w1 : World} (h : St B b l rest w) (hb : Below w.heap.size w w1) : St B b l rest w1 := by
 obtain ⟨h0, v, h1, h2⟩ := h
 exact ⟨h0, v, Qaf h1 hb, Kd.S_below h2 hb⟩
theorem Qhd (l : List S52) (i : Nat) : l.getD (i : Int).toNat ⟨0, 0, [], []⟩ = nd l i := by rw [Int.toNat_natCast]; rfl
theorem Qdf {W : World} {B g n cap b : Nat} {l : List S52} (hb : b < W.heap.size) (h : Kd.S k52 52 W B (fun k => k ≠ b) (.slice (some ⟨g, 0, none⟩) n cap) l) (i : Nat) (hi : i < l.length) (hBW : B ≤ W.heap.size) :
  ∃ v2 v3, W.cell? ⟨g, i * 4, none⟩ = some (.int .i64 (nd l i).f0) ∧ W.cell? ⟨g, i * 4 + 1, none⟩ = some (.int .i64 (nd l i).f1) ∧ W.cell? ⟨g, i * 4 + 2, none⟩ = some v2 ∧ W.cell? ⟨g, i * 4 + 3, none⟩ = some v3 ∧
   Kd.R (Kd.int .u8) 5 W B (fun k => k ≠ b) v2 (nd l i).f2 ∧ Kd.R k62 62 W B (fun k => k ≠ b) v3 (nd l i).f3 ∧ (∀ j, W.frozen? ⟨g, i * 4 + j, none⟩ = false) ∧ g ≠ b ∧ B ≤ g ∧
   (∀ (w1 : World) (u : Value) (es : List S62), Below W.heap.size W w1 → Kd.R k62 62 w1 W.heap.size (fun _ => True) u es →
    Kd.S k52 52 (w1.setCell ⟨g, i * 4 + 3, none⟩ u) B (fun k => k ≠ b) (.slice (some ⟨g, 0, none⟩) n cap) (setE l i es)) ∧
   (∀ (w1 : World) (u : Value) (bs : List Int), Below W.heap.size W w1 → Kd.R (Kd.int .u8) 5 w1 W.heap.size (fun _ => True) u bs →
    Kd.S k52 52 (w1.setCell ⟨g, i * 4 + 2, none⟩ u) B (fun k => k ≠ b) (.slice (some ⟨g, 0, none⟩) n cap) (setD l i bs)) := by
 have hn := (Kd.S_reads' h).1
 have hgb : g ≠ b := (Kd.S_R h).1 g zq24
 have hBg : B ≤ g := Kd.S_base h g zq24
 obtain ⟨oki, c, hcl, hM, hcc, hfr, hoki, hH⟩ := Kd.S_elem h ⟨0, 0, [], []⟩ (i : Int) zq3 zq3
 have HM := hM
 rw [Qhd] at hM
 obtain ⟨v2, v3, rfl, hd2, hd3⟩ := Qfo hM
 rw [Int.toNat_natCast] at hcc hfr
 have hH2 := Kd.H_widen hH
 refine ⟨v2, v3, hcc 0 _ rfl, hcc 1 _ rfl, hcc 2 _ rfl, hcc 3 _ rfl, Kd.R_mono hd2 (fun k hk => (hoki k hk).1), Kd.R_mono hd3 (fun k hk => (hoki k hk).1), hfr, hgb, hBg, ?_, ?_⟩
 ·
  intro w1 u es hbw hr
  have hd2' := Kd.R_below hd2 hbw
  obtain ⟨h2, h3⟩ := Kd.H_seg (seg := [u]) (j := 3) (Kd.H_below hH2 hbw) zq3 zq3 (by simp; decide) zq31
  have hgl : g < W.heap.size := World.block_lt_of_cell? _ _ (hcc 0 _ rfl)
  have hM' : k52.M (w1.setCells g (i * 4 + 3) [u]) B (fun k => oki k ∨ k ≠ b ∧ W.heap.size ≤ k) ⟨(nd l i).f0, (nd l i).f1, (nd l i).f2, es⟩ [.int .i64 (nd l i).f0, .int .i64 (nd l i).f1, v2, u] :=
   Qdu _ _ _ ⟨(nd l i).f0, (nd l i).f1, (nd l i).f2, es⟩ (Kd.R_mono (Kd.R_step hd2' (fun k hk hlt => h3.block k hlt (fun he => (hoki k hk).2 (by injection he)))) (fun k hk => .inl hk)) (Kd.R_lower (Kd.R_mono (Kd.R_step (Kd.R_bound hr) (fun k hk hlt => h3.block k hlt (fun he => by injection he with he; have := hk.2.1; omega))) (fun k hk => .inr ⟨by have := hk.2.1; omega, hk.2.1⟩)) hBW)
  have h4 := Kd.H_back (okp := fun k => oki k ∨ k ≠ b ∧ W.heap.size ≤ k) h2 (x' := ⟨(nd l i).f0, (nd l i).f1, (nd l i).f2, es⟩) hM' (fun k hk => hk)
  rw [Int.toNat_natCast] at h4
  exact h4
 ·
  intro w1 u bs hbw hr
  have hd3' := Kd.R_below hd3 hbw
  obtain ⟨h2, h3⟩ := Kd.H_seg (seg := [u]) (j := 2) (Kd.H_below hH2 hbw) zq3 zq3 (by simp; decide) zq31
  have hgl : g < W.heap.size := World.block_lt_of_cell? _ _ (hcc 0 _ rfl)
  have hM' : k52.M (w1.setCells g (i * 4 + 2) [u]) B (fun k => oki k ∨ k ≠ b ∧ W.heap.size ≤ k) ⟨(nd l i).f0, (nd l i).f1, bs, (nd l i).f3⟩ [.int .i64 (nd l i).f0, .int .i64 (nd l i).f1, u, v3] :=
   Qdu _ _ _ ⟨(nd l i).f0, (nd l i).f1, bs, (nd l i).f3⟩ (Kd.R_lower (Kd.R_mono (Kd.R_step (Kd.R_bound hr) (fun k hk hlt => h3.block k hlt (fun he => by injection he with he; have := hk.2.1; omega))) (fun k hk => .inr ⟨by have := hk.2.1; omega, hk.2.1⟩)) hBW) (Kd.R_mono (Kd.R_step hd3' (fun k hk hlt => h3.block k hlt (fun he => (hoki k hk).2 (by injection he)))) (fun k hk => .inl hk))
  have h4 := Kd.H_back (okp := fun k => oki k ∨ k ≠ b ∧ W.heap.size ≤ k) h2 (x' := ⟨(nd l i).f0, (nd l i).f1, bs, (nd l i).f3⟩) hM' (fun k hk => hk)
  rw [Int.toNat_natCast] at h4
  exact h4
structure BW (B : Nat) (w w' : World) : Prop where
 bel : Below B w w'
 keep : ∀ (i : Nat) (cells : Array Value) (t : TypeId), w.heap[i]? = some (Obj.cells cells t (0, 0)) → t ≠ 57 → t ≠ 52 → w'.heap[i]? = some (Obj.cells cells t (0, 0))
theorem BW.mono {B : Nat} {w W : World} (h : Below w.heap.size w W) (hB : B ≤ w.heap.size) : BW B w W := ⟨Below.mono h hB, fun i cells t hi _ _ => (h.block i (Qai hi)).trans hi⟩
theorem BW.refl (B : Nat) (w : World) : BW B w w := ⟨Below.refl _ _, fun _ _ _ h _ _ => h⟩
theorem BW.trans {B : Nat} {w w1 w2 : World} (h : BW B w w1) (h2 : BW B w1 w2) : BW B w w2 := ⟨h.bel.trans h2.bel, fun i cells t hi h3 h4 => h2.keep i cells t (h.keep i cells t hi h3 h4) h3 h4⟩
theorem BW.step {B : Nat} {w W w2 : World} (h : BW B w W) (h2 : Below w.heap.size W w2) (hB : B ≤ w.heap.size) : BW B w w2 := ⟨h.bel.trans (Below.mono h2 hB), fun i cells t hi h3 h4 => (h2.block i (Qai hi)).trans (h.keep i cells t hi h3 h4)⟩
theorem BW.drew {B : Nat} {w W : World} (h : BW B w W) : BW B w W.drew := ⟨Qeu h.bel, h.keep⟩
theorem BW.drewN {B : Nat} {w W : World} (h : BW B w W) (n : Nat) : BW B w (W.drewN n) := ⟨Qac h.bel n, h.keep⟩
theorem BW.set {B : Nat} {w W : World} (h : BW B w W) {b : Nat} {cs : Array Value} {t : TypeId} (hb : B ≤ b) (hw : W.heap[b]? = some (Obj.cells cs t (0, 0))) (ht : t = 57 ∨ t = 52) (i : Nat) (u : Value) : BW B w (W.setCell ⟨b, i, none⟩ u) :=
 ⟨h.bel.setCell (p := ⟨b, i, none⟩) hb u, fun j cells t' hj h3 h4 => (Below.heap_setCell W ⟨b, i, none⟩ u j (fun e => by
  have h5 := h.keep j cells t' hj h3 h4
  rw [show j = b from e, hw] at h5
  injection h5 with h5
  injection h5 with _ h5 _
  rcases ht with ht | ht
  · exact h3 (h5.symm.trans ht)
  · exact h4 (h5.symm.trans ht))).trans (h.keep j cells t' hj h3 h4)⟩
theorem BW.setW {B : Nat} {w W : World} (h : BW B w W) {b : Nat} {v : Value} {rest : List Value} (hb : B ≤ b) (hw : Wk W b v rest) (i : Nat) (u : Value) : BW B w (W.setCell ⟨b, i, none⟩ u) := h.set hb hw (.inl rfl) i u
theorem BW.setN {B base : Nat} {ok : Nat → Prop} {w W : World} (h : BW B w W) {g n cap : Nat} {l : List S52} (hg : B ≤ g) (hS : Kd.S k52 52 W base ok (.slice (some ⟨g, 0, none⟩) n cap) l) (i : Nat) (u : Value) : BW B w (W.setCell ⟨g, i, none⟩ u) := by
 obtain ⟨cs, hc⟩ := Kd.S_typed hS g zq24
 exact h.set hg hc (.inr rfl) i u
theorem BW.grownN {B base : Nat} {ok : Nat → Prop} {w W w2 : World} (h : BW B w W) (h2 : Below B W w2) {v : Value} {l : List S52} (hS : Kd.S k52 52 W base ok v l) (hg : W.grownBy w2 v.ownBlock) : BW B w w2 :=
 ⟨h.bel.trans h2, fun j cells t hj h3 h4 => by
  have h5 := h.keep j cells t hj h3 h4
  refine (hg.block j (Qai h5) (fun e => ?_)).trans h5
  obtain ⟨cs, hc⟩ := Kd.S_typed hS j e.symm
  rw [hc] at h5
  injection h5 with h5
  injection h5 with _ h5 _
  exact h4 h5.symm⟩
section
attribute [local go_sem ↓] Go.wp_at_zero Go.wp_at_succ
theorem one_C (W : World) (x : S62) : Kd.C k62 (W.alloc (.cells #[.string x.f0, .int .i64 x.f1] 62)) (some ⟨W.heap.size, 0, none⟩) 1 [x] := by
 refine ⟨rfl, by omega, fun _ => ⟨_, rfl, fun j p hj => ?_⟩⟩
 match j, hj with
 | 0, hj =>
  cases hj
  refine ⟨[.string x.f0, .int .i64 x.f1], rfl, k62_mk _ x, fun i u hu => ?_⟩
  rw [Qbl, (Qab (Qal W _) _)]
  match i, hu with
  | 0, hu => cases hu; rfl
  | 1, hu => cases hu; rfl
theorem three_C {W : World} {A0 A1 A2 : Option Addr} {l0 l1 l2 : List S62} {c0 c1 c2 : Nat} (h0 : Kd.C k62 W A0 l0.length l0) (e0 : l0.length ≤ c0) (h1 : Kd.C k62 W A1 l1.length l1) (e1 : l1.length ≤ c1) (h2 : Kd.C k62 W A2 l2.length l2) (e2 : l2.length ≤ c2) (t : Nat) :
  Kd.C (Kd.slice 62 k62) (W.alloc (.cells #[.slice A0 l0.length c0, .slice A1 l1.length c1, .slice A2 l2.length c2] t)) (some ⟨W.heap.size, 0, none⟩) 3 [l0, l1, l2] := by
 have hb : Below W.heap.size W (W.alloc (.cells #[.slice A0 l0.length c0, .slice A1 l1.length c1, .slice A2 l2.length c2] t)) := Qaa (Below.refl _ _) _
 have hc : ∀ j u, (#[Value.slice A0 l0.length c0, .slice A1 l1.length c1, .slice A2 l2.length c2] : Array Value)[j]? = some u → (W.alloc (.cells #[.slice A0 l0.length c0, .slice A1 l1.length c1, .slice A2 l2.length c2] t)).cell? ((⟨W.heap.size, 0, none⟩ : Addr).add j) = some u := fun j u hu => by
  rw [Qbl, (Qab (Qal W _) _)]; exact hu
 refine ⟨rfl, by omega, fun _ => ⟨_, rfl, fun j p hj => ?_⟩⟩
 match j, hj with
 | 0, hj =>
  cases hj
  exact ⟨[.slice A0 l0.length c0], rfl, ⟨A0, c0, rfl, e0, Kd.C_below h0 hb⟩, fun i u hu => by match i, hu with | 0, hu => cases hu; exact hc 0 _ rfl⟩
 | 1, hj =>
  cases hj
  exact ⟨[.slice A1 l1.length c1], rfl, ⟨A1, c1, rfl, e1, Kd.C_below h1 hb⟩, fun i u hu => by match i, hu with | 0, hu => cases hu; exact hc 1 _ rfl⟩
 | 2, hj =>
  cases hj
  exact ⟨[.slice A2 l2.length c2], rfl, ⟨A2, c2, rfl, e2, Kd.C_below h2 hb⟩, fun i u hu => by match i, hu with | 0, hu => cases hu; exact hc 2 _ rfl⟩
theorem conc3 (ad : Addr) (l0 l1 l2 r : List S62) (W : World) (h : slices_Concat.f [l0, l1, l2] = some r) (hC : Kd.C (Kd.slice 62 k62) W (some ad) 3 [l0, l1, l2]) :
  Calls Tryz.prog 105 #[.slice (some ad) 3 3] W fun e w' => ∃ v0_ : Value, e = .returned v0_ ∧ Kd.R k62 62 w' W.heap.size (fun _ => True) v0_ r ∧ Below W.heap.size W w' :=
 slices_Concat.calls (some ad) 3 [l0, l1, l2] r W hC (Nat.le_refl _) h
theorem args_C {w1 : World} {A0 A2 : Option Addr} {l0 l2 : List S62} {c0 c2 : Nat} (h0 : Kd.C k62 w1 A0 l0.length l0) (e0 : l0.length ≤ c0) (h2 : Kd.C k62 w1 A2 l2.length l2) (e2 : l2.length ≤ c2) (n : ByteArray) (v : Int) (t : Nat) :
  Kd.C (Kd.slice 62 k62) ((w1.alloc (.cells #[.string n, .int .i64 v] 62)).alloc (.cells #[.slice A0 l0.length c0, .slice (some ⟨w1.heap.size, 0, none⟩) 1 1, .slice A2 l2.length c2] t)).drew (some ⟨w1.heap.size + 1, 0, none⟩) 3 [l0, [⟨n, v⟩], l2] := by
 have h := three_C (Kd.C_below h0 (Qaa (Below.refl _ _) (.cells #[.string n, .int .i64 v] 62))) e0 (one_C w1 ⟨n, v⟩) (Nat.le_refl 1) (Kd.C_below h2 (Qaa (Below.refl _ _) (.cells #[.string n, .int .i64 v] 62))) e2 t
 rw [World.size_alloc] at h
 exact h
set_option maxHeartbeats 4000000 in
theorem put_walk (A : Option Addr) (c : Nat) (l : List S62) (n : ByteArray) (v : Int) (w : World) (hr : Kd.C k62 w A l.length l) (hc : l.length ≤ c) (hs : Srt l) (hl : l.length < 1000000) :
  Calls Tryz.prog 94 #[.slice A l.length c, .agg #[.string n, .int .i64 v]] w fun e w' => ∃ v0_ : Value, e = .returned v0_ ∧ Kd.R k62 62 w' w.heap.size (fun _ => True) v0_ (putL l n v) ∧ Below w.heap.size w w' := by
 obtain ⟨i0, hi0, hz0, hz1, hz2⟩ := info_parts infoE
 have hf := find_eq n hs zq3
 have hfl := fI_le l n
 obtain ⟨k, hk⟩ : ∃ k, fI l n = k := ⟨_, rfl⟩
 have hcut : ∀ W : World, (Instr.slice 50 (.slice A l.length c) (some (.int .i64 (k : Int))) none none).run Tryz.prog W = .ok (.slice (if c = k then A else A.map (·.add (k * 2))) (l.drop k).length (c - k)) W := by
  intro W
  have h := cut_from (P := Tryz.prog) 50 62 .i64 Tryz.underlying50 hi0 2 hz1 A l.length c (k : Int) zq3 zq3 W
  rw [Int.toNat_natCast] at h
  rw [h, List.length_drop]
 have hC1 := Kd.C_drop hr (m := k) zq3 hc
 have hC0 := Kd.C_take hr (m := k) zq3
 have hcut0 : ∀ W : World, (Instr.slice 50 (.slice A l.length c) none (some (.int .i64 (k : Int))) none).run Tryz.prog W = .ok (.slice A (l.take k).length c) W := by
  intro W
  have h := cut_to (P := Tryz.prog) 50 62 .i64 Tryz.underlying50 hi0 A l.length c (k : Int) zq3 zq3 hc W
  rw [Int.toNat_natCast] at h
  rw [h, List.length_take, Nat.min_eq_left zq3]
 have hcd : (l.drop k).length ≤ c - k := by rw [List.length_drop]; omega
 have hct : (l.take k).length ≤ c := by rw [List.length_take]; omega
 generalize hA1 : (if c = k then A else A.map (·.add (k * 2))) = A1 at hcut
 have hC1' : Kd.C k62 w A1 (l.drop k).length (l.drop k) := by rw [← hA1]; exact hC1
 rw [hk] at hf
 have hput : putL l n v = l.take k ++ ⟨n, v⟩ :: (if fB l n = true then l.drop (k + 1) else l.drop k) := by unfold putL; rw [hk]
 have hd1 : l.drop (k + 1) = (l.drop k).drop 1 := by rw [List.drop_drop]
 have hpos : fB l n = true → 1 ≤ (l.drop k).length := fun h => by
  obtain ⟨h2, _⟩ := fB_lt h
  rw [List.length_drop]
  omega
 rw [hd1] at hput
 have hdl : (l.drop k).length ≤ l.length := by rw [List.length_drop]; omega
 have htl : (l.take k).length ≤ l.length := by rw [List.length_take]; omega
 clear hA1 hC1
 obtain ⟨la, hla⟩ : ∃ la, l.take k = la := ⟨_, rfl⟩
 obtain ⟨lb, hlb⟩ : ∃ lb, l.drop k = lb := ⟨_, rfl⟩
 rw [hla] at hput htl hC0 hct hcut0
 rw [hlb] at hput hdl hC1' hcd hcut hpos
 have HR := am hr
 have HC0 := am hC0
 have HC1 := am hC1'
 have HF := am hf
 have HP := am hpos
 clear hr hC0 hC1' hf hk hla hlb hd1 hpos
 by_cases hb : fB l n = true
 ·
  have hp1 := HP.out hb
  rw [hb] at HF hput
  rw [if_pos rfl] at hput
  have hcut2 : ∀ W : World, (Instr.slice 50 (.slice A1 lb.length (c - k)) (some (.int .i64 1)) none none).run Tryz.prog W = .ok (.slice (if c - k = 1 then A1 else A1.map (·.add (1 * 2))) (lb.drop 1).length (c - k - 1)) W := by
   intro W
   have h := cut_from (P := Tryz.prog) 50 62 .i64 Tryz.underlying50 hi0 2 hz1 A1 lb.length (c - k) 1 zq3 zq3 W
   rw [h, List.length_drop]
   rfl
  have hC2 := Kd.C_drop HC1.out (m := 1) zq3 hcd
  have hce : (lb.drop 1).length ≤ c - k - 1 := by rw [List.length_drop]; omega
  have hll : (lb.drop 1).length ≤ lb.length := by rw [List.length_drop]; omega
  generalize hA2 : (if c - k = 1 then A1 else A1.map (·.add (1 * 2))) = A2 at hcut2
  have hC2' : Kd.C k62 w A2 (lb.drop 1).length (lb.drop 1) := by rw [← hA2]; exact hC2
  obtain ⟨lc, hlc⟩ : ∃ lc, lb.drop 1 = lc := ⟨_, rfl⟩
  rw [hlc] at hC2' hce hcut2 hput hll
  clear hC2 hA2 hlc
  have HC2 := am hC2'
  have hcat := concat3 la [⟨n, v⟩] lc (by simp only [List.length_singleton]; omega)
  rw [hput]
  have HCAT := am hcat
  clear hb hput hcat hC2'
  go_enter Tryz.func94, Tryz.ntmps94
  go_wp2_with (go_at_call 66; refine (dirent_Find.calls _ _ l n _ _ _ (Kd.C_below HR.out (Qaa (Below.refl _ _) _)) hc HF.out).mono ?_; rintro e w1 ⟨rfl, hb⟩; have HB := am (Qa (Qaa (Below.refl _ _) _) hb); have ht0 : w1.cell? ⟨w.heap.size, 0, none⟩ = some (.string n) := (hb.cell zq14).trans (by go_simp); have ht1 : w1.cell? ⟨w.heap.size, 1, none⟩ = some (.int .i64 v) := (hb.cell zq14).trans (by go_simp); have hlt1 : w.heap.size < w1.heap.size := World.block_lt_of_cell? _ _ ht0; clear hb)
  go_region_held3 (fun w' => w'.cell? ⟨w.heap.size, 0, none⟩ = some (.string n) ∧ w'.cell? ⟨w.heap.size, 1, none⟩ = some (.int .i64 v)) (go_keep)
   (first | (go_at_call 105; (with_reducible refine (conc3 _ la [⟨n, v⟩] lc _ _ HCAT.out ?_).mono ?_); (exact args_C (Kd.C_below HC0.out HB.out) hct (Kd.C_below HC2.out HB.out) hce n v _); rintro e w2 ⟨v0, rfl, hr, hb⟩; have HR2 := am hr; have HB2 := am hb; have hy0 := hb.cell (p := ⟨w.heap.size, 0, none⟩) zq20; have hy1 := hb.cell (p := ⟨w.heap.size, 1, none⟩) zq20; clear hr hb))
  go_wp2
  go_ret
  refine ⟨_, rfl, ?_, ?_⟩
  · exact Kd.R_lower HR2.out zq20
  · exact Qa (Qa HB.out (Qad (Qaa (Qaa (Below.refl _ _) _) _))) HB2.out
 ·
  replace hb : fB l n = false := by simpa using hb
  rw [hb] at HF hput
  rw [if_neg zq9] at hput
  have hcat := concat3 la [⟨n, v⟩] lb (by simp only [List.length_singleton]; omega)
  rw [hput]
  have HCAT := am hcat
  clear hb hput hcat
  go_enter Tryz.func94, Tryz.ntmps94
  go_wp2_with (go_at_call 66; refine (dirent_Find.calls _ _ l n _ _ _ (Kd.C_below HR.out (Qaa (Below.refl _ _) _)) hc HF.out).mono ?_; rintro e w1 ⟨rfl, hb⟩; have HB := am (Qa (Qaa (Below.refl _ _) _) hb); have ht0 : w1.cell? ⟨w.heap.size, 0, none⟩ = some (.string n) := (hb.cell zq14).trans (by go_simp); have ht1 : w1.cell? ⟨w.heap.size, 1, none⟩ = some (.int .i64 v) := (hb.cell zq14).trans (by go_simp); have hlt1 : w.heap.size < w1.heap.size := World.block_lt_of_cell? _ _ ht0; clear hb)
  go_region_held3 (fun w' => w'.cell? ⟨w.heap.size, 0, none⟩ = some (.string n) ∧ w'.cell? ⟨w.heap.size, 1, none⟩ = some (.int .i64 v)) (go_keep)
   (first | (go_at_call 105; (with_reducible refine (conc3 _ la [⟨n, v⟩] lb _ _ HCAT.out ?_).mono ?_); (exact args_C (Kd.C_below HC0.out HB.out) hct (Kd.C_below HC1.out HB.out) hcd n v _); rintro e w2 ⟨v0, rfl, hr, hb⟩; have HR2 := am hr; have HB2 := am hb; have hy0 := hb.cell (p := ⟨w.heap.size, 0, none⟩) zq20; have hy1 := hb.cell (p := ⟨w.heap.size, 1, none⟩) zq20; clear hr hb))
  go_wp2
  go_ret
  refine ⟨_, rfl, ?_, ?_⟩
  · exact Kd.R_lower HR2.out zq20
  · exact Qa (Qa HB.out (Qad (Qaa (Qaa (Below.refl _ _) _) _))) HB2.out
end
end Go.Proofs.YtbhjggbijkjmnaaGreatDoor.PZ
end
