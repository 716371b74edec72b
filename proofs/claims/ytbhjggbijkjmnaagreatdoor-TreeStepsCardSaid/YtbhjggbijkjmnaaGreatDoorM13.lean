import Derived.Test.YtbhjggbijkjmnaaGreatDoorM12
import Derived.Test.YtbhjggbijkjmnaaGreatDoorM04
import Derived.Test.YtbhjggbijkjmnaaGreatDoorM11
import Derived.Deep.RegionHeld3
set_option linter.unusedVariables false
set_option linter.unusedSimpArgs false
section
namespace Go.Proofs.YtbhjggbijkjmnaaGreatDoor.PZ
open Go.RowKit Go.Proofs.YtbhjggbijkjmnaaGreatDoorW.PrintWords Go.Proofs.YtbhjggbijkjmnaaGreatDoorW.PrintLast Go.Proofs.YtbhjggbijkjmnaaGreatDoorW.PrintMore Go.Proofs.YtbhjggbijkjmnaaGreatDoor.B Go.Proofs.YtbhjggbijkjmnaaGreatDoor.Ord TD
set_option maxRecDepth 100000
section
attribute [local go_sem ↓] Go.wp_at_zero Go.wp_at_succ
theorem Qer (B b : Nat) (l : List S52) (rest : List Value) (d : Nat) (nm : ByteArray) (x : Int) (k : Nat) (w : World) (hd : d < l.length) (hst : St B b l rest w) (ho : Ok l) (hk : k < 1000000) :
  Calls Tryz.prog 76 #[.pointer (some ⟨b, 0, none⟩), .agg #[.int .i64 d, .string nm, .int .i64 x], .int .i64 k] w fun en w' => en = .returned (.tuple #[]) ∧ St B b (putT l d nm k) rest w' ∧ BW B w w' := by
 obtain ⟨hBb, v, hw, hS⟩ := hst
 have hbl := Qai hw
 obtain ⟨g, cap, rfl, hBg, hgl, -⟩ := Kd.S_form hS zq3
 obtain ⟨v2, v3, h0, h1, h2, h3, hd2, hd3, hfr, hgb, -, hput, -⟩ := Qdf hbl hS d hd zq3
 obtain ⟨A3, c3, rfl, hl3, hC3⟩ := Kd.R_reads hd3
 have hk0 : w.cell? ⟨b, 0, none⟩ = some (.slice (some ⟨g, 0, none⟩) l.length cap) := (Qab hw 0).trans rfl
 have hsm := ho.small d
 have hsr := ho.wf.srt d
 have HC := am hC3
 have HP := am hput
 have HW := am hw
 have HSG := am hS
 have HSR := am hsr
 have hf3 := hfr 3
 have hz0 : (0 : Int) ≤ (d : Int) := by omega
 have hz1 : (d : Int) < (l.length : Int) := by omega
 clear hS hw hd2 hd3 hC3 hput hsr ho
 go_enter Tryz.func76, Tryz.ntmps76
 go_wp2
 have hgs : w.heap.size ≠ b := by omega
 have hgt : w.heap.size ≠ g := by omega
 go_region_held3 (fun w' => w'.cell? ⟨b, 0, none⟩ = some (.slice (some ⟨g, 0, none⟩) l.length cap) ∧ w'.cell? ⟨w.heap.size, 0, none⟩ = some (.int .i64 (d : Int))) (go_keep) (fail)
 go_wp2
 have HWT := am (Qal w (.cells #[.int .i64 (d : Int), .string nm, .int .i64 x] 92))
 have HB := am (Qad (Qaa (Below.refl w.heap.size w) (.cells #[.int .i64 (d : Int), .string nm, .int .i64 x] 92)))
 go_region_with (first | (go_at_call 94; (with_reducible refine (put_walk A3 c3 (nd l d).f3 nm k _ ?_ ?_ ?_ ?_).mono ?_); (exact Kd.C_below HC.out zq12); (exact hl3); (exact HSR.out); (omega); rintro e w2 ⟨v0, rfl, hr, hb⟩; obtain ⟨A4, c4, rfl, hl4, -⟩ := Kd.R_reads hr; have HR2 := am hr; have HB2 := am (Qa zq12 hb); have hy1 : w2.cell? ⟨w.heap.size, 1, none⟩ = some (.string nm) := (hb.cell (p := ⟨w.heap.size, 1, none⟩) zq14).trans (by go_simp); have hy3 : w2.cell? ⟨g, d * 4 + 3, none⟩ = some (.slice A3 (nd l d).f3.length c3) := (HB2.out.cell (p := ⟨g, d * 4 + 3, none⟩) hgl).trans h3; have hyf : w2.frozen? ⟨g, d * 4 + 3, none⟩ = false := (HB2.out.frozen (p := ⟨g, d * 4 + 3, none⟩) hgl).trans hf3; have HKP : ∀ v, Aside0 ((w2.setCell ⟨g, d * 4 + 3, none⟩ v).cell? ⟨w.heap.size, 1, none⟩ = some (.string nm)) := fun v => ⟨(cell_far (W := w2) (p := ⟨g, d * 4 + 3, none⟩) (a := ⟨w.heap.size, 1, none⟩) hgt v).trans hy1⟩; clear hr hb))
 all_goals go_wp2
 all_goals go_end0
 all_goals refine ⟨rfl, ⟨hBb, _, Qam (p := ⟨g, d * 4 + 3, none⟩) (Qaf HW.out HB2.out) (Ne.symm hgb) _, HP.out w2 _ _ HB2.out (Kd.R_lower HR2.out zq14)⟩, ?_⟩
 all_goals exact (BW.mono HB2.out zq3).setN hBg (Kd.S_below HSG.out HB2.out) (d * 4 + 3) _
theorem Qez (B b : Nat) (l : List S52) (rest : List Value) (d : Nat) (nm : ByteArray) (x : Int) (w : World) (hd : d < l.length) (hst : St B b l rest w) (ho : Ok l) :
  Calls Tryz.prog 77 #[.pointer (some ⟨b, 0, none⟩), .agg #[.int .i64 d, .string nm, .int .i64 x]] w fun en w' => en = .returned (.tuple #[]) ∧ St B b (cutT l d nm) rest w' ∧ BW B w w' ∧ (∀ g n c, w.cell? ⟨b, 0, none⟩ = some (.slice (some ⟨g, 0, none⟩) n c) → ∀ p : Addr, p.block < w.heap.size → p.block ≠ g → w'.cell? p = w.cell? p) := by
 obtain ⟨hBb, v, hw, hS⟩ := hst
 have hbl := Qai hw
 obtain ⟨g, cap, rfl, hBg, hgl, -⟩ := Kd.S_form hS zq3
 obtain ⟨v2, v3, h0, h1, h2, h3, hd2, hd3, hfr, hgb, -, hput, -⟩ := Qdf hbl hS d hd zq3
 obtain ⟨A3, c3, rfl, hl3, hC3⟩ := Kd.R_reads hd3
 have hk0 : w.cell? ⟨b, 0, none⟩ = some (.slice (some ⟨g, 0, none⟩) l.length cap) := (Qab hw 0).trans rfl
 have hsm := ho.small d
 have hsr := ho.wf.srt d
 have HC := am hC3
 have HP := am hput
 have HW := am hw
 have HSG := am hS
 have HSR := am hsr
 have hf3 := hfr 3
 have hz0 : (0 : Int) ≤ (d : Int) := by omega
 have hz1 : (d : Int) < (l.length : Int) := by omega
 clear hS hw hd2 hd3 hC3 hput hsr ho
 go_enter Tryz.func77, Tryz.ntmps77
 go_wp2
 have hgs : w.heap.size ≠ b := by omega
 have hgt : w.heap.size ≠ g := by omega
 go_region_held3 (fun w' => w'.cell? ⟨b, 0, none⟩ = some (.slice (some ⟨g, 0, none⟩) l.length cap) ∧ w'.cell? ⟨w.heap.size, 0, none⟩ = some (.int .i64 (d : Int))) (go_keep) (fail)
 go_wp2
 have HWT := am (Qal w (.cells #[.int .i64 (d : Int), .string nm, .int .i64 x] 92))
 have HB := am (Qad (Qaa (Below.refl w.heap.size w) (.cells #[.int .i64 (d : Int), .string nm, .int .i64 x] 92)))
 go_region_with (first | (go_at_call 95; (with_reducible refine (dirent_Cut.calls A3 c3 (nd l d).f3 nm _ _ ?_ ?_ (cut_eq (nd l d).f3 nm ?_)).mono ?_); (exact Kd.C_below HC.out zq12); (exact hl3); (omega); rintro e w2 ⟨v0, rfl, hr, hb⟩; obtain ⟨A4, c4, rfl, hl4, -⟩ := Kd.R_reads hr; have HR2 := am hr; have HB2 := am (Qa zq12 hb); have hy1 : w2.cell? ⟨w.heap.size, 1, none⟩ = some (.string nm) := (hb.cell (p := ⟨w.heap.size, 1, none⟩) zq14).trans (by go_simp); have hy3 : w2.cell? ⟨g, d * 4 + 3, none⟩ = some (.slice A3 (nd l d).f3.length c3) := (HB2.out.cell (p := ⟨g, d * 4 + 3, none⟩) hgl).trans h3; have hyf : w2.frozen? ⟨g, d * 4 + 3, none⟩ = false := (HB2.out.frozen (p := ⟨g, d * 4 + 3, none⟩) hgl).trans hf3; have HKP : ∀ v, Aside0 ((w2.setCell ⟨g, d * 4 + 3, none⟩ v).cell? ⟨w.heap.size, 1, none⟩ = some (.string nm)) := fun v => ⟨(cell_far (W := w2) (p := ⟨g, d * 4 + 3, none⟩) (a := ⟨w.heap.size, 1, none⟩) hgt v).trans hy1⟩; clear hr hb))
 all_goals go_wp2
 all_goals go_end0
 all_goals refine ⟨rfl, ⟨hBb, _, Qam (p := ⟨g, d * 4 + 3, none⟩) (Qaf HW.out HB2.out) (Ne.symm hgb) _, HP.out w2 _ _ HB2.out (Kd.R_lower HR2.out zq14)⟩, (BW.mono HB2.out zq3).setN hBg (Kd.S_below HSG.out HB2.out) (d * 4 + 3) _, ?_⟩
 all_goals exact fun g' n' c' hg' p hp hne => (cell_far (p := ⟨g, d * 4 + 3, none⟩) (by rw [hk0] at hg'; injection hg' with hg'; injection hg' with hg'; injection hg' with hg'; injection hg' with hg'; rw [← hg'] at hne; exact hne) _).trans (HB2.out.cell hp)
theorem mcut_walk (B b : Nat) (l : List S52) (rest : List Value) (d : Nat) (nm : ByteArray) (x : Int) (w : World) (hd : d < l.length) (hst : St B b l rest w) (ho : Ok l) :
  Calls Tryz.prog 77 #[.pointer (some ⟨b, 0, none⟩), .agg #[.int .i64 d, .string nm, .int .i64 x]] w fun en w' => en = .returned (.tuple #[]) ∧ St B b (cutT l d nm) rest w' ∧ BW B w w' :=
 (Qez B b l rest d nm x w hd hst ho).mono fun _ _ h => ⟨h.1, h.2.1, h.2.2.1⟩
theorem to_names (b : Nat) (p : ByteArray) (ns : List ByteArray) (n : Int) (w : World) (hp : p.size < 10000000) (hs : Qah p = (ns, n)) (hn : ¬ n = 0) :
  Calls Tryz.prog 74 #[.pointer (some ⟨b, 0, none⟩), .string p] w fun en w' => en = .panicked (wrong n) ∧ Below w.heap.size w w' := by
 have HS := am hs
 clear hs
 go_enter Tryz.func74, Tryz.ntmps74
 go_wp2_with (go_at_call 34; refine (names_out p ns n _ hp HS.out hn).mono ?_; rintro e w1 ⟨rfl, hb⟩)
 exact ⟨rfl, rfl, Qa (Qaa (Below.refl _ _) _) hb⟩
theorem Qcn {p : ByteArray} (h : (Qah p).2 = 0) (h2 : (Qah p).1 = []) : p = rootP := by
 have h1 : (Qfp p.data.toList).1 = [] := List.map_eq_nil_iff.1 h2
 have h' : (Qfp p.data.toList).2 = 0 := h
 refine data_inj ?_
 show p.data.toList = [47]
 revert h1 h'
 cases p.data.toList with
 | nil => intro _ h; exact absurd h zq9
 | cons c r =>
  rw [Qea]
  split
  ·
   rename_i hc
   split
   ·
    rename_i hr
    intro _ _
    rw [hc, hr]
   ·
    split
    ·
     intro h1 _
     obtain ⟨p, q, he⟩ := pieces_ne r
     rw [he] at h1
     cases h1
    · intro _ h; exact absurd h zq9
  · intro _ h; exact absurd h zq9
theorem splitA_root : Qah rootP = ([], 0) := rfl
theorem Qcb (B b : Nat) (l : List S52) (rest : List Value) (p : ByteArray) (w : World) (hst : St B b l rest w) (ho : Ok l) (hp : p.size < 10000000) (hr : p ≠ rootP) :
  Calls Tryz.prog 74 #[.pointer (some ⟨b, 0, none⟩), .string p] w fun en w' => (match spotF l p with | .inl s => en = .returned (spotV s) | .inr n => en = .panicked (wrong n)) ∧ Below w.heap.size w w' := by
 obtain ⟨hBb, v, hw, hS⟩ := hst
 obtain ⟨A, cap, rfl, hcap, hC⟩ := Kd.S_reads hS
 by_cases h0 : (Qah p).2 = 0
 ·
  have hne : (Qah p).1 ≠ [] := fun h => hr (Qcn h0 h)
  have hs : Qah p = ((Qah p).1.dropLast ++ [(Qah p).1.getLastD ByteArray.empty], 0) := by
   refine Prod.ext ?_ h0
   show (Qah p).1 = (Qah p).1.dropLast ++ [(Qah p).1.getLastD ByteArray.empty]
   have := List.dropLast_concat_getLast hne
   rw [List.getLastD_eq_getLast?, List.getLast?_eq_some_getLast hne]
   exact this.symm
  unfold spotF
  rw [if_pos h0]
  generalize (Qah p).1.dropLast = q at *
  generalize (Qah p).1.getLastD ByteArray.empty = nm at *
  cases hk : wk l q 0 with
  | inr n => exact to_out b A cap l rest p q nm n w hw hC ho hp hs hk
  | inl d =>
   dsimp only
   by_cases hd : (nd l d).f0 = 2
   ·
    rw [if_pos hd]
    exact to_in b A cap l rest p q nm d w hw hC ho hp hs hk hd _ rfl
   ·
    rw [if_neg hd]
    exact to_file b A cap l rest p q nm d w hw hC ho hp hs hk (beq_eq_false_iff_ne.2 hd)
 ·
  unfold spotF
  rw [if_neg h0]
  exact to_names b p (Qah p).1 (Qah p).2 w hp rfl h0
theorem Qaq (B b : Nat) (l : List S52) (rest : List Value) (An : Option Addr) (cn : Nat) (p : ByteArray) (w : World) (hst : St B b l rest w) (ho : Ok l) (hn : Kd.C Kd.string w An (Qah p).1.length (Qah p).1) (hcn : (Qah p).1.length ≤ cn) :
  Calls Tryz.prog 33 #[.pointer (some ⟨b, 0, none⟩), .slice An (Qah p).1.length cn] w fun en w' => (match wk l (Qah p).1 0 with | .inl k => en = .returned (.int .i64 k) | .inr n => en = .panicked (wrong n)) ∧ Below w.heap.size w w' := by
 obtain ⟨hBb, v, hw, hS⟩ := hst
 obtain ⟨A, cap, rfl, hcap, hC⟩ := Kd.S_reads hS
 have hlen : (Qah p).1.length < 1000000000 := by have := Qbi p; omega
 cases hk : wk l (Qah p).1 0 with
 | inr n => exact walk_out b A cap l rest An cn (Qah p).1 n w hw hC hn hcn hlen ho hk
 | inl k => exact walk_st b A cap l rest An cn (Qah p).1 k w hw hC hn hcn hlen ho hk
theorem Qak (p : ByteArray) (w : World) (hp : p.size < 10000000) :
  Calls Tryz.prog 34 #[.string p] w fun en w' => (if (Qah p).2 = 0 then ∃ A c, en = .returned (.slice A (Qah p).1.length c) ∧ (Qah p).1.length ≤ c ∧ Kd.C Kd.string w' A (Qah p).1.length (Qah p).1 else en = .panicked (wrong (Qah p).2)) ∧ Below w.heap.size w w' := by
 by_cases h : (Qah p).2 = 0
 ·
  refine (names_in p (Qah p).1 w hp (Prod.ext rfl h)).mono ?_
  rintro e w1 ⟨v, rfl, hr, hb⟩
  obtain ⟨A, c, rfl, hl, hC⟩ := Kd.R_reads hr
  rw [if_pos h]
  exact ⟨⟨A, c, rfl, hl, hC⟩, hb⟩
 ·
  refine (names_out p _ _ w hp rfl h).mono ?_
  rintro e w1 ⟨rfl, hb⟩
  rw [if_neg h]
  exact ⟨rfl, hb⟩
end
theorem Rt.ok {l : List S52} (h : Rt l) : Ok l := ⟨h.pr.wf, fun k => by have := h.pr.ents k; omega, by have := h.pr.le; omega⟩
theorem last_name {p : ByteArray} (h0 : (Qah p).2 = 0) (hr : (Qah p).1 ≠ []) : nameB ((Qah p).1.getLastD ByteArray.empty) = true := by
 have h := Qg p h0
 have hm : (Qah p).1.getLastD ByteArray.empty ∈ (Qah p).1 := by
  rw [List.getLastD_eq_getLast?, List.getLast?_eq_some_getLast hr]
  exact List.getLast_mem hr
 unfold Qf at h
 rw [Bool.and_eq_true] at h
 exact List.all_eq_true.1 h.2 _ hm
theorem ups_zero {l : List S52} (hw : Wf l) : ups l l.length = 0 := by
 rw [Qdj]
 rcases Nat.eq_zero_or_pos ((List.range l.length).map (fun x => cnt l x l.length)).sum with h1 | h1
 · exact h1
 ·
  exfalso
  have h2 : ∀ m : List Nat, (∀ x ∈ m, cnt l x l.length = 0) → (m.map (fun x => cnt l x l.length)).sum = 0 := by
   intro m
   induction m with
   | nil => intro _; rfl
   | cons x m ih =>
    intro hm
    rw [List.map_cons, List.sum_cons, hm x List.mem_cons_self, ih (fun y hy => hm y (List.mem_cons_of_mem _ hy))]
  have h3 := h2 (List.range l.length) (fun x _ => by
   unfold cnt
   rw [List.countP_eq_zero]
   intro e he
   have := (hw.ino_lt he).1
   simp
   omega)
  omega
theorem putT_app {l : List S52} {d : Nat} (hd : d < l.length) (n : ByteArray) (k : Nat) (x : S52) : putT l d n k ++ [x] = putT (l ++ [x]) d n k := by
 unfold putT setE
 have h : nd (l ++ [x]) d = nd l d := by rw [Qep, if_neg zq3]
 rw [h, List.set_append_left _ _ hd]
theorem create_pr {l l' : List S52} {p : ByteArray} {kd : Int} (h : Rt l) (hk : kd = 1 ∨ kd = 2) (hc : Qdc l p kd = .inl l') : Pr l' := by
 unfold Qdc at hc
 split at hc
 · cases hc
 rename_i hr
 split at hc
 · cases hc
 · cases hc
 rename_i d nm hs
 split at hc
 · cases hc
 rename_i hf
 split at hc
 ·
  rename_i hl
  injection hc with hc
  subst hc
  obtain ⟨q, hq, hw, hnm, hd, hdl, ho⟩ := Qbb hs
  rw [putT_app hdl]
  have hpa := h.pr.app hk hl
  have hnd : nd (l ++ [⟨kd, 0, [], []⟩]) d = nd l d := by rw [Qep, if_neg zq3]
  have hlk : look (nd l d).f3 nm = none := by
   cases hh : look (nd l d).f3 nm with
   | none => rfl
   | some e => rw [hh] at ho; cases ho
  have hct : cutT (l ++ [⟨kd, 0, [], []⟩]) d nm = l ++ [⟨kd, 0, [], []⟩] := cutT_none (by rw [List.length_append]; omega) (by rw [hnd]; exact hlk)
  have hu0 : ups (l ++ [⟨kd, 0, [], []⟩]) l.length = 0 := by
   rw [ups_app]
   exact ups_zero h.pr.wf
  refine hpa.put (by rw [hnd]; exact hd) ?_ h.pr.wf.pos zq14 ?_ (fun _ => ?_) (fun _ => ?_)
  ·
   have h0 : (Qah p).2 = 0 := by rw [hq]
   rw [hnm, show q = (Qah p).1 by rw [hq]]
   exact last_name h0 (fun he => hr (Qcn h0 he))
  ·
   rw [hnd, cut_none hlk]
   have := fullB_f (Bool.not_eq_true _ |>.mp hf)
   have h2 := of_decide_eq_false (Bool.not_eq_true _ |>.mp hf)
   omega
  · rw [hct, hu0]; omega
  · rw [hct, hu0]
 · cases hc
theorem file_one {l : List S52} (h : Rt l) {k : Nat} (hk : k < l.length) (hd : (nd l k).f0 ≠ 2) : (nd l k).f0 = 1 ∧ 1 ≤ k := by
 refine ⟨(h.pr.kind k hk).resolve_right hd, ?_⟩
 rcases Nat.eq_zero_or_pos k with h0 | h0
 ·
  subst h0
  exact absurd h.pr.wf.root hd
 · exact h0
theorem spot_free {l : List S52} {p : ByteArray} {d : Nat} {nm : ByteArray} (h : spotF l p = .inl (d, nm, none)) : look (nd l d).f3 nm = none := by
 obtain ⟨q, hq, hw, hnm, hd, hdl, ho⟩ := Qbb h
 cases hh : look (nd l d).f3 nm with
 | none => rfl
 | some e => rw [hh] at ho; cases ho
theorem spot_name {l : List S52} {p : ByteArray} {d : Nat} {nm : ByteArray} {o : Option Nat} (h : spotF l p = .inl (d, nm, o)) (hr : p ≠ rootP) : nameB nm = true := by
 obtain ⟨q, hq, hw, hnm, hd, hdl, ho⟩ := Qbb h
 have h0 : (Qah p).2 = 0 := by rw [hq]
 rw [hnm, show q = (Qah p).1 by rw [hq]]
 exact last_name h0 (fun he => hr (Qcn h0 he))
theorem full_lt {l : List S52} {d : Nat} (hf : ¬ fullB l d = true) : (nd l d).f3.length < 64 := by
 have h2 := of_decide_eq_false (Bool.not_eq_true _ |>.mp hf)
 omega
theorem fileF_lt0 {l : List S52} {p : ByteArray} {k : Nat} (ho : Ok l) (h : fileF l p = .inl k) : k < l.length ∧ (nd l k).f0 ≠ 2 ∧ (Qah p).2 = 0 ∧ wk l (Qah p).1 0 = .inl k := by
 unfold fileF Qav at h
 by_cases h0 : (Qah p).2 = 0
 ·
  rw [if_pos h0] at h
  cases hk : wk l (Qah p).1 0 with
  | inr n => rw [hk] at h; cases h
  | inl j =>
   rw [hk] at h
   dsimp only at h
   split at h
   · cases h
   ·
    rename_i hn
    injection h with h
    subst h
    exact ⟨wk_lt ho.wf ho.wf.pos hk, hn, h0, rfl⟩
 ·
  rw [if_neg h0] at h
  cases h
theorem link_pr {l l' : List S52} {p q : ByteArray} (h : Rt l) (hc : linkF l p q = .inl l') : Pr l' := by
 unfold linkF at hc
 split at hc
 · cases hc
 split at hc
 · cases hc
 split at hc
 · cases hc
 rename_i k hk
 split at hc
 · cases hc
 rename_i hd
 split at hc
 · cases hc
 rename_i hr
 split at hc
 · cases hc
 · cases hc
 rename_i d nm hs
 split at hc
 ·
  rename_i hl
  split at hc
  · cases hc
  ·
   rename_i hf
   injection hc with hc
   subst hc
   have hkl := wk_lt h.pr.wf h.pr.wf.pos hk
   obtain ⟨h1, hk1⟩ := file_one h hkl hd
   have hsp := Qbb hs
   have hdl := hsp.choose_spec.2.2.2.2.1
   have hct := cutT_none hdl (spot_free hs)
   have hown := h.own k hkl
   unfold own at hown
   rw [if_neg hd] at hown
   refine h.pr.put hsp.choose_spec.2.2.2.1 (spot_name hs hr) hk1 hkl (by rw [cut_none (spot_free hs)]; exact full_lt hf) (fun _ => ?_) (fun h2 => absurd h2 hd)
   rw [hct]
   omega
 · cases hc
theorem unlink_pr {l l' : List S52} {p : ByteArray} (h : Rt l) (hc : Qek l p = .inl l') : Pr l' := by
 unfold Qek at hc
 split at hc
 · cases hc
 split at hc
 · cases hc
 split at hc
 · cases hc
 rename_i hs
 injection hc with hc
 subst hc
 exact h.pr.cut (Qbb hs).choose_spec.2.2.2.1 _
theorem rmdir_pr {l l' : List S52} {p : ByteArray} (h : Rt l) (hc : Qgq l p = .inl l') : Pr l' := by
 unfold Qgq at hc
 split at hc
 · cases hc
 split at hc
 ·
  split at hc
  · cases hc
  split at hc
  · cases hc
  rename_i hs
  injection hc with hc
  subst hc
  exact h.pr.cut (Qbb hs).choose_spec.2.2.2.1 _
 · cases hc
theorem Qcf (b : List Int) (n : Nat) : (Qcq b n).length = n := by
 unfold Qcq
 rw [List.length_append, List.length_take, List.length_replicate]
 omega
theorem overF_len (b x : List Int) (a : Nat) (h : a + x.length ≤ b.length) : (overF b a x).length = b.length := by
 unfold overF
 rw [List.length_append, List.length_append, List.length_take, List.length_drop]
 omega
theorem trunc_rt {l l' : List S52} {p : ByteArray} {n : Int} (h : Rt l) (hc : Qgo l p n = .inl l') : Rt l' := by
 unfold Qgo at hc
 split at hc
 · cases hc
 rename_i k hk
 split at hc
 ·
  rename_i hn
  injection hc with hc
  subst hc
  obtain ⟨hkl, hd, -, -⟩ := fileF_lt0 h.ok hk
  exact h.setD hkl hd (by rw [Qcf]; omega)
 · cases hc
theorem write_rt {l l' : List S52} {p : ByteArray} {a : Int} {x : List Int} (h : Rt l) (hc : Qfz l p a x = .inl l') : Rt l' := by
 unfold Qfz at hc
 split at hc
 · cases hc
 rename_i k hk
 split at hc
 ·
  rename_i hn
  injection hc with hc
  obtain ⟨hkl, hd, -, -⟩ := fileF_lt0 h.ok hk
  split at hc
  · subst hc; exact h
  ·
   subst hc
   have hs := h.pr.size k
   refine h.setD hkl hd ?_
   rw [overF_len _ _ _ (by rw [Qcf]; omega), Qcf]
   omega
 · cases hc
theorem spot_at {l : List S52} {p : ByteArray} {d : Nat} {nm : ByteArray} {o : Option Nat} (h : spotF l p = .inl (d, nm, o)) (hr : p ≠ rootP) :
  ∃ q, Qah p = (q ++ [nm], 0) ∧ wk l q 0 = .inl d ∧ (nd l d).f0 = 2 ∧ nameB nm = true ∧ o = (look (nd l d).f3 nm).map ino := by
 obtain ⟨q, hq, hw, hnm, hd, hdl, ho⟩ := Qbb h
 have h0 : (Qah p).2 = 0 := by rw [hq]
 have hne : q ≠ [] := fun he => hr (Qcn h0 (by rw [hq]; exact he))
 refine ⟨q.dropLast, ?_, hw, hd, spot_name h hr, ho⟩
 rw [hq, hnm, List.getLastD_eq_getLast?, List.getLast?_eq_some_getLast hne]
 exact Prod.ext (List.dropLast_concat_getLast hne).symm rfl
theorem within_prefix {a b : ByteArray} {x y : List ByteArray} (ha : Qah a = (x, 0)) (hb : Qah b = (y, 0)) (h : y <+: x) : Qbt a b = true := by
 unfold Qbt withB
 rw [ha, hb]
 obtain ⟨t, rfl⟩ := h
 simp
theorem rename_mv {l l' : List S52} {p q : ByteArray} (h : Rt l) (hc : Qbz l p q = .inl l') :
  p ≠ rootP ∧ q ≠ rootP ∧ ∃ k a b, wk l (Qah p).1 0 = .inl k ∧ spotF l p = .inl a ∧ spotF l q = .inl b ∧ (Qah p).2 = 0 ∧ (Qah q).2 = 0 ∧
   ((b.2.2 = some k ∧ l' = l) ∨ (b.2.2 ≠ some k ∧ ∃ fp tp, Qah p = (fp ++ [a.2.1], 0) ∧ Qah q = (tp ++ [b.2.1], 0) ∧ Mv l fp tp a.2.1 b.2.1 a.1 b.1 k ∧ l' = mvT l a.2.1 b.2.1 a.1 b.1 k)) := by
 unfold Qbz at hc
 split at hc
 · cases hc
 rename_i h0
 split at hc
 · cases hc
 rename_i h1
 split at hc
 · cases hc
 rename_i hr
 have hrp : p ≠ rootP := fun he => hr (.inl he)
 have hrq : q ≠ rootP := fun he => hr (.inr he)
 have h0 := Classical.not_not.1 h0
 have h1 := Classical.not_not.1 h1
 split at hc
 · cases hc
 rename_i k hk
 split at hc
 · cases hc
 rename_i hin
 split at hc
 · cases hc
 rename_i a ha
 split at hc
 · cases hc
 rename_i b hb
 refine ⟨hrp, hrq, k, a, b, hk, ha, hb, h0, h1, ?_⟩
 obtain ⟨ad, fn, ao⟩ := a
 obtain ⟨bd, tn, bo⟩ := b
 obtain ⟨fp, hsp, hfw, had, hfn, hao⟩ := spot_at ha hrp
 obtain ⟨tp, hsq, htw, hbd, htn, hbo⟩ := spot_at hb hrq
 dsimp only
 have hke : ∃ e, look (nd l ad).f3 fn = some e ∧ ino e = k := by
  have h2 := hk
  rw [hsp] at h2
  obtain ⟨y, e, hy, hyd, hle, hie⟩ := wk_snoc h2
  rw [hfw] at hy
  injection hy with hy
  subst hy
  exact ⟨e, hle, hie⟩
 have hnot : bo ≠ some k → (nd l k).f0 = 2 → ¬ (fp ++ [fn]) <+: (tp ++ [tn]) := by
  intro hb2 hkd hpre
  by_cases hqp : q = p
  ·
   subst hqp
   rw [hsp] at hsq
   injection hsq with he _
   have he1 := List.append_inj_left' he rfl
   have he2 := List.append_inj_right' he rfl
   injection he2 with he2 _
   subst he1 he2
   rw [hfw] at htw
   injection htw with hx
   subst hx
   obtain ⟨e, hle, hie⟩ := hke
   rw [hbo, hle] at hb2
   exact hb2 (by rw [← hie]; rfl)
  · exact hin ⟨hkd, hqp, within_prefix hsq hsp hpre⟩
 unfold moveF at hc
 dsimp only at hc
 cases bo with
 | none =>
  dsimp only at hc
  split at hc
  ·
   rename_i hroom
   injection hc with hc
   refine .inr ⟨by simp, fp, tp, hsp, hsq, ?_, hc.symm⟩
   have hno : look (nd l bd).f3 tn = none := by
    cases hh : look (nd l bd).f3 tn with
    | none => rfl
    | some e => rw [hh] at hbo; cases hbo
   refine ⟨h, hfw, had, hke, htw, hbd, htn, fun e he => ?_, fun _ => hroom.imp id (fun hf => full_lt (by rw [hf]; decide)), hnot zq14⟩
   rw [hno] at he
   cases he
  · cases hc
 | some j =>
  dsimp only at hc
  split at hc
  ·
   rename_i hj
   injection hc with hc
   exact .inl ⟨by rw [hj], hc.symm⟩
  ·
   rename_i hj
   split at hc
   · cases hc
   rename_i hk1
   split at hc
   · cases hc
   rename_i hk2
   split at hc
   · cases hc
   rename_i hk3
   injection hc with hc
   have hjk : some j ≠ some k := fun he => hj (by injection he)
   refine .inr ⟨hjk, fp, tp, hsp, hsq, ⟨h, hfw, had, hke, htw, hbd, htn, fun e he => ?_, fun hn => ?_, hnot hjk⟩, hc.symm⟩
   ·
    rw [he] at hbo
    injection hbo with hbo
    subst hbo
    refine ⟨hj, ⟨fun hx => ?_, fun hx => ?_⟩, Classical.not_not.1 hk3⟩
    · exact Classical.byContradiction fun hy => hk1 ⟨hx, hy⟩
    · exact Classical.byContradiction fun hy => hk2 ⟨hy, hx⟩
   ·
    rw [hn] at hbo
    cases hbo
theorem rename_pr {l l' : List S52} {p q : ByteArray} (h : Rt l) (hc : Qbz l p q = .inl l') : Pr l' := by
 obtain ⟨_, _, k, a, b, _, _, _, _, _, hx⟩ := rename_mv h hc
 rcases hx with ⟨_, rfl⟩ | ⟨_, fp, tp, _, _, hm, rfl⟩
 · exact h.pr
 · exact hm.pr
theorem work_pr {l l' : List S52} {o : S31} {r : S37} (h : Rt l) (hc : workF l o = .inl (l', r)) : Pr l' := by
 have hp : ∀ {X : List S52 ⊕ Int}, plain X = .inl (l', r) → X = .inl l' := by
  intro X hX
  unfold plain at hX
  cases X with
  | inl x => injection hX with hX; injection hX with hX _; rw [hX]
  | inr e => cases hX
 unfold workF at hc
 by_cases h1 : o.f0 = 1
 ·
  rw [if_pos h1] at hc
  exact create_pr h (.inl rfl) (hp hc)
 rw [if_neg h1] at hc
 by_cases h2 : o.f0 = 2
 ·
  rw [if_pos h2] at hc
  exact create_pr h (.inr rfl) (hp hc)
 rw [if_neg h2] at hc
 by_cases h3 : o.f0 = 3
 ·
  rw [if_pos h3] at hc
  exact link_pr h (hp hc)
 rw [if_neg h3] at hc
 by_cases h4 : o.f0 = 4
 ·
  rw [if_pos h4] at hc
  exact unlink_pr h (hp hc)
 rw [if_neg h4] at hc
 by_cases h5 : o.f0 = 5
 ·
  rw [if_pos h5] at hc
  exact rmdir_pr h (hp hc)
 rw [if_neg h5] at hc
 by_cases h6 : o.f0 = 6
 ·
  rw [if_pos h6] at hc
  exact rename_pr h (hp hc)
 rw [if_neg h6] at hc
 by_cases h7 : o.f0 = 7
 ·
  rw [if_pos h7] at hc
  cases hw : readF l o.f1 o.f3 o.f4 with
  | inr e => rw [hw] at hc; cases hc
  | inl x => rw [hw] at hc; injection hc with hc; injection hc with hc _; subst hc; exact h.pr
 rw [if_neg h7] at hc
 by_cases h8 : o.f0 = 8
 ·
  rw [if_pos h8] at hc
  cases hw : Qfz l o.f1 o.f3 o.f5 with
  | inr e => rw [hw] at hc; cases hc
  | inl x => rw [hw] at hc; injection hc with hc; injection hc with hc _; subst hc; exact (write_rt h hw).pr
 rw [if_neg h8] at hc
 by_cases h9 : o.f0 = 9
 ·
  rw [if_pos h9] at hc
  exact (trunc_rt h (hp hc)).pr
 rw [if_neg h9] at hc
 by_cases h10 : o.f0 = 10
 ·
  rw [if_pos h10] at hc
  cases hw : Qav l o.f1 with
  | inr e => rw [hw] at hc; cases hc
  | inl x => rw [hw] at hc; injection hc with hc; injection hc with hc _; subst hc; exact h.pr
 rw [if_neg h10] at hc
 by_cases h11 : o.f0 = 11
 ·
  rw [if_pos h11] at hc
  cases hw : listF l o.f1 with
  | inr e => rw [hw] at hc; cases hc
  | inl x => rw [hw] at hc; injection hc with hc; injection hc with hc _; subst hc; exact h.pr
 rw [if_neg h11] at hc
 by_cases h12 : o.f0 = 12
 ·
  rw [if_pos h12] at hc
  injection hc with hc; injection hc with hc _; subst hc; exact h.pr
 rw [if_neg h12] at hc
 by_cases h13 : o.f0 = 13
 ·
  rw [if_pos h13] at hc
  cases hw : Qav l o.f1 with
  | inr e => rw [hw] at hc; cases hc
  | inl x => rw [hw] at hc; injection hc with hc; injection hc with hc _; subst hc; exact h.pr
 rw [if_neg h13] at hc
 cases hc
theorem do_rt {l : List S52} (h : Rt l) (o : S31) : Rt (doF l o).1 := by
 unfold doF
 cases hw : workF l o with
 | inl x => exact num_rt (work_pr h hw)
 | inr e => exact h
/-! ### Bytes -/
theorem wk_err {l : List S52} (ns : List ByteArray) : ∀ {at_ : Nat} {n : Int}, wk l ns at_ = .inr n → n ≠ 0 := by
 induction ns with
 | nil => intro at_ n h; cases h
 | cons m ns ih =>
  intro at_ n h
  rw [wk] at h
  split at h
  ·
   split at h
   · exact ih h
   · injection h with h; omega
  · injection h with h; omega
theorem Qcc {l : List S52} {p : ByteArray} {n : Int} (h : Qav l p = .inr n) : n ≠ 0 := by
 unfold Qav at h
 split at h
 · exact wk_err _ h
 · rename_i h0; injection h with h; rw [← h]; exact h0
theorem Qdy {l : List S52} {p : ByteArray} {n : Int} (h : spotF l p = .inr n) : n ≠ 0 := by
 unfold spotF at h
 split at h
 ·
  split at h
  · rename_i hw; injection h with h; rw [← h]; exact wk_err _ hw
  ·
   split at h
   · cases h
   · injection h with h; omega
 · rename_i h0; injection h with h; rw [← h]; exact h0
theorem file_err {l : List S52} {p : ByteArray} {n : Int} (h : fileF l p = .inr n) : n ≠ 0 := by
 unfold fileF at h
 split at h
 · rename_i hw; injection h with h; rw [← h]; exact Qcc hw
 ·
  split at h
  · injection h with h; omega
  · cases h
theorem Qed {X : List S52 ⊕ Int} {n : Int} (hX : ∀ m, X = .inr m → m ≠ 0) (h : plain X = .inr n) : n ≠ 0 := by
 cases X with
 | inl l => cases h
 | inr m => injection h with h; rw [← h]; exact hX m rfl
theorem workF_err {l : List S52} {o : S31} {n : Int} (h : workF l o = .inr n) : n ≠ 0 := by
 unfold workF at h
 have hcr : ∀ kd m, Qdc l o.f1 kd = .inr m → m ≠ 0 := fun kd m h => by
  unfold Qdc at h
  split at h
  · injection h with h; omega
  ·
   split at h
   · rename_i hs; injection h with h; rw [← h]; exact Qdy hs
   · injection h with h; omega
   ·
    split at h
    · injection h with h; omega
    ·
     split at h
     · cases h
     · injection h with h; omega
 by_cases e1 : o.f0 = 1
 ·
  rw [if_pos e1] at h
  exact Qed (hcr 1) h
 rw [if_neg e1] at h
 by_cases e2 : o.f0 = 2
 ·
  rw [if_pos e2] at h
  exact Qed (hcr 2) h
 rw [if_neg e2] at h
 by_cases e3 : o.f0 = 3
 ·
  rw [if_pos e3] at h
  refine Qed (fun m h => ?_) h
  unfold linkF at h
  split at h
  · rename_i h0; injection h with h; rw [← h]; exact h0
  split at h
  · rename_i h0; injection h with h; rw [← h]; exact h0
  split at h
  · rename_i hw; injection h with h; rw [← h]; exact wk_err _ hw
  split at h
  · injection h with h; omega
  split at h
  · injection h with h; omega
  split at h
  · rename_i hs; injection h with h; rw [← h]; exact Qdy hs
  · injection h with h; omega
  split at h
  ·
   split at h
   · injection h with h; omega
   · cases h
  · injection h with h; omega
 rw [if_neg e3] at h
 by_cases e4 : o.f0 = 4
 ·
  rw [if_pos e4] at h
  refine Qed (fun m h => ?_) h
  unfold Qek at h
  split at h
  · rename_i hw; injection h with h; rw [← h]; exact Qcc hw
  split at h
  · injection h with h; omega
  split at h
  · rename_i hs; injection h with h; rw [← h]; exact Qdy hs
  · cases h
 rw [if_neg e4] at h
 by_cases e5 : o.f0 = 5
 ·
  rw [if_pos e5] at h
  refine Qed (fun m h => ?_) h
  unfold Qgq at h
  split at h
  · rename_i hw; injection h with h; rw [← h]; exact Qcc hw
  split at h
  ·
   split at h
   · injection h with h; omega
   split at h
   · rename_i hs; injection h with h; rw [← h]; exact Qdy hs
   · cases h
  · injection h with h; omega
 rw [if_neg e5] at h
 by_cases e6 : o.f0 = 6
 ·
  rw [if_pos e6] at h
  refine Qed (fun m h => ?_) h
  unfold Qbz at h
  split at h
  · rename_i h0; injection h with h; rw [← h]; exact h0
  split at h
  · rename_i h0; injection h with h; rw [← h]; exact h0
  split at h
  · injection h with h; omega
  split at h
  · rename_i hw; injection h with h; rw [← h]; exact wk_err _ hw
  split at h
  · injection h with h; omega
  split at h
  · rename_i hs; injection h with h; rw [← h]; exact Qdy hs
  split at h
  · rename_i hs; injection h with h; rw [← h]; exact Qdy hs
  unfold moveF at h
  split at h
  ·
   split at h
   · cases h
   · injection h with h; omega
  ·
   split at h
   · cases h
   split at h
   · injection h with h; omega
   split at h
   · injection h with h; omega
   split at h
   · injection h with h; omega
   · cases h
 rw [if_neg e6] at h
 by_cases e7 : o.f0 = 7
 ·
  rw [if_pos e7] at h
  split at h
  · cases h
  ·
   rename_i hx
   injection h with h
   rw [← h]
   unfold readF at hx
   split at hx
   · rename_i hw; injection hx with hx; rw [← hx]; exact file_err hw
   ·
    split at hx
    · cases hx
    · injection hx with hx; omega
 rw [if_neg e7] at h
 by_cases e8 : o.f0 = 8
 ·
  rw [if_pos e8] at h
  split at h
  · cases h
  ·
   rename_i hx
   injection h with h
   rw [← h]
   unfold Qfz at hx
   split at hx
   · rename_i hw; injection hx with hx; rw [← hx]; exact file_err hw
   ·
    split at hx
    · cases hx
    · injection hx with hx; omega
 rw [if_neg e8] at h
 by_cases e9 : o.f0 = 9
 ·
  rw [if_pos e9] at h
  refine Qed (fun m hx => ?_) h
  unfold Qgo at hx
  split at hx
  · rename_i hw; injection hx with hx; rw [← hx]; exact file_err hw
  ·
   split at hx
   · cases hx
   · injection hx with hx; omega
 rw [if_neg e9] at h
 by_cases e10 : o.f0 = 10
 ·
  rw [if_pos e10] at h
  split at h
  · cases h
  · rename_i hx; injection h with h; rw [← h]; exact Qcc hx
 rw [if_neg e10] at h
 by_cases e11 : o.f0 = 11
 ·
  rw [if_pos e11] at h
  split at h
  · cases h
  ·
   rename_i hx
   injection h with h
   rw [← h]
   unfold listF at hx
   split at hx
   · rename_i hw; injection hx with hx; rw [← hx]; exact Qcc hw
   ·
    split at hx
    · cases hx
    · injection hx with hx; omega
 rw [if_neg e11] at h
 by_cases e12 : o.f0 = 12
 ·
  rw [if_pos e12] at h
  cases h
 rw [if_neg e12] at h
 by_cases e13 : o.f0 = 13
 ·
  rw [if_pos e13] at h
  split at h
  · cases h
  · rename_i hx; injection h with h; rw [← h]; exact Qcc hx
 rw [if_neg e13] at h
 injection h with h; omega
def spotR (x : (Nat × ByteArray × Option Nat) ⊕ Int) : Int × ByteArray × Int × Int := match x with | .inl (d, nm, o) => ((d : Int), nm, nodeV o, 0) | .inr e => (0, ⟨#[]⟩, -1, e)
theorem names_last {p : ByteArray} (h0 : (Qah p).2 = 0) (hne : (Qah p).1 ≠ []) : ∃ q nm, Qah p = (q ++ [nm], 0) ∧ q.length ≤ 8 := by
 refine ⟨(Qah p).1.dropLast, (Qah p).1.getLast hne, Prod.ext (List.dropLast_concat_getLast hne).symm h0, ?_⟩
 have h := Qg p h0
 unfold Qf at h
 have := of_decide_eq_true (Bool.and_eq_true_iff.1 h).1
 rw [List.length_dropLast]
 omega
set_option maxHeartbeats 4000000 in
theorem rto_in (A : Option Addr) (c : Nat) (l : List S52) (p : ByteArray) (w : World) (hC : Kd.C k52 w A l.length l) (hc : l.length ≤ c) (hw : Wf l) (hm : ∀ k, (nd l k).f3.length < 1000000000) (hp : p.size < 1000000) (q : List ByteArray) (nm : ByteArray) (hs : Qah p = (q ++ [nm], 0)) (hq : q.length ≤ 8) :
  Calls Tryz.prog 81 #[.agg #[.slice A l.length c], .string p] w fun e w' => e = .returned (.tuple #[.int .i64 (spotR (spotF l p)).1, .string (spotR (spotF l p)).2.1, .int .i64 (spotR (spotF l p)).2.2.1, .int .i64 (spotR (spotF l p)).2.2.2]) ∧ Below w.heap.size w w' := by
 obtain ⟨k, hk⟩ := (Qcx p zq3).rounds
 have hsp : spotF l p = (match wk l q 0 with | .inr n => .inr n | .inl d => if (nd l d).f0 = 2 then .inl (d, nm, (look (nd l d).f3 nm).map ino) else .inr 22) := by
  unfold spotF
  rw [hs, if_pos rfl]
  dsimp only
  rw [List.dropLast_concat, List.getLastD_concat]
  cases wk l q 0 <;> rfl
 rw [hs] at hk
 obtain ⟨r1, r2, r3, r4, hr⟩ : ∃ r1 r2 r3 r4, spotR (spotF l p) = (r1, r2, r3, r4) := ⟨_, _, _, _, rfl⟩
 rw [hr]
 rw [hsp] at hr
 have HR := am hr
 clear hr
 have HK := am hk
 have HC := am hC
 have HW := am hw
 have HM := am hm
 have HB0 := am (show Below w.heap.size w (w.alloc (.cells #[.slice A l.length c] 26)) from Qaa (Below.refl _ _) _)
 clear hk hC hw hm hsp hs
 go_enter Tryz.func81, Tryz.ntmps81
 go_wp2_with (go_at_call 68; (with_reducible refine (moraineref10_Split.calls k p (q ++ [nm]) 0 _ HK.out).mono ?_); rintro e w1 ⟨v, rfl, hr, hb⟩; obtain ⟨A1, c1, hv, hc1, hC1⟩ := Kd.R_reads hr; subst hv; have HC1 := am hC1; have HCC := am hc1; have HB1 := am (Qa HB0.out hb); have HT := am (Qaf (Qal w (.cells #[.slice A l.length c] 26)) hb); clear hr hb hC1 hc1)
 have ht := (Qab HT.out 0).trans (show _ = some (Value.slice A l.length c) from rfl)
 have htl := Qai HT.out
 have hCq : Kd.C Kd.string w1 A1 q.length q := by
  have h := Kd.C_take HC1.out (m := q.length) zq14
  rw [List.take_left] at h
  exact h
 obtain ⟨a1, e, hx⟩ := Kd.at_string HC1.out (q.length : Int) zq3 zq30
 subst e
 have hrd : rdOf ByteArray.empty (q ++ [nm]) (q.length : Int) = nm := by simp [rdOf, List.getD_eq_getElem?_getD]
 rw [Int.toNat_natCast, hrd] at hx
 have hxl := World.block_lt_of_cell? _ _ hx
 have hw1 : IntKind.i64.wrap ((q.length : Int) + 1 - 1) = (q.length : Int) := by rw [IntKind.wrap_i64]; omega
 have hw2 : IntKind.i64.wrap (q.length : Int) = (q.length : Int) := by rw [IntKind.wrap_i64]; omega
 have hz0 : (0 : Int) ≤ (q.length : Int) := by omega
 have hz1 : (q.length : Int) ≤ (c1 : Int) := by have := HCC.out; simp at this; omega
 have hz2 : (q.length : Int) < (q.length : Int) + 1 := by omega
 have hqc : q.length ≤ c1 := by omega
 have HCQ := am hCq
 clear hCq hrd
 go_region_held3 (fun w' => w'.cell? ⟨w.heap.size, 0, none⟩ = some (.slice A l.length c)) (go_keep)
  (first | (go_at_call 69; (with_reducible refine (rwalk A c l (some a1) c1 q _ (Kd.C_below HC.out (by repeat (first | exact HB1.out | with_reducible apply Qad))) hc HW.out HM.out (Kd.C_below HCQ.out zq21) hqc zq3).mono ?_); rintro e w2 ⟨rfl, hb⟩; have HB2 := am (show Below w1.heap.size w1 w2 from Qa zq21 hb); have ht2 := (HB2.out.cell htl).trans ht; have hx2 := (HB2.out.cell hxl).trans hx; have htl2 := Nat.lt_of_lt_of_le htl HB2.out.size; clear hb; generalize hp2 : pairR (wk l q 0) = pr; obtain ⟨k2, e2⟩ := pr; dsimp only; have HP2 := am hp2; clear hp2))
 have HB3 := am (Qa HB1.out HB2.out)
 clear ht hx htl
 cases hwk : wk l q 0 with
 | inr e =>
  have hne : e ≠ 0 := wk_err _ hwk
  have h1 : (e == 0) = false := beq_eq_false_iff_ne.mpr hne
  have h2 : (e != 0) = true := bne_iff_ne.mpr hne
  have hr := HR.out
  have hp := HP2.out
  rw [hwk] at hr hp
  cases hp
  cases hr
  clear HR HP2 hne
  go_wp2
  refine bodyPost_ret (Qdr (rs := [.tmp 4, .tmp 5, .tmp 6, .tmp 7]) rfl zq14 (.tmp (.tmp (.tmp (.tmp .nil))))) rfl ?_
  exact ⟨rfl, HB3.out⟩
 | inl d =>
  have hdl := wk_lt HW.out HW.out.pos hwk
  obtain ⟨ad2, A2, c2, A3, c3, e3, hy0, -, -, hy3, -, -, hl3, hC3⟩ := Qaz (Kd.C_below HC.out HB3.out) (d : Int) zq3 zq3
  cases e3
  rw [Int.toNat_natCast, show rd_T52 l (d : Int) = nd l d from rfl] at hy0 hy3
  rw [show rd_T52 l (d : Int) = nd l d from rfl] at hl3 hC3
  have hsrt := HW.out.srt d
  have hsz := HM.out d
  have HC3 := am hC3
  have HL3 := am hl3
  have hdi : (d : Int) < (l.length : Int) := by omega
  have hr := HR.out
  have hp := HP2.out
  rw [hwk] at hr hp
  dsimp only at hr
  cases hp
  clear hC3 hl3 hwk HR HP2
  by_cases hkd : (nd l d).f0 = 2
  ·
   have hkb : ((nd l d).f0 != 2) = false := bne_eq_false_iff_eq.mpr hkd
   rw [if_pos hkd] at hr
   have HRF := am (fun (W : World) (h : Below w2.heap.size w2 W) => Qgc A3 c3 (nd l d).f3 nm W (Kd.C_below HC3.out h) HL3.out zq3)
   cases hf : fB (nd l d).f3 nm with
   | true =>
    obtain ⟨hfl, hlk⟩ := Qha hsrt hf
    rw [hf] at HRF
    rw [hlk] at hr
    obtain ⟨ad4, e4, hz0', hz1'⟩ := Qbg HC3.out ((fI (nd l d).f3 nm : Nat) : Int) zq3 zq3
    cases e4
    have hin := HW.out.ino_lt (List.getElem_mem hfl)
    have hre : rd_T62 (nd l d).f3 ((fI (nd l d).f3 nm : Nat) : Int) = (nd l d).f3[fI (nd l d).f3 nm] := by simp [rd_T62, List.getD_eq_getElem?_getD, List.getElem?_eq_getElem hfl]
    rw [Int.toNat_natCast, hre, ← hin.2.2] at hz1'
    have hfi : ((fI (nd l d).f3 nm : Nat) : Int) < ((nd l d).f3.length : Int) := by omega
    have hfz : 0 ≤ ((fI (nd l d).f3 nm : Nat) : Int) := by omega
    clear hre hz0' hlk hin hsrt hsz
    dsimp only [Option.map, spotR, nodeV] at hr
    generalize ino (nd l d).f3[fI (nd l d).f3 nm] = b at hz1' hr
    cases hr
    generalize fI (nd l d).f3 nm = i at hz1' HRF hfi hfz hfl
    generalize (nd l d).f3 = es at hy3 hz1' HRF hfi hfz hfl HC3 HL3
    generalize (nd l d).f0 = kd at hy0 hkb
    clear hf hkd hfl
    go_wp2_with (go_at_call 91; (with_reducible refine (HRF.out _ (Below.refl _ _)).mono ?_); rintro e w5 ⟨rfl, m, rfl⟩; have HB5 := am (Qa HB3.out (Qac (Below.refl _ _) m)))
    go_quiet (fail)
    go_wp2
    refine bodyPost_ret (Qdr (rs := [.tmp 4, .tmp 5, .tmp 6, .tmp 7]) rfl zq14 (.tmp (.tmp (.tmp (.tmp .nil))))) rfl ?_
    exact ⟨rfl, by repeat (first | exact HB5.out | with_reducible apply Qac | with_reducible apply Qad)⟩
   | false =>
    rw [hf] at HRF
    rw [Qfq hsrt hf] at hr
    cases hr
    generalize fI (nd l d).f3 nm = i at HRF
    generalize (nd l d).f3 = es at hy3 HRF HC3 HL3
    generalize (nd l d).f0 = kd at hy0 hkb
    clear hf hkd hsrt hsz
    go_wp2_with (go_at_call 91; (with_reducible refine (HRF.out _ (Below.refl _ _)).mono ?_); rintro e w5 ⟨rfl, m, rfl⟩; have HB5 := am (Qa HB3.out (Qac (Below.refl _ _) m)))
    refine bodyPost_ret (Qdr (rs := [.tmp 4, .tmp 5, .tmp 6, .tmp 7]) rfl zq14 (.tmp (.tmp (.tmp (.tmp .nil))))) rfl ?_
    exact ⟨rfl, HB5.out⟩
  ·
   have hkb : ((nd l d).f0 != 2) = true := bne_iff_ne.mpr hkd
   rw [if_neg hkd] at hr
   cases hr
   generalize (nd l d).f0 = kd at hy0 hkb
   clear hkd hsrt hsz
   go_wp2
   refine bodyPost_ret (Qdr (rs := [.tmp 4, .tmp 5, .tmp 6, .tmp 7]) rfl zq14 (.tmp (.tmp (.tmp (.tmp .nil))))) rfl ?_
   exact ⟨rfl, HB3.out⟩
set_option maxHeartbeats 1000000 in
theorem rto (A : Option Addr) (c : Nat) (l : List S52) (p : ByteArray) (w : World) (hC : Kd.C k52 w A l.length l) (hc : l.length ≤ c) (hw : Wf l) (hm : ∀ k, (nd l k).f3.length < 1000000000) (hp : p.size < 1000000) (hne : (Qah p).2 = 0 → (Qah p).1 ≠ []) :
  Calls Tryz.prog 81 #[.agg #[.slice A l.length c], .string p] w fun e w' => e = .returned (.tuple #[.int .i64 (spotR (spotF l p)).1, .string (spotR (spotF l p)).2.1, .int .i64 (spotR (spotF l p)).2.2.1, .int .i64 (spotR (spotF l p)).2.2.2]) ∧ Below w.heap.size w w' := by
 by_cases h0 : (Qah p).2 = 0
 ·
  obtain ⟨q, nm, hs, hq⟩ := names_last h0 (hne h0)
  exact rto_in A c l p w hC hc hw hm hp q nm hs hq
 ·
  obtain ⟨k, hk⟩ := (Qcx p zq3).rounds
  have hsp : spotF l p = .inr (Qah p).2 := by unfold spotF; rw [if_neg h0]
  rw [hsp]
  obtain ⟨ns, es, hs⟩ : ∃ ns es, Qah p = (ns, es) := ⟨_, _, rfl⟩
  rw [hs] at hk h0 ⊢
  have HK := am hk
  have h0b : (es != 0) = true := bne_iff_ne.mpr h0
  have HB0 := am (show Below w.heap.size w (w.alloc (.cells #[.slice A l.length c] 26)) from Qaa (Below.refl _ _) _)
  clear hk hs h0 hsp hw hm hC hne
  go_enter Tryz.func81, Tryz.ntmps81
  go_wp2_with (go_at_call 68; (with_reducible refine (moraineref10_Split.calls k p ns es _ HK.out).mono ?_); rintro e w1 ⟨v, rfl, hr, hb⟩; obtain ⟨A1, c1, hv, hc1, hC1⟩ := Kd.R_reads hr; subst hv; have HB1 := am (Qa HB0.out hb); clear hr hb hC1 hc1)
  refine bodyPost_ret (Qdr (rs := [.tmp 4, .tmp 5, .tmp 6, .tmp 7]) rfl zq14 (.tmp (.tmp (.tmp (.tmp .nil))))) rfl ?_
  exact ⟨rfl, HB1.out⟩
end Go.Proofs.YtbhjggbijkjmnaaGreatDoor.PZ
end
