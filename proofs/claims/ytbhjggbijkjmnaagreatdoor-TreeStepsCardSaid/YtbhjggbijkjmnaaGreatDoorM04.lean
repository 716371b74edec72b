import Derived.Test.YtbhjggbijkjmnaaGreatDoorM03
import Derived.Test.YtbhjggbijkjmnaaGreatDoorM02
set_option linter.unusedVariables false
set_option linter.unusedSimpArgs false
section
namespace Go.Proofs.YtbhjggbijkjmnaaGreatDoor.PZ
open Go.RowKit Go.Proofs.YtbhjggbijkjmnaaGreatDoorW.PrintWords Go.Proofs.YtbhjggbijkjmnaaGreatDoorW.PrintLast Go.Proofs.YtbhjggbijkjmnaaGreatDoorW.PrintMore
set_option maxRecDepth 100000
def hit (nm : ByteArray) (x : S62) : Bool := x.f0.toList == nm.toList
def Qcg (l : List S62) (nm : ByteArray) (k : Nat) : Int :=
 if k < l.length then (if hit nm (rd_T62 l (k : Int)) = true then (k : Int) else Qcg l nm (k + 1)) else -1
termination_by l.length - k
decreasing_by omega
theorem pr_walk (x : S62) (nm : ByteArray) (B : Nat) (w : World) (hB : w.cell? ⟨B, 0, none⟩ = some (.string nm)) :
  Calls Tryz.prog 107 #[.agg #[.string x.f0, .int .i64 x.f1], .pointer (some ⟨B, 0, none⟩)] w fun e w' => e = .returned (.bool (hit nm x)) ∧ Below w.heap.size w w' := by
 have hu := Tryz.underlying62
 have hlt : B < w.heap.size := World.block_lt_of_cell? w _ hB
 have hB2 : ∀ o, (w.alloc o).cell? ⟨B, 0, none⟩ = some (.string nm) := fun o => Lib.cell?_alloc_some o hB
 go_enter Tryz.func107, Tryz.ntmps107
 go_wp2
 go_ret
 exact ⟨rfl, (Below.refl _ _).alloc (Nat.le_refl _) _⟩
set_option maxHeartbeats 1000000 in
theorem index_walk (A0 : Option Addr) (c0 : Nat) (l0 : List S62) (nm : ByteArray) (B : Nat) (w : World) (hr0 : Kd.C k62 w A0 l0.length l0) (hc0 : l0.length ≤ c0) (hn : l0.length < 1000000000000) (hB : w.cell? ⟨B, 0, none⟩ = some (.string nm)) :
  Calls Tryz.prog 116 #[.slice A0 l0.length c0, .func (.func 107) #[] #[.pointer (some ⟨B, 0, none⟩)]] w fun e w' => e = .returned (.int .i64 (Qcg l0 nm 0)) ∧ Below w.heap.size w w' := by
 have hu := Tryz.underlying62
 have HR0 := am hr0
 have HBc := am hB
 clear hr0 hB
 go_enter Tryz.func116, Tryz.ntmps116
 go_wp2
 go_loopw [5, 8] (fun v5 v8 wr => ∃ k : Nat, k ≤ l0.length ∧ v8 = .int .i64 k ∧ Aside0 (Qcg l0 nm k = Qcg l0 nm 0) ∧ Aside0 (Below w.heap.size w wr)) (fun v5 v8 _ => l0.length - (intOf v8).toNat)
 case atStart => exact ⟨0, Nat.zero_le _, rfl, ⟨rfl⟩, ⟨Below.refl _ _⟩⟩
 case round =>
  obtain ⟨k, hk, rfl, HE, HB⟩ := hrel
  by_cases hlt : k < l0.length
  ·
   obtain ⟨ad, e, hx0, hx1⟩ := Qbg HR0.out (k : Int) zq3 zq3
   cases e
   rw [Int.toNat_natCast] at hx0 hx1
   generalize hX : rd_T62 l0 (k : Int) = x at hx0 hx1
   replace hx0 := (HB.out.cell (World.block_lt_of_cell? w _ hx0)).trans hx0
   replace hx1 := (HB.out.cell (World.block_lt_of_cell? w _ hx1)).trans hx1
   have HC := am ((HB.out.cell (World.block_lt_of_cell? w _ HBc.out)).trans HBc.out)
   by_cases hp : hit nm x = true
   ·
    have HQ := am (HE.out.symm.trans (by rw [Qcg, if_pos hlt, hX, if_pos hp] : Qcg l0 nm k = (k : Int)))
    clear hX
    go_wp2_with (go_at_call 107; refine (pr_walk x nm B _ HC.out).mono ?_; rintro e w' ⟨rfl, hb⟩; have HB2 := am hb; clear hb)
    go_ret
    exact ⟨by rw [HQ.out]; rfl, Qa HB.out HB2.out⟩
   ·
    replace hp : hit nm x = false := by simpa using hp
    have HE2 := am (HE.out.symm.trans (by rw [Qcg, if_pos hlt, hX, if_neg (by rw [hp]; decide)] : Qcg l0 nm k = Qcg l0 nm (k + 1)))
    clear hX
    go_wp2_with (go_at_call 107; refine (pr_walk x nm B _ HC.out).mono ?_; rintro e w' ⟨rfl, hb⟩; have HB2 := am hb; clear hb)
    go_roundw
    case rel => exact ⟨k + 1, by omega, rfl, ⟨HE2.out.symm⟩, ⟨Qa HB.out HB2.out⟩⟩
    case measure => simp [intOf]; omega
  ·
   have hkl : k = l0.length := by omega
   subst hkl
   have HQ := am (HE.out.symm.trans (by rw [Qcg, if_neg zq3] : Qcg l0 nm l0.length = (-1 : Int)))
   go_wp2
   go_ret
   exact ⟨by rw [HQ.out]; rfl, HB.out⟩
def Qdt (l ys : List S62) (nm : ByteArray) (i j : Nat) : Prop :=
 ys.length = l.length ∧ i < j ∧ j ≤ l.length ∧ ys.take i = (l.take j).filter (fun x => !hit nm x) ∧ ys.drop j = l.drop j
theorem idx_ge (l : List S62) (nm : ByteArray) : ∀ (d k : Nat), l.length - k = d → Qcg l nm k = -1 ∨ ∃ i : Nat, Qcg l nm k = i ∧ k ≤ i ∧ i < l.length ∧ hit nm (rd_T62 l (i : Int)) = true ∧ ∀ j, k ≤ j → j < i → hit nm (rd_T62 l (j : Int)) = false := by
 intro d
 induction d with
 | zero => intro k hk; left; rw [Qcg, if_neg zq3]
 | succ d ih =>
  intro k hk
  rw [Qcg, if_pos zq3]
  by_cases h : hit nm (rd_T62 l (k : Int)) = true
  ·
   rw [if_pos h]
   exact Or.inr ⟨k, rfl, Nat.le_refl _, by omega, h, fun j h1 h2 => by omega⟩
  ·
   rw [if_neg h]
   rcases ih (k + 1) zq3 with h1 | ⟨i, h1, h2, h3, h4, h5⟩
   · exact Or.inl h1
   ·
    refine Or.inr ⟨i, h1, by omega, h3, h4, fun j hj1 hj2 => ?_⟩
    by_cases e : j = k
    · subst e; simpa using h
    · exact h5 j zq3 hj2
theorem Qft (l : List S62) (k : Nat) (h : k < l.length) : rd_T62 l (k : Int) = l[k] := by
 unfold rd_T62
 simp [List.getD_eq_getElem?_getD, List.getElem?_eq_getElem h]
theorem filter_all {l : List S62} {nm : ByteArray} (k : Nat) (hk : k ≤ l.length) (h : ∀ j, j < k → hit nm (rd_T62 l (j : Int)) = false) : (l.take k).filter (fun x => !hit nm x) = l.take k := by
 rw [List.filter_eq_self]
 intro x hx
 obtain ⟨j, hj, rfl⟩ := List.getElem_of_mem hx
 rw [List.length_take] at hj
 rw [List.getElem_take]
 have := h j zq3
 rw [Qft l j zq3] at this
 simp [this]
theorem none_cut (l : List S62) (nm : ByteArray) (h : Qcg l nm 0 = -1) : l.filter (fun x => !hit nm x) = l := by
 have hk : ∀ (d k : Nat), l.length - k = d → Qcg l nm k = -1 → ∀ j, k ≤ j → j < l.length → hit nm (rd_T62 l (j : Int)) = false := by
  intro d
  induction d with
  | zero => intro k _ _ j h1 h2; omega
  | succ d ih =>
   intro k hk hi j h1 h2
   rw [Qcg, if_pos zq3] at hi
   by_cases hh : hit nm (rd_T62 l (k : Int)) = true
   · rw [if_pos hh] at hi; omega
   ·
    rw [if_neg hh] at hi
    by_cases e : j = k
    · subst e; simpa using hh
    · exact ih (k + 1) zq3 hi j zq3 h2
 have := filter_all (l := l) (nm := nm) l.length (Nat.le_refl _) (fun j hj => hk _ 0 rfl h j (Nat.zero_le _) hj)
 rwa [List.take_length] at this
theorem Qdt.start {l : List S62} {nm : ByteArray} {i : Nat} (h3 : i < l.length) (h4 : hit nm (rd_T62 l (i : Int)) = true) (h5 : ∀ j, 0 ≤ j → j < i → hit nm (rd_T62 l (j : Int)) = false) : Qdt l l nm i (i + 1) := by
 refine ⟨rfl, by omega, by omega, ?_, rfl⟩
 rw [List.take_succ_eq_append_getElem h3, List.filter_append, filter_all i zq3 (fun j hj => h5 j (Nat.zero_le _) hj)]
 rw [Qft l i h3] at h4
 simp [h4]
theorem Qdt.at_ {l ys : List S62} {nm : ByteArray} {i j : Nat} (h : Qdt l ys nm i j) (hj : j < l.length) : rd_T62 ys (j : Int) = l[j] := by
 rw [Qft ys j (by rw [h.1]; exact hj)]
 have h5 : (ys.drop j)[0]? = (l.drop j)[0]? := by rw [h.2.2.2.2]
 rw [List.getElem?_drop, List.getElem?_drop, Nat.add_zero, List.getElem?_eq_getElem (by rw [h.1]; exact hj), List.getElem?_eq_getElem hj] at h5
 exact Option.some.inj h5
theorem Qdt.drop_ {l ys : List S62} {nm : ByteArray} {i j : Nat} (h : Qdt l ys nm i j) (hj : j < l.length) (hh : hit nm l[j] = true) : Qdt l ys nm i (j + 1) := by
 refine ⟨h.1, by have := h.2.1; omega, by omega, ?_, ?_⟩
 ·
  rw [List.take_succ_eq_append_getElem hj, List.filter_append, ← h.2.2.2.1]
  simp [hh]
 · rw [← List.drop_drop, ← List.drop_drop, h.2.2.2.2]
theorem Qdt.keep {l ys : List S62} {nm : ByteArray} {i j : Nat} (h : Qdt l ys nm i j) (hj : j < l.length) (hh : hit nm l[j] = false) : Qdt l (ys.set i l[j]) nm (i + 1) (j + 1) := by
 obtain ⟨h1, h2, h3, h4, h5⟩ := h
 refine ⟨by rw [List.length_set]; exact h1, by omega, by omega, ?_, ?_⟩
 ·
  rw [List.take_succ_eq_append_getElem hj, List.filter_append, ← h4, List.take_succ_eq_append_getElem (by rw [List.length_set, h1]; omega), List.take_set_of_le (Nat.le_refl _)]
  simp [hh]
 · rw [List.drop_set_of_lt zq3, ← List.drop_drop, ← List.drop_drop, h5]
theorem Qgp {b base o : Nat} (hb : base ≤ b) (vs : List Value) (w : World) : Below base w (w.setCells b o vs) := by
 obtain ⟨h1, h2, h3, h4⟩ := Qde b vs o w
 exact ⟨h1, h2, h3, by omega, fun k hk => Qcw vs o k zq3⟩
theorem R_front {g base n cap i : Nat} {w : World} {ys : List S62} (h : Kd.R k62 62 w base (fun _ => True) (.slice (some ⟨g, 0, none⟩) n cap) ys) (hi : i ≤ ys.length) (vs : List Value) (hl : i * 2 + vs.length ≤ cap * 2) :
  Kd.R k62 62 (w.setCells g (i * 2) vs) base (fun _ => True) (.slice (some ⟨g, 0, none⟩) i cap) (ys.take i) := by
 obtain ⟨h0, inner, ho, hr⟩ := Kd.R_take h hi
 refine ⟨fun _ _ => trivial, inner, ?_, hr.1, fun j p hj => ?_⟩
 ·
  obtain ⟨hl1, h1 | ⟨g', cap', cur, hv, hb, hh, hnc, hcm, hcs, ht⟩⟩ := ho
  · cases h1.1
  ·
   injection hv with e1 e2 e3
   injection e1 with e1
   injection e1 with e1
   subst e1; subst e3
   obtain ⟨cur', h3, h4, h5⟩ := Qda vs (i * 2) w cur hh (by rw [hcs]; exact hl)
   refine ⟨hl1, Or.inr ⟨g, cap, cur', by rw [← e2], hb, h3, hnc, hcm, by rw [h4]; exact hcs, ?_⟩⟩
   have hlen : (ys.take i).length = i := by rw [List.length_take]; omega
   rw [hlen] at ht ⊢
   have hsz : k62.sz = 2 := rfl
   have hcl : i * 2 ≤ cur.toList.length := by rw [Array.length_toList, hcs, hsz]; omega
   rw [hsz] at ht ⊢
   rw [h5, List.append_assoc, List.take_append_of_le_length (by rw [List.length_take]; omega), List.take_take, Nat.min_self]
   exact ht
 ·
  have := hr.2 j p hj
  exact this
theorem run_clear_rows {P : Program} (w : World) (t e ty : TypeId) (z : Value) (q : TypeId) (ht : P.underlying t = some (.slice e)) (hv : (zeroValue e).run P w = .ok z w) (b o n c m : Nat) (hn : 0 < n)
  (cur : Array Value) (hh : w.heap[b]? = some (.cells cur q (0, 0))) (hl : o + (Builtin.zeroCells z.cells n).toList.length ≤ cur.size) (h1 : ∀ v ∈ (Builtin.zeroCells z.cells n).toList, v.oneCell' = true) :
  (Builtin.clear_ #[t] ty #[.slice (some ⟨b, o, none⟩) n c]).run P w = .ok (.tuple #[]) (w.setCells b o (Builtin.zeroCells z.cells n).toList) := by
 have hst := run_storeCells_cells (P := P) b o (Builtin.zeroCells z.cells n).toList 0 w
  (fun j hj => by
   have hj2 : o + 0 + j < cur.size := by omega
   rw [Qab hh, Array.getElem?_eq_getElem hj2]; rfl) (fun j hj => Qag hh _) h1
 simp only [Nat.add_zero] at hst
 obtain ⟨k, rfl⟩ : ∃ m, n = m + 1 := ⟨n - 1, by omega⟩
 simp [Builtin.clear_, run_underlying ht, hv, hst]
set_option maxHeartbeats 2000000 in
theorem delete_walk (v : Value) (l0 : List S62) (nm : ByteArray) (B base : Nat) (w : World) (hr0 : Kd.R k62 62 w base (fun _ => True) v l0) (hbase : base ≤ w.heap.size) (hn : l0.length < 1000000000000) (hB : w.cell? ⟨B, 0, none⟩ = some (.string nm)) (hBb : B < base) :
  Calls Tryz.prog 106 #[v, .func (.func 107) #[] #[.pointer (some ⟨B, 0, none⟩)]] w fun e w' => ∃ v0_ : Value, e = .returned v0_ ∧ Kd.R k62 62 w' base (fun _ => True) v0_ (l0.filter (fun x => !hit nm x)) ∧ Below base w w' := by
 have hu := Tryz.underlying62
 obtain ⟨A, c, rfl⟩ := Kd.R_slice hr0
 obtain ⟨-, hc, hC⟩ := Kd.R_reads' hr0
 rcases idx_ge l0 nm _ 0 rfl with hi | ⟨i, hi, -, hil, hhit, hbef⟩
 ·
  have HN := am (none_cut l0 nm hi)
  have HI := am hi
  have HR := am hr0
  clear hi hr0
  go_enter Tryz.func106, Tryz.ntmps106
  go_wp2_with (go_at_call 116; refine (index_walk A c l0 nm B _ hC hc hn hB).mono ?_; rintro e w' ⟨rfl, hb⟩; rw [HI.out]; have HB2 := am hb; clear hb)
  go_ret
  exact ⟨_, rfl, by rw [HN.out]; exact Kd.R_below HR.out HB2.out, HB2.out.mono hbase⟩
 ·
  obtain ⟨g, cap, e, hbg, hgl, -⟩ := Kd.R_form hr0 zq3
  injection e with e1 e2 e3
  clear e2
  subst e1; subst e3
  have HI := am hi
  have HS := am (Qdt.start hil hhit hbef)
  have HR := am hr0
  have HBc := am hB
  have hib : ((i : Int) == -1) = false := beq_eq_false_iff_ne.2 zq3
  have HG := am hbg
  clear hi hr0 hhit hbef hB
  go_enter Tryz.func106, Tryz.ntmps106
  go_wp2_with (go_at_call 116; refine (index_walk _ c l0 nm B _ hC hc hn HBc.out).mono ?_; rintro e w' ⟨rfl, hb⟩; rw [HI.out]; have HB2 := am hb; clear hb)
  go_loopw [5, 6] (fun v5 v6 wr => ∃ (i j : Nat) (ys : List S62), j ≤ l0.length ∧ i < j ∧ v5 = .int .i64 i ∧ v6 = .int .i64 j ∧ Aside0 (Qdt l0 ys nm i j) ∧ Aside0 (Kd.R k62 62 wr base (fun _ => True) (.slice (some ⟨g, 0, none⟩) l0.length c) ys) ∧ Aside0 (Below base w wr)) (fun v5 v6 _ => l0.length - (intOf v6).toNat)
  case atStart => exact ⟨i, i + 1, l0, by omega, by omega, rfl, rfl, HS, ⟨Kd.R_below HR.out HB2.out⟩, ⟨HB2.out.mono hbase⟩⟩
  case round =>
   clear HI HS HR HB2 hib hil hC
   obtain ⟨i, j, ys, hj, hij, rfl, rfl, HS, HR, HB⟩ := hrel
   by_cases hlt : j < l0.length
   ·
    have hyl := HS.out.1
    obtain ⟨-, -, hC⟩ := Kd.R_reads' HR.out
    obtain ⟨ad, e, hx0, hx1⟩ := Qbg hC (j : Int) zq3 zq3
    injection e with e
    subst e
    rw [Int.toNat_natCast, Qbl] at hx0 hx1
    rw [HS.out.at_ hlt] at hx0 hx1
    replace hx1 : wr.cell? ⟨g, j * 2 + 1, none⟩ = _ := hx1
    have HX : ∃ x, x = l0[j] := ⟨_, rfl⟩
    obtain ⟨x, hx⟩ := HX
    rw [← hx] at hx0 hx1
    have HX := am hx
    clear hx hyl hC
    have HL := am ((HB.out.cell (p := ⟨B, 0, none⟩) hBb).trans HBc.out)
    have HRs := am (Nat.le_trans hbase HB.out.size)
    by_cases hp : hit nm x = true
    ·
     go_wp2_with (go_at_call 107; refine (pr_walk x nm B _ (Lib.cell?_alloc_some _ HL.out)).mono ?_; rintro e w1 ⟨rfl, hb⟩; have HB2 := am ((Qaa (Below.refl _ _) _).trans (hb.mono zq14)); clear hb)
     go_roundw
     case rel => exact ⟨i, j + 1, ys, by omega, by omega, rfl, rfl, ⟨HS.out.drop_ hlt (by rw [← HX.out]; exact hp)⟩, ⟨Kd.R_below HR.out HB2.out⟩, ⟨HB.out.trans (HB2.out.mono HRs.out)⟩⟩
     case measure => simp [intOf]; omega
    ·
     replace hp : hit nm x = false := by simpa using hp
     have hyl := HS.out.1
     obtain ⟨-, -, hC⟩ := Kd.R_reads' HR.out
     obtain ⟨ad, e, hy0, hy1⟩ := Qbg hC (i : Int) zq3 zq3
     injection e with e
     subst e
     rw [Int.toNat_natCast, Qbl] at hy0 hy1
     replace hy1 : wr.cell? ⟨g, i * 2 + 1, none⟩ = _ := hy1
     generalize rd_T62 ys (i : Int) = y at hy0 hy1
     have HY0 := am hy0
     have HY1 := am hy1
     have HYL := am hyl
     clear hy0 hy1 hyl hC
     go_wp2_with (first | (go_at_call 107; refine (pr_walk x nm B _ (Lib.cell?_alloc_some _ HL.out)).mono ?_; rintro e w1 ⟨rfl, hb⟩; have hz0 : w1.cell? ⟨wr.heap.size, 0, none⟩ = some (.string x.f0) := (hb.cell (p := ⟨wr.heap.size, 0, none⟩) zq14).trans ((Qab (Qal wr _) 0).trans rfl); have hz1 : w1.cell? ⟨wr.heap.size, 1, none⟩ = some (.int .i64 x.f1) := (hb.cell (p := ⟨wr.heap.size, 1, none⟩) zq14).trans ((Qab (Qal wr _) 1).trans rfl); have HB2 := am ((Qaa (Below.refl _ _) _).trans (hb.mono zq14)); clear hb) | ((with_reducible refine Qgg (t := 62) (p := 33) rfl ?_); refine Kd.R_store k62 (w0 := w1) (g := g) (n := l0.length) (cap := c) (o' := i * 2) base rfl rfl 62 (.tmp 33) (.tmp 32) rfl 62 (i : Int) 0 ys x (.agg #[.string x.f0, .int .i64 x.f1]) [.string x.f0, .int .i64 x.f1] [.string y.f0, .int .i64 y.f1] (fun _ => True) (fun _ => False) ?ha ?ho ?hx ?hu ?ht ?h1 (Kd.R_below HR.out HB2.out) ?h0 ?hi ?hcl ?hcc ?hj ?hM ?hok (Below.refl _ _) ?_; (case ha => rfl); (case ho => rfl); (case hx => rfl); (case hu => rfl); (case ht => exact by kernel_rfl); (case h1 => intro q hq; simp at hq; rcases hq with rfl | rfl <;> rfl); (case h0 => omega); (case hi => omega); (case hcl => rfl); (case hcc => intro j u hu; match j, hu with | 0, hu => (cases hu; exact HB2.out.cell (p := ⟨g, i * 2, none⟩) (World.block_lt_of_cell? wr _ HY0.out) |>.trans HY0.out) | 1, hu => (cases hu; exact HB2.out.cell (p := ⟨g, i * 2 + 1, none⟩) (World.block_lt_of_cell? wr _ HY1.out) |>.trans HY1.out)); (case hj => exact Nat.le_refl _); (case hM => exact k62_mkM _ _ _ x); (case hok => exact fun _ h => h.elim); intro w2 hr hb hg; have HR2 := am hr; have HB3 := am hb; clear hr hb hg))
     go_roundw
     case rel => exact ⟨i + 1, j + 1, ys.set i x, by omega, by omega, rfl, rfl, ⟨by rw [HX.out]; exact HS.out.keep hlt (by rw [← HX.out]; exact hp)⟩, ⟨HR2.out⟩, ⟨(HB.out.trans (HB2.out.mono HRs.out)).trans HB3.out⟩⟩
     case measure => simp [intOf]; omega
   ·
    have hjl : j = l0.length := by omega
    subst hjl
    have hyl := HS.out.1
    obtain ⟨inner, ho⟩ := Kd.R_own HR.out
    obtain ⟨_, h1 | ⟨g', cap', cur, hv, hb, hh, hnc, hcm, hcs, ht⟩⟩ := ho
    · cases h1.1
    ·
     injection hv with e1 e2 e3
     injection e1 with e1
     injection e1 with e1
     subst e1; subst e3
     clear e2 ht
     have hsz : k62.sz = 2 := rfl
     rw [hsz] at hcs
     have hzl : (Builtin.zeroCells (#[.string ⟨#[]⟩, .int .i64 0] : Array Value) (l0.length - i)).toList.length = (l0.length - i) * 2 := by simp [Builtin.zeroCells]
     have hcl : ∀ ty, (Builtin.clear_ #[50] ty #[.slice (some ⟨g, i * 2, none⟩) (l0.length - i) (c - i)]).run Tryz.prog wr = .ok (.tuple #[]) (wr.setCells g (i * 2) (Builtin.zeroCells (#[.string ⟨#[]⟩, .int .i64 0] : Array Value) (l0.length - i)).toList) := fun ty => by
      refine run_clear_rows wr 50 62 ty (.agg #[.string ⟨#[]⟩, .int .i64 0]) 62 Tryz.underlying50 zq15 g (i * 2) (l0.length - i) (c - i) 0 zq3 cur hh ?_ ?_
      ·
       show i * 2 + (Builtin.zeroCells (#[.string ⟨#[]⟩, .int .i64 0] : Array Value) (l0.length - i)).toList.length ≤ _
       rw [hzl, hcs]; omega
      ·
       intro v hv
       simp only [Builtin.zeroCells, Array.toList_map, List.mem_map] at hv
       obtain ⟨k, _, rfl⟩ := hv
       show (#[Value.string ⟨#[]⟩, Value.int .i64 0] : Array Value)[k % 2]!.oneCell' = true
       rcases (by omega : k % 2 = 0 ∨ k % 2 = 1) with e | e <;> rw [e] <;> rfl
     have HF := am (R_front HR.out (i := i) zq3 (Builtin.zeroCells (#[.string ⟨#[]⟩, .int .i64 0] : Array Value) (l0.length - i)).toList (by rw [hzl]; omega))
     have HB2 := am (HB.out.trans (Qgp hb (Builtin.zeroCells (#[.string ⟨#[]⟩, .int .i64 0] : Array Value) (l0.length - i)).toList wr (o := i * 2)))
     have HFL := am (show ys.take i = l0.filter (fun x => !hit nm x) by rw [HS.out.2.2.2.1, List.take_length])
     generalize (Builtin.zeroCells (#[.string ⟨#[]⟩, .int .i64 0] : Array Value) (l0.length - i)).toList = zs at hcl HF HB2
     clear hyl hzl hcs hh hcm hnc hsz
     go_wp2
     go_ret
     exact ⟨_, rfl, by rw [← HFL.out]; exact HF.out, HB2.out⟩
def dirent_Cut.f (l0 : List S62) (a1 : ByteArray) : Option (List S62) := if l0.length < 1000000000000 then some (l0.filter (fun x => !hit a1 x)) else none
set_option maxHeartbeats 1000000 in
theorem dirent_Cut.calls (A0 : Option Addr) (c0 : Nat) (l0 : List (S62)) (a1 : ByteArray) (r : List (S62)) (w : World) (hr0 : Kd.C k62 w A0 l0.length l0) (hc0 : l0.length ≤ c0) (h : dirent_Cut.f l0 a1 = some r) :
  Calls Tryz.prog 95 #[.slice A0 l0.length c0, .string a1] w fun e w' => ∃ v0_ : Value, e = .returned (v0_) ∧ Kd.R k62 62 w' w.heap.size (fun _ => True) v0_ r ∧ Below w.heap.size w w' := by
 unfold dirent_Cut.f at h
 by_cases hn : l0.length < 1000000000000
 ·
  rw [if_pos hn] at h
  obtain rfl := Option.some.inj h
  have hb0 := Qaa (Below.refl w.heap.size w) (.cells #[.string a1] 9)
  have HR := am (Kd.C_below hr0 hb0)
  have HB0 := am hb0
  have HC := am (show (w.alloc (.cells #[.string a1] 9)).cell? ⟨w.heap.size, 0, none⟩ = some (.string a1) from (Qab (Qal w _) 0).trans rfl)
  clear hb0 hr0
  go_enter Tryz.func95, Tryz.ntmps95
  go_wp2_with (first | (go_at_call 46; refine (clone_walk A0 c0 l0 _ HR.out hc0 hn).mono ?_; rintro e w1 ⟨v1, rfl, ho, hb⟩; have HO := am ho; have HB := am hb; clear ho hb) | (go_at_call 106; refine (delete_walk v1 l0 a1 w.heap.size (w.alloc (.cells #[.string a1] 9)).heap.size _ HO.out HB.out.size hn ((HB.out.cell (p := ⟨w.heap.size, 0, none⟩) zq14).trans HC.out) zq14).mono ?_; rintro e w2 ⟨v2, rfl, ho, hb⟩; have HO2 := am ho; have HB2 := am hb; clear ho hb))
  go_ret
  exact ⟨_, rfl, Kd.R_lower HO2.out zq14, HB0.out.trans ((HB.out.trans HB2.out).mono zq14)⟩
 ·
  rw [if_neg hn] at h
  cases h
theorem atLs {w : World} {A : Option Addr} {n : Nat} {xs : List (List S62)} (h : Kd.C (Kd.slice 62 k62) w A n xs) (i : Nat) (h1 : i < n) :
  ∃ ad A0 c0, A = some ad ∧ w.cell? (ad.add i) = some (.slice A0 (xs.getD i []).length c0) ∧ (xs.getD i []).length ≤ c0 ∧ k62.C w A0 (xs.getD i []).length (xs.getD i []) := by
 obtain ⟨ad, c, e, _, hK, hc0⟩ := Kd.C_get h ([] : List S62) (i : Int) zq3 zq3
 have hc : ∀ j u, c[j]? = some u → w.cell? (ad.add (i * 1 + j)) = some u := hc0
 obtain ⟨A0, c0, rfl, l0, g0⟩ := hK
 exact ⟨ad, A0, c0, e, by have hq := hc 0 _ rfl; rwa [Nat.mul_one, Nat.add_zero] at hq, l0, g0⟩
def cat {α : Type} (l : List (List α)) : List α := l.flatten
def clen {α : Type} (l : List (List α)) : Nat := (cat l).length
theorem Qew {α : Type} (xs : List (List α)) (k : Nat) (h : k < xs.length) : cat (xs.take (k + 1)) = cat (xs.take k) ++ xs.getD k [] := by
 unfold cat
 rw [List.take_succ_eq_append_getElem h, List.flatten_append]
 simp [List.getD_eq_getElem?_getD, List.getElem?_eq_getElem h]
theorem Qeg {α : Type} (xs : List (List α)) (k : Nat) : clen (xs.take k) ≤ clen xs := by
 unfold clen cat
 have : xs.flatten = (xs.take k).flatten ++ (xs.drop k).flatten := by rw [← List.flatten_append, List.take_append_drop]
 rw [this, List.length_append]; omega
set_option maxHeartbeats 1000000 in
theorem grow_walk (n : Nat) (hn : n < 1000000000000) (w : World) :
  Calls Tryz.prog 115 #[.slice none 0 0, .int .i64 n] w fun e w' => ∃ v0_ : Value, e = .returned v0_ ∧ Kd.R k62 62 w' w.heap.size (fun _ => True) v0_ [] ∧ Below w.heap.size w w' := by
 have hu := Tryz.underlying62
 by_cases h0 : n = 0
 ·
  subst h0
  go_enter Tryz.func115, Tryz.ntmps115
  go_wp2
  go_ret
  exact ⟨_, rfl, Kd.R_nil _ _ _ _ _, Below.refl _ _⟩
 ·
  have h1 : decide (0 < (n : Int)) = true := decide_eq_true zq3
  have h2 : decide (0 < n) = true := decide_eq_true zq3
  go_enter Tryz.func115, Tryz.ntmps115
  go_wp2_with (first | ((with_reducible refine Qas (b := .append) (xs := #[.tmp 20, .tmp 21]) rfl ?_); at_builtin; refine Kd.R_append_zeros k62 (w0 := w) w.heap.size rfl (.tmp 20) (.tmp 21) 50 3 62 (.agg #[(.string ⟨#[]⟩), (.int .i64 0)]) 24 rfl Tryz.underlying50 Tryz.underlying3 infoE rfl zq9 zq3 (.slice none 0 0) [] z62 (kx := .i64) n (fun _ => True) rfl rfl ?az ?af ?aO ?a0 ?aB ?aS ?aL ?_; (case az => exact k62_mkM _ _ _ _); (case af => exact fun _ _ => trivial); (case aO => exact Kd.R_nil _ _ _ _ _); (case a0 => omega); (case aB => exact Below.refl _ _); (case aS => exact Nat.le_refl _); (case aL => simp; omega); intro v1 w1 ho hb hg hat; obtain ⟨gg, gc, rfl, gb, gl, gcl, -⟩ := Kd.R_form ho zq20; have HO := am ho; have HB := am hb; clear ho hb hg hat))
  go_ret
  exact ⟨_, rfl, Kd.R_take HO.out (Nat.zero_le _), HB.out⟩
set_option maxHeartbeats 2000000 in
theorem concat_walk (A0 : Option Addr) (c0 : Nat) (l0 : List (List S62)) (w : World) (hr0 : Kd.C (Kd.slice 62 k62) w A0 l0.length l0) (hc0 : l0.length ≤ c0) (hn : clen l0 < 1000000000000) (hn2 : l0.length < 1000000000000) :
  Calls Tryz.prog 105 #[.slice A0 l0.length c0] w fun e w' => ∃ v0_ : Value, e = .returned v0_ ∧ Kd.R k62 62 w' w.heap.size (fun _ => True) v0_ (cat l0) ∧ Below w.heap.size w w' := by
 have hu := Tryz.underlying62
 have HR0 := am hr0
 have HC0 := am hc0
 clear hr0 hc0
 go_enter Tryz.func105, Tryz.ntmps105
 go_wp2
 go_loop [3, 5, 11] (fun v3 v5 v11 => ∃ k : Nat, k ≤ l0.length ∧ v3 = .int .i64 (clen (l0.take k) : Nat) ∧ v11 = .int .i64 k) (fun v3 v5 v11 => l0.length - (intOf v11).toNat)
 case atStart => exact ⟨0, Nat.zero_le _, rfl, rfl⟩
 case round =>
  obtain ⟨k, hk, rfl, rfl⟩ := hrel
  have hfl := Qeg l0 k
  by_cases hlt : k < l0.length
  ·
   obtain ⟨ad, A1, c1, e, hx, hc1, hr1⟩ := atLs HR0.out k hlt
   cases e
   have hfs := Qew l0 k hlt
   have hfl2 := Qeg l0 (k + 1)
   have hls : clen (l0.take (k + 1)) = clen (l0.take k) + (l0.getD k []).length := by unfold clen; rw [hfs, List.length_append]
   have HS := am hls
   have hb1 : clen (l0.take k) + (l0.getD k []).length < 1000000000000 := by omega
   clear hls hfs hfl2 hr1
   generalize hL : clen (l0.take k) = L at *
   generalize hM : (l0.getD k []).length = M at *
   clear hL hM
   go_wp2
   go_round
   case rel => exact ⟨k + 1, by omega, by rw [HS.out]; rfl, rfl⟩
   case measure => simp [intOf]; omega
  ·
   have hkl : k = l0.length := by omega
   subst hkl
   rw [List.take_length]
   clear hfl
   go_wp2_with (go_at_call 115; refine (grow_walk (clen l0) hn _).mono ?_; rintro e w1 ⟨v0, rfl, ho, hb⟩; have HO := am ho; have HB := am hb; clear ho hb)
   go_loopw [6, 8, 27] (fun v6 v8 v27 wr => ∃ k : Nat, k ≤ l0.length ∧ v27 = .int .i64 k ∧ Aside0 (Kd.R k62 62 wr w.heap.size (fun _ => True) v6 (cat (l0.take k))) ∧ Aside0 (Below w.heap.size w wr)) (fun v6 v8 v27 _ => l0.length - (intOf v27).toNat)
   case atStart => exact ⟨0, Nat.zero_le _, rfl, HO, HB⟩
   case round =>
    clear HO HB
    obtain ⟨k, hk, rfl, HO, HB⟩ := hrel
    by_cases hlt : k < l0.length
    ·
     obtain ⟨ad, A1, c1, e, hx, hc1, hr1⟩ := atLs HR0.out k hlt
     cases e
     have hfs := Qew l0 k hlt
     have hfl2 := Qeg l0 (k + 1)
     have HS := am hfs
     have hb1 : (cat (l0.take k)).length + (l0.getD k []).length < 1000000000000 := by rw [← List.length_append, ← hfs]; unfold clen at hfl2 hn; omega
     clear hfs hfl2
     replace hx := (HB.out.cell (World.block_lt_of_cell? w _ hx)).trans hx
     have HR1 := am (Kd.C_below hr1 HB.out)
     clear hr1
     generalize hL : (cat (l0.take k)) = L at *
     generalize hM : l0.getD k [] = M at *
     clear hL hM
     go_wp2_with (first | ((with_reducible refine Qas (b := .append) (xs := #[.tmp 31, .tmp 32]) rfl ?_); at_builtin; refine Kd.R_append_rows k62 (w0 := w) w.heap.size rfl (.tmp 31) (.tmp 32) 50 62 (.agg #[(.string ⟨#[]⟩), (.int .i64 0)]) 24 rfl Tryz.underlying50 infoE rfl zq9 zq3 _ L M _ _ _ (fun _ => True) (fun _ => False) rfl rfl HO.out ?aR (fun _ _ h => h) (fun _ h => h.elim) (fun _ _ => trivial) HB.out HB.out.size ?aL ?_; (case aR => exact HR1.out); (case aL => omega); intro v1 w1 ho hb hg hat; rw [← HS.out] at ho; have n0_ := am ho; have n1_ := am hb; clear HO HB ho hb hg hat; have HO := n0_; have HB := n1_; clear n0_ n1_))
     go_roundw
     case rel => exact ⟨k + 1, by omega, rfl, HO, HB⟩
     case measure => simp [intOf]; omega
    ·
     have hkl : k = l0.length := by omega
     subst hkl
     rw [List.take_length] at HO
     go_wp2
     go_ret
     exact ⟨_, rfl, HO.out, HB.out⟩
def slices_Concat.f (l0 : List (List S62)) : Option (List S62) :=
 if clen l0 < 1000000000000 ∧ l0.length < 1000000000000 then some (cat l0) else none
theorem slices_Concat.calls (A0 : Option Addr) (c0 : Nat) (l0 : List (List S62)) (r : List (S62)) (w : World) (hr0 : Kd.C (Kd.slice 62 k62) w A0 l0.length l0) (hc0 : l0.length ≤ c0) (h : slices_Concat.f l0 = some r) :
  Calls Tryz.prog 105 #[.slice A0 l0.length c0] w fun e w' => ∃ v0_ : Value, e = .returned v0_ ∧ Kd.R k62 62 w' w.heap.size (fun _ => True) v0_ r ∧ Below w.heap.size w w' := by
 unfold slices_Concat.f at h
 by_cases hb : clen l0 < 1000000000000 ∧ l0.length < 1000000000000
 ·
  rw [if_pos hb] at h
  obtain rfl := Option.some.inj h
  exact concat_walk A0 c0 l0 w hr0 hc0 hb.1 hb.2
 ·
  rw [if_neg hb] at h
  cases h
end Go.Proofs.YtbhjggbijkjmnaaGreatDoor.PZ
end
section
namespace Go.Proofs.YtbhjggbijkjmnaaGreatDoor.PZ
open Go.RowKit Go.Proofs.YtbhjggbijkjmnaaGreatDoorW.PrintWords Go.Proofs.YtbhjggbijkjmnaaGreatDoorW.PrintLast Go.Proofs.YtbhjggbijkjmnaaGreatDoorW.PrintMore Go.Proofs.YtbhjggbijkjmnaaGreatDoor.Ord
set_option maxRecDepth 100000
theorem w64 {x : Int} (h : -9223372036854775808 ≤ x) (h2 : x ≤ 9223372036854775807) : wrap64 x = x := IntWalk.wrap64_in x ⟨h, h2⟩
abbrev lts (a b : ByteArray) : Bool := Op.bytesLess a.toList b.toList
def Srt (l : List S62) : Prop := l.Pairwise (fun x y => lts x.f0 y.f0 = true)
def fI (l : List S62) (n : ByteArray) : Nat := (l.takeWhile (fun x => lts x.f0 n)).length
def fB (l : List S62) (n : ByteArray) : Bool := match l[fI l n]? with
 | some x => x.f0.toList == n.toList
 | none => false
theorem fI_le (l : List S62) (n : ByteArray) : fI l n ≤ l.length := by
 unfold fI; exact (List.takeWhile_prefix _).length_le
theorem fI_cons (x : S62) (r : List S62) (n : ByteArray) : fI (x :: r) n = if lts x.f0 n = true then fI r n + 1 else 0 := by
 unfold fI
 by_cases h : lts x.f0 n = true
 · rw [if_pos h, List.takeWhile_cons]; simp only [h]; rfl
 · rw [if_neg h, List.takeWhile_cons]; simp only [h]; rfl
theorem fB_cons (x : S62) (r : List S62) (n : ByteArray) : fB (x :: r) n = if lts x.f0 n = true then fB r n else (x.f0.toList == n.toList) := by
 unfold fB
 rw [fI_cons]
 by_cases h : lts x.f0 n = true
 · simp only [h, if_true, List.getElem?_cons_succ]
 · simp only [h]; rfl
theorem fI_lt {n : ByteArray} : ∀ (l : List S62) (j : Nat), j < fI l n → ∃ h : j < l.length, lts l[j].f0 n = true := by
 intro l
 induction l with
 | nil => intro j hj; exact absurd hj (Nat.not_lt_zero _)
 | cons x r ih =>
  intro j hj
  rw [fI_cons] at hj
  by_cases hx : lts x.f0 n = true
  ·
   rw [if_pos hx] at hj
   cases j with
   | zero => exact ⟨by simp, hx⟩
   | succ j =>
    obtain ⟨h1, h2⟩ := ih j zq3
    exact ⟨by simp; omega, h2⟩
  ·
   rw [if_neg hx] at hj
   omega
theorem fI_at {l : List S62} {n : ByteArray} (h : fI l n < l.length) : lts l[fI l n].f0 n = false := by
 induction l with
 | nil => simp at h
 | cons x r ih =>
  by_cases hx : lts x.f0 n = true
  ·
   have e : fI (x :: r) n = fI r n + 1 := by rw [fI_cons, if_pos hx]
   have := ih (by rw [e] at h; simpa using h)
   simp only [e, List.getElem_cons_succ]
   exact this
  ·
   have e : fI (x :: r) n = 0 := by rw [fI_cons, if_neg hx]
   simp only [e, List.getElem_cons_zero]
   simpa using hx
theorem Srt.lt {l : List S62} (h : Srt l) {i j : Nat} (hij : i < j) (hj : j < l.length) : lts l[i].f0 l[j].f0 = true := List.pairwise_iff_getElem.1 h i j zq3 hj hij
theorem fI_ge {l : List S62} {n : ByteArray} (hs : Srt l) (j : Nat) (hj : fI l n ≤ j) (hjl : j < l.length) : lts l[j].f0 n = false := by
 have h0 := fI_at (l := l) (n := n) zq3
 by_cases e : j = fI l n
 · subst e; exact h0
 ·
  have h1 := hs.lt (i := fI l n) (j := j) zq3 hjl
  by_cases h2 : lts l[j].f0 n = true
  ·
   have h3 : lts l[fI l n].f0 n = true := less_trans h1 h2
   rw [h0] at h3
   cases h3
  · simpa using h2
theorem bs_eq {l : List S62} {n : ByteArray} (hs : Srt l) : ∀ (d i j : Nat), j - i = d → i ≤ fI l n → fI l n ≤ j → j ≤ l.length → bsGo l n i j = fI l n := by
 intro d
 induction d using Nat.strongRecOn with
 | _ d ih =>
  intro i j hd hi hj hjl
  rw [bsGo]
  by_cases hlt : i < j
  ·
   rw [if_pos hlt]
   have hm : (i + j) / 2 < l.length := by omega
   have r2 : rd_T62 l (((i + j) / 2 : Nat) : Int) = l[(i + j) / 2] := Qft l _ hm
   have hc : cmpE (rd_T62 l (((i + j) / 2 : Nat) : Int)) n < 0 ↔ lts l[(i + j) / 2].f0 n = true := by
    rw [r2]; unfold cmpE lts; rw [cmp_lt, Qb, Qb]
   by_cases h : (i + j) / 2 < fI l n
   ·
    obtain ⟨_, h1⟩ := fI_lt l _ h
    rw [if_pos (hc.2 h1)]
    exact ih (j - ((i + j) / 2 + 1)) zq3 _ _ rfl zq3 hj hjl
   ·
    have h1 := fI_ge (n := n) hs ((i + j) / 2) zq3 hm
    rw [if_neg (fun hx => by have := hc.1 hx; rw [h1] at this; cases this)]
    exact ih ((i + j) / 2 - i) zq3 _ _ rfl hi zq3 zq3
  ·
   rw [if_neg hlt]
   omega
theorem find_eq {l : List S62} (n : ByteArray) (hs : Srt l) (hl : l.length < 1000000000000) : dirent_Find.f l n = some ((fI l n : Int), fB l n) := by
 unfold dirent_Find.f
 rw [if_pos hl, bs_eq hs _ 0 l.length rfl (Nat.zero_le _) (fI_le l n) (Nat.le_refl _)]
 congr 2
 unfold fB
 by_cases h : fI l n < l.length
 ·
  rw [List.getElem?_eq_getElem h, Qft l _ h]
  have : decide (((fI l n : Nat) : Int) < (l.length : Int)) = true := decide_eq_true zq3
  rw [this, Bool.true_and]
  unfold cmpE
  rw [Bool.eq_iff_iff, decide_eq_true_eq, cmp_eq0, beq_iff_eq, Qb, Qb]
 ·
  rw [List.getElem?_eq_none zq3]
  have : decide (((fI l n : Nat) : Int) < (l.length : Int)) = false := decide_eq_false zq3
  rw [this, Bool.false_and]
def putL (l : List S62) (n : ByteArray) (v : Int) : List S62 := l.take (fI l n) ++ ⟨n, v⟩ :: (if fB l n = true then l.drop (fI l n + 1) else l.drop (fI l n))
theorem fB_lt {l : List S62} {n : ByteArray} (h : fB l n = true) : ∃ hl : fI l n < l.length, l[fI l n].f0 = n := by
 unfold fB at h
 by_cases hl : fI l n < l.length
 ·
  rw [List.getElem?_eq_getElem hl] at h
  exact ⟨hl, Qax (by simpa using h)⟩
 ·
  rw [List.getElem?_eq_none zq3] at h
  cases h
theorem concat3 (a b c : List S62) (h : a.length + b.length + c.length < 1000000000000) : slices_Concat.f [a, b, c] = some (a ++ (b ++ c)) := by
 unfold slices_Concat.f clen cat
 have e : [a, b, c].flatten = a ++ (b ++ c) := by simp
 rw [e]
 rw [if_pos ⟨by simp; omega, by simp⟩]
def cutL (l : List S62) (n : ByteArray) : List S62 := l.filter (fun x => !(x.f0.toList == n.toList))
theorem cut_eq (l : List S62) (n : ByteArray) (hl : l.length < 1000000000000) : dirent_Cut.f l n = some (cutL l n) := by
 unfold dirent_Cut.f
 rw [if_pos hl]
 rfl
theorem nlt_self (n : ByteArray) : lts n n = false := less_irrefl _
theorem ne_of_lt {a b : ByteArray} (h : lts a b = true) : (a.toList == b.toList) = false := by
 rw [beq_eq_false_iff_ne]
 intro e
 have h2 : Op.bytesLess a.toList b.toList = true := h
 rw [e, less_irrefl] at h2
 cases h2
theorem ne_of_gt {a b : ByteArray} (h : lts b a = true) : (a.toList == b.toList) = false := by
 rw [beq_eq_false_iff_ne]
 intro e
 have h2 : Op.bytesLess b.toList a.toList = true := h
 rw [e, less_irrefl] at h2
 cases h2
def restL (l : List S62) (n : ByteArray) : List S62 := if fB l n = true then l.drop (fI l n + 1) else l.drop (fI l n)
theorem putL_def (l : List S62) (n : ByteArray) (v : Int) : putL l n v = l.take (fI l n) ++ ⟨n, v⟩ :: restL l n := rfl
theorem front_lt (l : List S62) (n : ByteArray) : ∀ x ∈ l.take (fI l n), lts x.f0 n = true := by
 intro x hx
 obtain ⟨j, hj, rfl⟩ := List.getElem_of_mem hx
 rw [List.length_take] at hj
 obtain ⟨h1, h2⟩ := fI_lt (n := n) l j zq3
 rw [List.getElem_take]
 exact h2
theorem rest_gt {l : List S62} {n : ByteArray} (hs : Srt l) : ∀ x ∈ restL l n, lts n x.f0 = true := by
 intro x hx
 unfold restL at hx
 by_cases h : fB l n = true
 ·
  rw [if_pos h] at hx
  obtain ⟨h1, h2⟩ := fB_lt h
  obtain ⟨j, hj, rfl⟩ := List.getElem_of_mem hx
  rw [List.length_drop] at hj
  rw [List.getElem_drop]
  have := hs.lt (i := fI l n) (j := fI l n + 1 + j) zq3 zq3
  rw [h2] at this
  exact this
 ·
  rw [if_neg h] at hx
  obtain ⟨j, hj, rfl⟩ := List.getElem_of_mem hx
  rw [List.length_drop] at hj
  rw [List.getElem_drop]
  have h1 := fI_ge (n := n) hs (fI l n + j) zq3 zq3
  rcases less_total n.toList l[fI l n + j].f0.toList with h2 | h2 | h2
  · exact h2
  ·
   exfalso
   by_cases e : j = 0
   ·
    subst e
    apply h
    unfold fB
    rw [List.getElem?_eq_getElem zq3]
    simp only [Nat.add_zero] at h2
    simp [h2]
   ·
    have h3 := hs.lt (i := fI l n) (j := fI l n + j) zq3 zq3
    have h4 := fI_at (l := l) (n := n) zq3
    have h5 : lts l[fI l n].f0 n = true := by
     show Op.bytesLess _ n.toList = true
     rw [h2]; exact h3
    rw [h4] at h5
    cases h5
  ·
   have h3 : lts l[fI l n + j].f0 n = true := h2
   rw [h1] at h3
   cases h3
theorem srt_front {l : List S62} (hs : Srt l) (i : Nat) : Srt (l.take i) := hs.sublist (List.take_sublist _ _)
theorem srt_rest {l : List S62} (n : ByteArray) (hs : Srt l) : Srt (restL l n) := by
 unfold restL
 split
 · exact hs.sublist (List.drop_sublist _ _)
 · exact hs.sublist (List.drop_sublist _ _)
theorem front_rest {l : List S62} {n : ByteArray} (hs : Srt l) : ∀ a ∈ l.take (fI l n), ∀ b ∈ restL l n, lts a.f0 b.f0 = true := fun a ha b hb => less_trans (front_lt l n a ha) (rest_gt hs b hb)
theorem put_srt {l : List S62} (n : ByteArray) (v : Int) (hs : Srt l) : Srt (putL l n v) := by
 rw [putL_def]
 unfold Srt
 rw [List.pairwise_append, List.pairwise_cons]
 refine ⟨srt_front hs _, ⟨fun b hb => rest_gt hs b hb, srt_rest n hs⟩, fun a ha b hb => ?_⟩
 rcases List.mem_cons.1 hb with rfl | hb
 · exact front_lt l n a ha
 · exact front_rest hs a ha b hb
theorem cut_parts {l : List S62} {n : ByteArray} (hs : Srt l) : cutL (l.take (fI l n)) n = l.take (fI l n) ∧ cutL (restL l n) n = restL l n := by
 unfold cutL
 rw [List.filter_eq_self, List.filter_eq_self]
 exact ⟨fun x hx => by rw [ne_of_lt (front_lt l n x hx)]; rfl, fun x hx => by rw [ne_of_gt (rest_gt hs x hx)]; rfl⟩
theorem cut_append (a b : List S62) (n : ByteArray) : cutL (a ++ b) n = cutL a n ++ cutL b n := List.filter_append ..
theorem cut_self {l : List S62} (n : ByteArray) (hs : Srt l) : cutL l n = l.take (fI l n) ++ restL l n := by
 have h2 := (cut_parts (n := n) hs)
 by_cases h : fB l n = true
 ·
  obtain ⟨h1, h3⟩ := fB_lt h
  have e : l = l.take (fI l n) ++ (l[fI l n] :: restL l n) := by
   unfold restL
   rw [if_pos h, ← List.drop_eq_getElem_cons h1, List.take_append_drop]
  have e2 : l[fI l n] :: restL l n = [l[fI l n]] ++ restL l n := rfl
  conv => lhs; rw [e, e2]
  rw [cut_append, cut_append, h2.1, h2.2]
  simp [cutL, h3]
 ·
  have e : l = l.take (fI l n) ++ restL l n := by unfold restL; rw [if_neg h, List.take_append_drop]
  conv => lhs; rw [e]
  rw [cut_append, h2.1, h2.2]
theorem cut_srt {l : List S62} (n : ByteArray) (hs : Srt l) : Srt (cutL l n) := List.Pairwise.filter _ hs
theorem put_cut {l : List S62} (n : ByteArray) (v : Int) (hs : Srt l) : (putL l n v).Perm (⟨n, v⟩ :: cutL l n) := by
 rw [cut_self n hs, putL_def]
 exact List.perm_middle
end Go.Proofs.YtbhjggbijkjmnaaGreatDoor.PZ
end
section
namespace Go.Proofs.YtbhjggbijkjmnaaGreatDoor.PZ
open Go.RowKit Go.Proofs.YtbhjggbijkjmnaaGreatDoorW.PrintWords Go.Proofs.YtbhjggbijkjmnaaGreatDoorW.PrintLast Go.Proofs.YtbhjggbijkjmnaaGreatDoorW.PrintMore Go.Proofs.YtbhjggbijkjmnaaGreatDoor.B Go.Proofs.YtbhjggbijkjmnaaGreatDoor.Ord TD
set_option maxRecDepth 100000
def ino (e : S62) : Nat := e.f1.toNat
def look (es : List S62) (n : ByteArray) : Option S62 := es.find? (fun e => e.f0.toList == n.toList)
theorem Qdg {es : List S62} {n : ByteArray} {e : S62} (h : look es n = some e) : e ∈ es ∧ e.f0 = n := by
 unfold look at h
 have h1 := List.find?_some h
 exact ⟨List.mem_of_find?_eq_some h, Qax (by simpa using h1)⟩
theorem Qfv {es : List S62} {n : ByteArray} : look es n = none ↔ ∀ e ∈ es, e.f0 ≠ n := by
 unfold look
 rw [List.find?_eq_none]
 constructor
 ·
  intro h e he hn
  exact h e he (by rw [hn]; simp)
 ·
  intro h e he hn
  exact h e he (Qax (by simpa using hn))
theorem srt_eq {es : List S62} (hs : Srt es) {a b : S62} (ha : a ∈ es) (hb : b ∈ es) (h : a.f0 = b.f0) : a = b := by
 induction es with
 | nil => cases ha
 | cons x r ih =>
  have hs' := List.pairwise_cons.1 hs
  have hirr : ∀ c : S62, c ∈ r → x.f0 ≠ c.f0 := by
   intro c hc e
   have h2 := hs'.1 c hc
   rw [e] at h2
   have h3 : Op.bytesLess c.f0.toList c.f0.toList = true := h2
   rw [less_irrefl] at h3
   cases h3
  rcases List.mem_cons.1 ha with e | ha2
  ·
   rcases List.mem_cons.1 hb with e2 | hb2
   · rw [e, e2]
   · exact absurd (e ▸ h) (hirr b hb2)
  ·
   rcases List.mem_cons.1 hb with e2 | hb2
   · exact absurd (e2 ▸ h.symm) (hirr a ha2)
   · exact ih hs'.2 ha2 hb2
theorem look_of {es : List S62} (hs : Srt es) {e : S62} (he : e ∈ es) : look es e.f0 = some e := by
 cases h : look es e.f0 with
 | none => exact absurd rfl (Qfv.1 h e he)
 | some x =>
  obtain ⟨h1, h2⟩ := Qdg h
  rw [srt_eq hs h1 he h2]
theorem look_iff {es : List S62} (hs : Srt es) {n : ByteArray} {e : S62} : look es n = some e ↔ e ∈ es ∧ e.f0 = n :=
 ⟨Qdg, fun ⟨h1, h2⟩ => h2 ▸ look_of hs h1⟩
theorem look_congr {es fs : List S62} (_ : Srt es) (ht : Srt fs) {n : ByteArray} (h : ∀ e, e.f0 = n → (e ∈ es ↔ e ∈ fs)) : look es n = look fs n := by
 cases h1 : look es n with
 | some x =>
  obtain ⟨h2, h3⟩ := Qdg h1
  exact ((look_iff ht).2 ⟨(h x h3).1 h2, h3⟩).symm
 | none =>
  have h2 := Qfv.1 h1
  refine (Qfv.2 ?_).symm
  intro e he hn
  exact h2 e ((h e hn).2 he) hn
theorem mem_cut {es : List S62} {n : ByteArray} {e : S62} : e ∈ cutL es n ↔ e ∈ es ∧ e.f0 ≠ n := by
 unfold cutL
 rw [List.mem_filter]
 constructor
 ·
  rintro ⟨h1, h2⟩
  exact ⟨h1, fun hn => by subst hn; simp at h2⟩
 ·
  rintro ⟨h1, h2⟩
  refine ⟨h1, ?_⟩
  have : ¬ e.f0.toList = n.toList := fun hn => h2 (Qax hn)
  simp [this]
theorem mem_put {es : List S62} (hs : Srt es) {n : ByteArray} {v : Int} {e : S62} : e ∈ putL es n v ↔ e = ⟨n, v⟩ ∨ (e ∈ es ∧ e.f0 ≠ n) := by
 rw [(put_cut n v hs).mem_iff, List.mem_cons, mem_cut]
theorem look_cut_ne {es : List S62} (hs : Srt es) {n m : ByteArray} (h : m ≠ n) : look (cutL es n) m = look es m :=
 look_congr (cut_srt n hs) hs fun e he => by rw [mem_cut]; exact ⟨fun h => h.1, fun h2 => ⟨h2, by rw [he]; exact h⟩⟩
theorem cut_none {es : List S62} {n : ByteArray} (h : look es n = none) : cutL es n = es := by
 unfold cutL
 rw [List.filter_eq_self]
 intro e he
 have : ¬ e.f0.toList = n.toList := fun hn => Qfv.1 h e he (Qax hn)
 simp [this]
theorem put_count {es : List S62} (hs : Srt es) {n : ByteArray} (v : Int) (p : S62 → Bool) : (putL es n v).countP p = (cutL es n).countP p + (if p ⟨n, v⟩ then 1 else 0) := by
 rw [(put_cut n v hs).countP_eq, List.countP_cons]
theorem cut_split {es : List S62} (hs : Srt es) {n : ByteArray} {e : S62} (h : look es n = some e) : es.Perm (e :: cutL es n) := by
 obtain ⟨h1, h2⟩ := Qdg h
 induction es with
 | nil => cases h1
 | cons x r ih =>
  have hs' := List.pairwise_cons.1 hs
  rcases List.mem_cons.1 h1 with rfl | h1
  ·
   have hr : cutL r n = r := by
    unfold cutL
    rw [List.filter_eq_self]
    intro c hc
    have hne : ¬ c.f0.toList = n.toList := by
     intro hn
     have h3 := hs'.1 c hc
     have h4 : Op.bytesLess e.f0.toList c.f0.toList = true := h3
     rw [h2, hn, less_irrefl] at h4
     cases h4
    simp [hne]
   have : cutL (e :: r) n = cutL r n := by simp [cutL, h2]
   rw [this, hr]
  ·
   have hx : ¬ x.f0.toList = n.toList := by
    intro hn
    have h3 := hs'.1 e h1
    have h4 : Op.bytesLess x.f0.toList e.f0.toList = true := h3
    rw [h2, hn, less_irrefl] at h4
    cases h4
   have e1 : cutL (x :: r) n = x :: cutL r n := by simp [cutL, hx]
   rw [e1]
   have hl : look r n = some e := (look_iff hs'.2).2 ⟨h1, h2⟩
   exact ((ih hs'.2 hl h1).cons x).trans (List.Perm.swap ..)
theorem cut_count {es : List S62} (hs : Srt es) {n : ByteArray} {e : S62} (h : look es n = some e) (p : S62 → Bool) : es.countP p = (cutL es n).countP p + (if p e then 1 else 0) := by
 rw [(cut_split hs h).countP_eq, List.countP_cons]
def ren (f : Nat → Nat) (e : S62) : S62 := ⟨e.f0, (f (ino e) : Int)⟩
theorem ino_ren (f : Nat → Nat) (e : S62) : ino (ren f e) = f (ino e) := by simp [ino, ren]
theorem ren_srt {es : List S62} (f : Nat → Nat) (hs : Srt es) : Srt (es.map (ren f)) := by
 unfold Srt
 rw [List.pairwise_map]
 exact hs
end Go.Proofs.YtbhjggbijkjmnaaGreatDoor.PZ
end
