/- The walk of dirent.Cut: slices.IndexFunc and slices.DeleteFunc at its closure. -/
import Derived.Test.YtllfjmmdackgdaaGClone
namespace Go.Proofs.Ytllfjmmdackgdaa.PZ
open Go.RowKit Go.Proofs.YtllfjmmdackgdaaW.PrintWords Go.Proofs.YtllfjmmdackgdaaW.PrintLast Go.Proofs.YtllfjmmdackgdaaW.PrintMore
set_option linter.unusedVariables false
set_option linter.unusedSimpArgs false

/-- The closure's answer. -/
def hit (nm : ByteArray) (x : S24) : Bool := x.f0.toList == nm.toList
def idxFrom (l : List S24) (nm : ByteArray) (k : Nat) : Int :=
  if k < l.length then (if hit nm (rd_T24 l (k : Int)) = true then (k : Int) else idxFrom l nm (k + 1)) else -1
termination_by l.length - k
decreasing_by omega

theorem pr_walk (x : S24) (nm : ByteArray) (B : Nat) (w : World) (hB : w.cell? ⟨B, 0, none⟩ = some (.string nm)) :
    Calls Try.prog 31 #[.agg #[.string x.f0, .int .i64 x.f1], .pointer (some ⟨B, 0, none⟩)] w fun e w' => e = .returned (.bool (hit nm x)) ∧ Below w.heap.size w w' := by
  have hu := Try.underlying24
  have hlt : B < w.heap.size := World.block_lt_of_cell? w _ hB
  have hB2 : ∀ o, (w.alloc o).cell? ⟨B, 0, none⟩ = some (.string nm) := fun o => Lib.cell?_alloc_some o hB
  go_enter Try.func31, Try.ntmps31
  go_wp2
  go_ret
  exact ⟨rfl, (Below.refl _ _).alloc (Nat.le_refl _) _⟩

set_option maxHeartbeats 1000000 in
theorem index_walk (A0 : Option Addr) (c0 : Nat) (l0 : List S24) (nm : ByteArray) (B : Nat) (w : World) (hr0 : Kd.C k24 w A0 l0.length l0) (hc0 : l0.length ≤ c0) (hn : l0.length < 1000000000000) (hB : w.cell? ⟨B, 0, none⟩ = some (.string nm)) :
    Calls Try.prog 38 #[.slice A0 l0.length c0, .func (.func 31) #[] #[.pointer (some ⟨B, 0, none⟩)]] w fun e w' => e = .returned (.int .i64 (idxFrom l0 nm 0)) ∧ Below w.heap.size w w' := by
  have hu := Try.underlying24
  have HR0 := Aside0.mk hr0
  have HBc := Aside0.mk hB
  clear hr0 hB
  go_enter Try.func38, Try.ntmps38
  go_wp2
  go_loopw [5, 8] (fun v5 v8 wr => ∃ k : Nat, k ≤ l0.length ∧ v8 = .int .i64 k ∧ Aside0 (idxFrom l0 nm k = idxFrom l0 nm 0) ∧ Aside0 (Below w.heap.size w wr)) (fun v5 v8 _ => l0.length - (intOf v8).toNat)
  case atStart => exact ⟨0, Nat.zero_le _, rfl, ⟨rfl⟩, ⟨Below.refl _ _⟩⟩
  case round =>
    obtain ⟨k, hk, rfl, HE, HB⟩ := hrel
    by_cases hlt : k < l0.length
    · obtain ⟨ad, e, hx0, hx1⟩ := at_T24 HR0.out (k : Int) (by omega) (by omega)
      cases e
      rw [Int.toNat_natCast] at hx0 hx1
      generalize hX : rd_T24 l0 (k : Int) = x at hx0 hx1
      replace hx0 := (HB.out.cell (World.block_lt_of_cell? w _ hx0)).trans hx0
      replace hx1 := (HB.out.cell (World.block_lt_of_cell? w _ hx1)).trans hx1
      have HC := Aside0.mk ((HB.out.cell (World.block_lt_of_cell? w _ HBc.out)).trans HBc.out)
      by_cases hp : hit nm x = true
      · have HQ := Aside0.mk (HE.out.symm.trans (by rw [idxFrom, if_pos hlt, hX, if_pos hp] : idxFrom l0 nm k = (k : Int)))
        clear hX
        go_wp2_with (go_at_call 31; refine (pr_walk x nm B _ HC.out).mono ?_; rintro e w' ⟨rfl, hb⟩; have HB2 := Aside0.mk hb; clear hb)
        go_ret
        exact ⟨by rw [HQ.out]; rfl, below_step HB.out HB2.out⟩
      · replace hp : hit nm x = false := by simpa using hp
        have HE2 := Aside0.mk (HE.out.symm.trans (by rw [idxFrom, if_pos hlt, hX, if_neg (by rw [hp]; decide)] : idxFrom l0 nm k = idxFrom l0 nm (k + 1)))
        clear hX
        go_wp2_with (go_at_call 31; refine (pr_walk x nm B _ HC.out).mono ?_; rintro e w' ⟨rfl, hb⟩; have HB2 := Aside0.mk hb; clear hb)
        go_roundw
        case rel => exact ⟨k + 1, by omega, rfl, ⟨HE2.out.symm⟩, ⟨below_step HB.out HB2.out⟩⟩
        case measure => simp [intOf]; omega
    · have hkl : k = l0.length := by omega
      subst hkl
      have HQ := Aside0.mk (HE.out.symm.trans (by rw [idxFrom, if_neg (by omega)] : idxFrom l0 nm l0.length = (-1 : Int)))
      go_wp2
      go_ret
      exact ⟨by rw [HQ.out]; rfl, HB.out⟩
/-- What the row holds while the loop runs: the kept ones of the first j stand in front. -/
def Shifted (l ys : List S24) (nm : ByteArray) (i j : Nat) : Prop :=
  ys.length = l.length ∧ i < j ∧ j ≤ l.length ∧ ys.take i = (l.take j).filter (fun x => !hit nm x) ∧ ys.drop j = l.drop j
theorem idx_ge (l : List S24) (nm : ByteArray) : ∀ (d k : Nat), l.length - k = d → idxFrom l nm k = -1 ∨ ∃ i : Nat, idxFrom l nm k = i ∧ k ≤ i ∧ i < l.length ∧ hit nm (rd_T24 l (i : Int)) = true ∧ ∀ j, k ≤ j → j < i → hit nm (rd_T24 l (j : Int)) = false := by
  intro d
  induction d with
  | zero => intro k hk; left; rw [idxFrom, if_neg (by omega)]
  | succ d ih =>
    intro k hk
    rw [idxFrom, if_pos (by omega)]
    by_cases h : hit nm (rd_T24 l (k : Int)) = true
    · rw [if_pos h]
      exact Or.inr ⟨k, rfl, Nat.le_refl _, by omega, h, fun j h1 h2 => by omega⟩
    · rw [if_neg h]
      rcases ih (k + 1) (by omega) with h1 | ⟨i, h1, h2, h3, h4, h5⟩
      · exact Or.inl h1
      · refine Or.inr ⟨i, h1, by omega, h3, h4, fun j hj1 hj2 => ?_⟩
        by_cases e : j = k
        · subst e; simpa using h
        · exact h5 j (by omega) hj2
theorem rd_nat (l : List S24) (k : Nat) (h : k < l.length) : rd_T24 l (k : Int) = l[k] := by
  unfold rd_T24
  simp [List.getD_eq_getElem?_getD, List.getElem?_eq_getElem h]
theorem filter_all {l : List S24} {nm : ByteArray} (k : Nat) (hk : k ≤ l.length) (h : ∀ j, j < k → hit nm (rd_T24 l (j : Int)) = false) : (l.take k).filter (fun x => !hit nm x) = l.take k := by
  rw [List.filter_eq_self]
  intro x hx
  obtain ⟨j, hj, rfl⟩ := List.getElem_of_mem hx
  rw [List.length_take] at hj
  rw [List.getElem_take]
  have := h j (by omega)
  rw [rd_nat l j (by omega)] at this
  simp [this]
theorem none_cut (l : List S24) (nm : ByteArray) (h : idxFrom l nm 0 = -1) : l.filter (fun x => !hit nm x) = l := by
  have hk : ∀ (d k : Nat), l.length - k = d → idxFrom l nm k = -1 → ∀ j, k ≤ j → j < l.length → hit nm (rd_T24 l (j : Int)) = false := by
    intro d
    induction d with
    | zero => intro k _ _ j h1 h2; omega
    | succ d ih =>
      intro k hk hi j h1 h2
      rw [idxFrom, if_pos (by omega)] at hi
      by_cases hh : hit nm (rd_T24 l (k : Int)) = true
      · rw [if_pos hh] at hi; omega
      · rw [if_neg hh] at hi
        by_cases e : j = k
        · subst e; simpa using hh
        · exact ih (k + 1) (by omega) hi j (by omega) h2
  have := filter_all (l := l) (nm := nm) l.length (Nat.le_refl _) (fun j hj => hk _ 0 rfl h j (Nat.zero_le _) hj)
  rwa [List.take_length] at this
theorem Shifted.start {l : List S24} {nm : ByteArray} {i : Nat} (h3 : i < l.length) (h4 : hit nm (rd_T24 l (i : Int)) = true) (h5 : ∀ j, 0 ≤ j → j < i → hit nm (rd_T24 l (j : Int)) = false) : Shifted l l nm i (i + 1) := by
  refine ⟨rfl, by omega, by omega, ?_, rfl⟩
  rw [List.take_succ_eq_append_getElem h3, List.filter_append, filter_all i (by omega) (fun j hj => h5 j (Nat.zero_le _) hj)]
  rw [rd_nat l i h3] at h4
  simp [h4]
theorem Shifted.at_ {l ys : List S24} {nm : ByteArray} {i j : Nat} (h : Shifted l ys nm i j) (hj : j < l.length) : rd_T24 ys (j : Int) = l[j] := by
  rw [rd_nat ys j (by rw [h.1]; exact hj)]
  have h5 : (ys.drop j)[0]? = (l.drop j)[0]? := by rw [h.2.2.2.2]
  rw [List.getElem?_drop, List.getElem?_drop, Nat.add_zero, List.getElem?_eq_getElem (by rw [h.1]; exact hj), List.getElem?_eq_getElem hj] at h5
  exact Option.some.inj h5
theorem Shifted.drop_ {l ys : List S24} {nm : ByteArray} {i j : Nat} (h : Shifted l ys nm i j) (hj : j < l.length) (hh : hit nm l[j] = true) : Shifted l ys nm i (j + 1) := by
  refine ⟨h.1, by have := h.2.1; omega, by omega, ?_, ?_⟩
  · rw [List.take_succ_eq_append_getElem hj, List.filter_append, ← h.2.2.2.1]
    simp [hh]
  · rw [← List.drop_drop, ← List.drop_drop, h.2.2.2.2]
theorem Shifted.keep {l ys : List S24} {nm : ByteArray} {i j : Nat} (h : Shifted l ys nm i j) (hj : j < l.length) (hh : hit nm l[j] = false) : Shifted l (ys.set i l[j]) nm (i + 1) (j + 1) := by
  obtain ⟨h1, h2, h3, h4, h5⟩ := h
  refine ⟨by rw [List.length_set]; exact h1, by omega, by omega, ?_, ?_⟩
  · rw [List.take_succ_eq_append_getElem hj, List.filter_append, ← h4, List.take_succ_eq_append_getElem (by rw [List.length_set, h1]; omega), List.take_set_of_le (Nat.le_refl _)]
    simp [hh]
  · rw [List.drop_set_of_lt (by omega), ← List.drop_drop, ← List.drop_drop, h5]

theorem below_setCells {b base o : Nat} (hb : base ≤ b) (vs : List Value) (w : World) : Below base w (w.setCells b o vs) := by
  obtain ⟨h1, h2, h3, h4⟩ := setCells_same b vs o w
  exact ⟨h1, h2, h3, by omega, fun k hk => setCells_far vs o k (by omega)⟩
/-- The cells behind the first i entries of a row are written: the first i entries stay. -/
theorem R_front {g base n cap i : Nat} {w : World} {ys : List S24} (h : Kd.R k24 24 w base (fun _ => True) (.slice (some ⟨g, 0, none⟩) n cap) ys) (hi : i ≤ ys.length) (vs : List Value) (hl : i * 2 + vs.length ≤ cap * 2) :
    Kd.R k24 24 (w.setCells g (i * 2) vs) base (fun _ => True) (.slice (some ⟨g, 0, none⟩) i cap) (ys.take i) := by
  obtain ⟨h0, inner, ho, hr⟩ := Kd.R_take h hi
  refine ⟨fun _ _ => trivial, inner, ?_, hr.1, fun j p hj => ?_⟩
  · obtain ⟨hl1, h1 | ⟨g', cap', cur, hv, hb, hh, hnc, hcm, hcs, ht⟩⟩ := ho
    · cases h1.1
    · injection hv with e1 e2 e3
      injection e1 with e1
      injection e1 with e1
      subst e1; subst e3
      obtain ⟨cur', h3, h4, h5⟩ := setCells_row vs (i * 2) w cur hh (by rw [hcs]; exact hl)
      refine ⟨hl1, Or.inr ⟨g, cap, cur', by rw [← e2], hb, h3, hnc, hcm, by rw [h4]; exact hcs, ?_⟩⟩
      have hlen : (ys.take i).length = i := by rw [List.length_take]; omega
      rw [hlen] at ht ⊢
      have hsz : k24.sz = 2 := rfl
      have hcl : i * 2 ≤ cur.toList.length := by rw [Array.length_toList, hcs, hsz]; omega
      rw [hsz] at ht ⊢
      rw [h5, List.append_assoc, List.take_append_of_le_length (by rw [List.length_take]; omega), List.take_take, Nat.min_self]
      exact ht
  · have := hr.2 j p hj
    exact this
theorem run_clear_rows {P : Program} (w : World) (t e ty : TypeId) (z : Value) (q : TypeId) (ht : P.underlying t = some (.slice e)) (hv : (zeroValue e).run P w = .ok z w) (b o n c m : Nat) (hn : 0 < n)
    (cur : Array Value) (hh : w.heap[b]? = some (.cells cur q (0, 0))) (hl : o + (Builtin.zeroCells z.cells n).toList.length ≤ cur.size) (h1 : ∀ v ∈ (Builtin.zeroCells z.cells n).toList, v.oneCell' = true) :
    (Builtin.clear_ #[t] ty #[.slice (some ⟨b, o, none⟩) n c]).run P w = .ok (.tuple #[]) (w.setCells b o (Builtin.zeroCells z.cells n).toList) := by
  have hst := run_storeCells_cells (P := P) b o (Builtin.zeroCells z.cells n).toList 0 w
    (fun j hj => by
      have hj2 : o + 0 + j < cur.size := by omega
      rw [blk_cell hh, Array.getElem?_eq_getElem hj2]; rfl) (fun j hj => blk_frozen hh _) h1
  simp only [Nat.add_zero] at hst
  obtain ⟨k, rfl⟩ : ∃ m, n = m + 1 := ⟨n - 1, by omega⟩
  simp [Builtin.clear_, run_underlying ht, hv, hst]

set_option maxHeartbeats 2000000 in
theorem delete_walk (v : Value) (l0 : List S24) (nm : ByteArray) (B base : Nat) (w : World) (hr0 : Kd.R k24 24 w base (fun _ => True) v l0) (hbase : base ≤ w.heap.size) (hn : l0.length < 1000000000000) (hB : w.cell? ⟨B, 0, none⟩ = some (.string nm)) (hBb : B < base) :
    Calls Try.prog 29 #[v, .func (.func 31) #[] #[.pointer (some ⟨B, 0, none⟩)]] w fun e w' => ∃ v0_ : Value, e = .returned v0_ ∧ Kd.R k24 24 w' base (fun _ => True) v0_ (l0.filter (fun x => !hit nm x)) ∧ Below base w w' := by
  have hu := Try.underlying24
  obtain ⟨A, c, rfl⟩ := Kd.R_slice hr0
  obtain ⟨-, hc, hC⟩ := Kd.R_reads' hr0
  rcases idx_ge l0 nm _ 0 rfl with hi | ⟨i, hi, -, hil, hhit, hbef⟩
  · have HN := Aside0.mk (none_cut l0 nm hi)
    have HI := Aside0.mk hi
    have HR := Aside0.mk hr0
    clear hi hr0
    go_enter Try.func29, Try.ntmps29
    go_wp2_with (go_at_call 38; refine (index_walk A c l0 nm B _ hC hc hn hB).mono ?_; rintro e w' ⟨rfl, hb⟩; rw [HI.out]; have HB2 := Aside0.mk hb; clear hb)
    go_ret
    exact ⟨_, rfl, by rw [HN.out]; exact Kd.R_below HR.out HB2.out, HB2.out.mono hbase⟩
  · obtain ⟨g, cap, e, hbg, hgl, -⟩ := Kd.R_form hr0 (by omega)
    injection e with e1 e2 e3
    clear e2
    subst e1; subst e3
    have HI := Aside0.mk hi
    have HS := Aside0.mk (Shifted.start hil hhit hbef)
    have HR := Aside0.mk hr0
    have HBc := Aside0.mk hB
    have hib : ((i : Int) == -1) = false := beq_eq_false_iff_ne.2 (by omega)
    have HG := Aside0.mk hbg
    clear hi hr0 hhit hbef hB
    go_enter Try.func29, Try.ntmps29
    go_wp2_with (go_at_call 38; refine (index_walk _ c l0 nm B _ hC hc hn HBc.out).mono ?_; rintro e w' ⟨rfl, hb⟩; rw [HI.out]; have HB2 := Aside0.mk hb; clear hb)
    go_loopw [5, 6] (fun v5 v6 wr => ∃ (i j : Nat) (ys : List S24), j ≤ l0.length ∧ i < j ∧ v5 = .int .i64 i ∧ v6 = .int .i64 j ∧ Aside0 (Shifted l0 ys nm i j) ∧ Aside0 (Kd.R k24 24 wr base (fun _ => True) (.slice (some ⟨g, 0, none⟩) l0.length c) ys) ∧ Aside0 (Below base w wr)) (fun v5 v6 _ => l0.length - (intOf v6).toNat)
    case atStart => exact ⟨i, i + 1, l0, by omega, by omega, rfl, rfl, HS, ⟨Kd.R_below HR.out HB2.out⟩, ⟨HB2.out.mono hbase⟩⟩
    case round =>
      clear HI HS HR HB2 hib hil hC
      obtain ⟨i, j, ys, hj, hij, rfl, rfl, HS, HR, HB⟩ := hrel
      by_cases hlt : j < l0.length
      · have hyl := HS.out.1
        obtain ⟨-, -, hC⟩ := Kd.R_reads' HR.out
        obtain ⟨ad, e, hx0, hx1⟩ := at_T24 hC (j : Int) (by omega) (by omega)
        injection e with e
        subst e
        rw [Int.toNat_natCast, add_plain] at hx0 hx1
        rw [HS.out.at_ hlt] at hx0 hx1
        replace hx1 : wr.cell? ⟨g, j * 2 + 1, none⟩ = _ := hx1
        have HX : ∃ x, x = l0[j] := ⟨_, rfl⟩
        obtain ⟨x, hx⟩ := HX
        rw [← hx] at hx0 hx1
        have HX := Aside0.mk hx
        clear hx hyl hC
        have HL := Aside0.mk ((HB.out.cell (p := ⟨B, 0, none⟩) hBb).trans HBc.out)
        have HRs := Aside0.mk (Nat.le_trans hbase HB.out.size)
        by_cases hp : hit nm x = true
        · go_wp2_with (go_at_call 31; refine (pr_walk x nm B _ (Lib.cell?_alloc_some _ HL.out)).mono ?_; rintro e w1 ⟨rfl, hb⟩; have HB2 := Aside0.mk ((below_alloc (Below.refl _ _) _).trans (hb.mono (by simp))); clear hb)
          go_roundw
          case rel => exact ⟨i, j + 1, ys, by omega, by omega, rfl, rfl, ⟨HS.out.drop_ hlt (by rw [← HX.out]; exact hp)⟩, ⟨Kd.R_below HR.out HB2.out⟩, ⟨HB.out.trans (HB2.out.mono HRs.out)⟩⟩
          case measure => simp [intOf]; omega
        · replace hp : hit nm x = false := by simpa using hp
          have hyl := HS.out.1
          obtain ⟨-, -, hC⟩ := Kd.R_reads' HR.out
          obtain ⟨ad, e, hy0, hy1⟩ := at_T24 hC (i : Int) (by omega) (by omega)
          injection e with e
          subst e
          rw [Int.toNat_natCast, add_plain] at hy0 hy1
          replace hy1 : wr.cell? ⟨g, i * 2 + 1, none⟩ = _ := hy1
          generalize rd_T24 ys (i : Int) = y at hy0 hy1
          have HY0 := Aside0.mk hy0
          have HY1 := Aside0.mk hy1
          have HYL := Aside0.mk hyl
          clear hy0 hy1 hyl hC
          go_wp2_with (first | (go_at_call 31; refine (pr_walk x nm B _ (Lib.cell?_alloc_some _ HL.out)).mono ?_; rintro e w1 ⟨rfl, hb⟩; have hz0 : w1.cell? ⟨wr.heap.size, 0, none⟩ = some (.string x.f0) := (hb.cell (p := ⟨wr.heap.size, 0, none⟩) (by simp)).trans ((blk_cell (blk_new wr _) 0).trans rfl); have hz1 : w1.cell? ⟨wr.heap.size, 1, none⟩ = some (.int .i64 x.f1) := (hb.cell (p := ⟨wr.heap.size, 1, none⟩) (by simp)).trans ((blk_cell (blk_new wr _) 1).trans rfl); have HB2 := Aside0.mk ((below_alloc (Below.refl _ _) _).trans (hb.mono (by simp))); clear hb) | ((with_reducible refine gate_store (t := 24) (p := 33) rfl ?_); refine Kd.R_store k24 (w0 := w1) (g := g) (n := l0.length) (cap := c) (o' := i * 2) base rfl rfl 24 (.tmp 33) (.tmp 32) rfl 24 (i : Int) 0 ys x (.agg #[.string x.f0, .int .i64 x.f1]) [.string x.f0, .int .i64 x.f1] [.string y.f0, .int .i64 y.f1] (fun _ => True) (fun _ => False) ?ha ?ho ?hx ?hu ?ht ?h1 (Kd.R_below HR.out HB2.out) ?h0 ?hi ?hcl ?hcc ?hj ?hM ?hok (Below.refl _ _) ?_; (case ha => rfl); (case ho => rfl); (case hx => rfl); (case hu => rfl); (case ht => exact by kernel_rfl); (case h1 => intro q hq; simp at hq; rcases hq with rfl | rfl <;> rfl); (case h0 => omega); (case hi => omega); (case hcl => rfl); (case hcc => intro j u hu; match j, hu with | 0, hu => (cases hu; exact HB2.out.cell (p := ⟨g, i * 2, none⟩) (World.block_lt_of_cell? wr _ HY0.out) |>.trans HY0.out) | 1, hu => (cases hu; exact HB2.out.cell (p := ⟨g, i * 2 + 1, none⟩) (World.block_lt_of_cell? wr _ HY1.out) |>.trans HY1.out)); (case hj => exact Nat.le_refl _); (case hM => exact k24_mkM _ _ _ x); (case hok => exact fun _ h => h.elim); intro w2 hr hb hg; have HR2 := Aside0.mk hr; have HB3 := Aside0.mk hb; clear hr hb hg))
          go_roundw
          case rel => exact ⟨i + 1, j + 1, ys.set i x, by omega, by omega, rfl, rfl, ⟨by rw [HX.out]; exact HS.out.keep hlt (by rw [← HX.out]; exact hp)⟩, ⟨HR2.out⟩, ⟨(HB.out.trans (HB2.out.mono HRs.out)).trans HB3.out⟩⟩
          case measure => simp [intOf]; omega
      · have hjl : j = l0.length := by omega
        subst hjl
        have hyl := HS.out.1
        obtain ⟨inner, ho⟩ := Kd.R_own HR.out
        obtain ⟨_, h1 | ⟨g', cap', cur, hv, hb, hh, hnc, hcm, hcs, ht⟩⟩ := ho
        · cases h1.1
        · injection hv with e1 e2 e3
          injection e1 with e1
          injection e1 with e1
          subst e1; subst e3
          clear e2 ht
          have hsz : k24.sz = 2 := rfl
          rw [hsz] at hcs
          have hzl : (Builtin.zeroCells (#[.string ⟨#[]⟩, .int .i64 0] : Array Value) (l0.length - i)).toList.length = (l0.length - i) * 2 := by simp [Builtin.zeroCells]
          have hcl : ∀ ty, (Builtin.clear_ #[22] ty #[.slice (some ⟨g, i * 2, none⟩) (l0.length - i) (c - i)]).run Try.prog wr = .ok (.tuple #[]) (wr.setCells g (i * 2) (Builtin.zeroCells (#[.string ⟨#[]⟩, .int .i64 0] : Array Value) (l0.length - i)).toList) := fun ty => by
            refine run_clear_rows wr 22 24 ty (.agg #[.string ⟨#[]⟩, .int .i64 0]) 24 Try.underlying22 (by kernel_rfl) g (i * 2) (l0.length - i) (c - i) 0 (by omega) cur hh ?_ ?_
            · show i * 2 + (Builtin.zeroCells (#[.string ⟨#[]⟩, .int .i64 0] : Array Value) (l0.length - i)).toList.length ≤ _
              rw [hzl, hcs]; omega
            · intro v hv
              simp only [Builtin.zeroCells, Array.toList_map, List.mem_map] at hv
              obtain ⟨k, _, rfl⟩ := hv
              show (#[Value.string ⟨#[]⟩, Value.int .i64 0] : Array Value)[k % 2]!.oneCell' = true
              rcases (by omega : k % 2 = 0 ∨ k % 2 = 1) with e | e <;> rw [e] <;> rfl
          have HF := Aside0.mk (R_front HR.out (i := i) (by omega) (Builtin.zeroCells (#[.string ⟨#[]⟩, .int .i64 0] : Array Value) (l0.length - i)).toList (by rw [hzl]; omega))
          have HB2 := Aside0.mk (HB.out.trans (below_setCells hb (Builtin.zeroCells (#[.string ⟨#[]⟩, .int .i64 0] : Array Value) (l0.length - i)).toList wr (o := i * 2)))
          have HFL := Aside0.mk (show ys.take i = l0.filter (fun x => !hit nm x) by rw [HS.out.2.2.2.1, List.take_length])
          generalize (Builtin.zeroCells (#[.string ⟨#[]⟩, .int .i64 0] : Array Value) (l0.length - i)).toList = zs at hcl HF HB2
          clear hyl hzl hcs hh hcm hnc hsz
          go_wp2
          go_ret
          exact ⟨_, rfl, by rw [← HFL.out]; exact HF.out, HB2.out⟩
def dirent_Cut.f (l0 : List S24) (a1 : ByteArray) : Option (List S24) := if l0.length < 1000000000000 then some (l0.filter (fun x => !hit a1 x)) else none
set_option maxHeartbeats 1000000 in
theorem dirent_Cut.calls (A0 : Option Addr) (c0 : Nat) (l0 : List (S24)) (a1 : ByteArray) (r : List (S24)) (w : World) (hr0 : Kd.C k24 w A0 l0.length l0) (hc0 : l0.length ≤ c0) (h : dirent_Cut.f l0 a1 = some r) :
    Calls Try.prog 17 #[.slice A0 l0.length c0, .string a1] w fun e w' => ∃ v0_ : Value, e = .returned (v0_) ∧ Kd.R k24 24 w' w.heap.size (fun _ => True) v0_ r ∧ Below w.heap.size w w' := by
  unfold dirent_Cut.f at h
  by_cases hn : l0.length < 1000000000000
  · rw [if_pos hn] at h
    obtain rfl := Option.some.inj h
    have hb0 := below_alloc (Below.refl w.heap.size w) (.cells #[.string a1] 9)
    have HR := Aside0.mk (Kd.C_below hr0 hb0)
    have HB0 := Aside0.mk hb0
    have HC := Aside0.mk (show (w.alloc (.cells #[.string a1] 9)).cell? ⟨w.heap.size, 0, none⟩ = some (.string a1) from (blk_cell (blk_new w _) 0).trans rfl)
    clear hb0 hr0
    go_enter Try.func17, Try.ntmps17
    go_wp2_with (first | (go_at_call 30; refine (clone_walk A0 c0 l0 _ HR.out hc0 hn).mono ?_; rintro e w1 ⟨v1, rfl, ho, hb⟩; have HO := Aside0.mk ho; have HB := Aside0.mk hb; clear ho hb) | (go_at_call 29; refine (delete_walk v1 l0 a1 w.heap.size (w.alloc (.cells #[.string a1] 9)).heap.size _ HO.out HB.out.size hn ((HB.out.cell (p := ⟨w.heap.size, 0, none⟩) (by simp)).trans HC.out) (by simp)).mono ?_; rintro e w2 ⟨v2, rfl, ho, hb⟩; have HO2 := Aside0.mk ho; have HB2 := Aside0.mk hb; clear ho hb))
    go_ret
    exact ⟨_, rfl, Kd.R_lower HO2.out (by simp), HB0.out.trans ((HB.out.trans HB2.out).mono (by simp))⟩
  · rw [if_neg hn] at h
    cases h
end Go.Proofs.Ytllfjmmdackgdaa.PZ
