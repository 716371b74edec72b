import Derived.Test.YtllfjmmdackgdaaDoorM05
import Derived.Test.YtllfjmmdackgdaaDoorM06
import Derived.Lib.SliceRun
set_option linter.unusedVariables false
set_option linter.unusedSimpArgs false
/-! GFind -/
section
namespace Go.Proofs.YtllfjmmdackgdaaDoor.PZ
open Go.RowKit Go.Proofs.YtllfjmmdackgdaaDoorW.PrintWords Go.Proofs.YtllfjmmdackgdaaDoorW.PrintLast Go.Proofs.YtllfjmmdackgdaaDoorW.PrintMore
set_option maxRecDepth 100000
set_option linter.unusedVariables false
set_option linter.unusedSimpArgs false
/-- The comparison that the closure answers. -/
def cmpE (x : S102) (t : ByteArray) : Int := Lib.compareBytes x.f0.data.toList t.data.toList
def bsGo (l : List S102) (t : ByteArray) (i j : Nat) : Nat :=
  if i < j then (if cmpE (rd_T102 l ((i + j) / 2 : Nat)) t < 0 then bsGo l t ((i + j) / 2 + 1) j else bsGo l t i ((i + j) / 2)) else i
termination_by j - i
decreasing_by all_goals omega
def dirent_Find.f (l0 : List S102) (a1 : ByteArray) : Option (Int × Bool) :=
  if l0.length < 1000000000000 then some ((bsGo l0 a1 0 l0.length : Int), decide ((bsGo l0 a1 0 l0.length : Int) < l0.length) && decide (cmpE (rd_T102 l0 (bsGo l0 a1 0 l0.length)) a1 = 0)) else none
theorem cmp_walk (x : S102) (t : ByteArray) (w : World) :
    Calls Tryd.prog 100 #[.agg #[.string x.f0, .int .i64 x.f1], .string t] w fun e w' => e = .returned (.int .i64 (cmpE x t)) ∧ Below w.heap.size w w' := by
  have hu := Tryd.underlying102
  go_enter Tryd.func100, Tryd.ntmps100
  go_wp2_with (go_at_call 101; refine (Tryd.strings_Compare _ _ _).mono ?_; rintro e w' ⟨rfl, rfl⟩)
  go_ret
  exact ⟨rfl, (Below.refl _ _).alloc (Nat.le_refl _) _⟩
set_option maxHeartbeats 1000000 in
theorem bs_walk (A0 : Option Addr) (c0 : Nat) (l0 : List S102) (t : ByteArray) (w : World) (hr0 : Kd.C k102 w A0 l0.length l0) (hc0 : l0.length ≤ c0) (hbig : l0.length < 1000000000000) :
    Calls Tryd.prog 99 #[.slice A0 l0.length c0, .string t, .func (.func 100) #[] #[]] w fun e w' => e = .returned (.tuple #[.int .i64 (bsGo l0 t 0 l0.length), .bool (decide ((bsGo l0 t 0 l0.length : Int) < l0.length) && decide (cmpE (rd_T102 l0 (bsGo l0 t 0 l0.length)) t = 0))]) ∧ Below w.heap.size w w' := by
  have hu := Tryd.underlying102
  have HR0 := Aside0.mk hr0
  have HC0 := Aside0.mk hc0
  clear hr0 hc0
  go_enter Tryd.func99, Tryd.ntmps99
  go_wp2
  go_loopw [9, 10] (fun v9 v10 wr => ∃ i j : Nat, i ≤ j ∧ j ≤ l0.length ∧ v9 = .int .i64 i ∧ v10 = .int .i64 j ∧ Aside0 (bsGo l0 t i j = bsGo l0 t 0 l0.length) ∧ Aside0 (Below w.heap.size w wr)) (fun v9 v10 _ => (intOf v10).toNat - (intOf v9).toNat)
  case atStart => exact ⟨0, l0.length, Nat.zero_le _, Nat.le_refl _, rfl, rfl, ⟨rfl⟩, ⟨Below.refl _ _⟩⟩
  case round =>
    obtain ⟨i, j, hij, hj, rfl, rfl, HE, HB⟩ := hrel
    have HJ := Aside0.mk hj
    by_cases hlt : i < j
    · obtain ⟨ad, e, hx0, hx1⟩ := at_T102 HR0.out (((i + j) / 2 : Nat) : Int) (by omega) (by omega)
      cases e
      rw [Int.toNat_natCast] at hx0 hx1
      generalize hX : rd_T102 l0 (((i + j) / 2 : Nat) : Int) = x at hx0 hx1
      replace hx0 := (HB.out.cell (World.block_lt_of_cell? w _ hx0)).trans hx0
      replace hx1 := (HB.out.cell (World.block_lt_of_cell? w _ hx1)).trans hx1
      have hi : ((i : Int) + j) / 2 = (((i + j) / 2 : Nat) : Int) := by omega
      by_cases hc : cmpE x t < 0
      · have hcb : decide (cmpE x t < 0) = true := decide_eq_true hc
        have HE2 := Aside0.mk (HE.out.symm.trans (by rw [bsGo, if_pos hlt, hX, if_pos hc] : bsGo l0 t i j = bsGo l0 t ((i + j) / 2 + 1) j))
        have HI := Aside0.mk hi
        clear hc hi hX
        go_wp2_with (go_at_call 100; refine (cmp_walk x t _).mono ?_; rintro e w' ⟨rfl, hb⟩; have HB2 := Aside0.mk hb; clear hb)
        go_roundw
        case rel => exact ⟨(i + j) / 2 + 1, j, by omega, HJ.out, by rw [HI.out]; rfl, rfl, ⟨HE2.out.symm⟩, ⟨below_step HB.out HB2.out⟩⟩
        case measure => simp [intOf]; omega
      · have hcb : decide (cmpE x t < 0) = false := decide_eq_false hc
        have HE2 := Aside0.mk (HE.out.symm.trans (by rw [bsGo, if_pos hlt, hX, if_neg hc] : bsGo l0 t i j = bsGo l0 t i ((i + j) / 2)))
        have HI := Aside0.mk hi
        clear hc hi hX
        go_wp2_with (go_at_call 100; refine (cmp_walk x t _).mono ?_; rintro e w' ⟨rfl, hb⟩; have HB2 := Aside0.mk hb; clear hb)
        go_roundw
        case rel => exact ⟨i, (i + j) / 2, by omega, by have := HJ.out; omega, rfl, by rw [HI.out], ⟨HE2.out.symm⟩, ⟨below_step HB.out HB2.out⟩⟩
        case measure => simp [intOf]; omega
    · have hij' : i = j := by omega
      subst hij'
      have hq : bsGo l0 t 0 l0.length = i := by rw [← HE.out, bsGo, if_neg (by omega)]
      have HQ := Aside0.mk hq
      clear hq HE
      by_cases hn : i < l0.length
      · obtain ⟨ad, e, hx0, hx1⟩ := at_T102 HR0.out (i : Int) (by omega) (by omega)
        cases e
        rw [Int.toNat_natCast] at hx0 hx1
        generalize hX : rd_T102 l0 (i : Int) = x at hx0 hx1
        have HX := Aside0.mk hX
        clear hX
        replace hx0 := (HB.out.cell (World.block_lt_of_cell? w _ hx0)).trans hx0
        replace hx1 := (HB.out.cell (World.block_lt_of_cell? w _ hx1)).trans hx1
        have hnb : decide ((i : Int) < l0.length) = true := decide_eq_true (by omega)
        have hnc : decide (i < l0.length) = true := decide_eq_true (by omega)
        go_wp2_with (go_at_call 100; refine (cmp_walk x t _).mono ?_; rintro e w' ⟨rfl, hb⟩; have HB2 := Aside0.mk hb; clear hb)
        go_ret2
        exact ⟨by rw [HQ.out, HX.out]; simp [hn]; rw [Bool.eq_iff_iff]; simp, below_step HB.out HB2.out⟩
      · have hnb : decide ((i : Int) < l0.length) = false := decide_eq_false (by omega)
        have hnc : decide (i < l0.length) = false := decide_eq_false (by omega)
        go_wp2
        go_ret2
        exact ⟨by rw [HQ.out]; simp [hn], HB.out⟩
theorem dirent_Find.calls (A0 : Option Addr) (c0 : Nat) (l0 : List (S102)) (a1 : ByteArray) (r1 : Int) (r2 : Bool) (w : World) (hr0 : Kd.C k102 w A0 l0.length l0) (hc0 : l0.length ≤ c0) (h : dirent_Find.f l0 a1 = some (r1, r2)) :
    Calls Tryd.prog 83 #[.slice A0 l0.length c0, .string a1] w fun e w' => e = .returned (.tuple #[.int .i64 r1, .bool r2]) ∧ Below w.heap.size w w' := by
  unfold dirent_Find.f at h
  by_cases hb : l0.length < 1000000000000
  · rw [if_pos hb] at h
    cases h
    go_enter Tryd.func83, Tryd.ntmps83
    go_wp2_with (go_at_call 99; refine (bs_walk A0 c0 l0 a1 _ hr0 hc0 hb).mono ?_; rintro e w' ⟨rfl, hq⟩; have HB2 := Aside0.mk hq; clear hq)
    go_ret2
    exact ⟨by first | rfl | (simp; done) | (simp [beq_iff_eq]), HB2.out⟩
  · rw [if_neg hb] at h
    cases h
end Go.Proofs.YtllfjmmdackgdaaDoor.PZ
end
/-! GInfo -/
section
namespace Go.Proofs.YtllfjmmdackgdaaDoor.PZ
theorem infoE : (Tryd.prog.info? 102).map (fun i => (i.zero, i.size, i.bytes)) = some (some (.agg #[(.string ⟨#[]⟩), (.int .i64 0)]), 2, 24) := by kernel_rfl
end Go.Proofs.YtllfjmmdackgdaaDoor.PZ
end
/-! GClone -/
section
namespace Go.Proofs.YtllfjmmdackgdaaDoor.PZ
open Go.RowKit Go.Proofs.YtllfjmmdackgdaaDoorW.PrintWords Go.Proofs.YtllfjmmdackgdaaDoorW.PrintLast Go.Proofs.YtllfjmmdackgdaaDoorW.PrintMore
set_option maxRecDepth 100000
set_option linter.unusedVariables false
set_option linter.unusedSimpArgs false
theorem clone_walk (A0 : Option Addr) (c0 : Nat) (l0 : List S102) (w : World) (hr0 : Kd.C k102 w A0 l0.length l0) (hc0 : l0.length ≤ c0) (hn : l0.length < 1000000000000) :
    Calls Tryd.prog 67 #[.slice A0 l0.length c0] w fun e w' => ∃ v0_ : Value, e = .returned v0_ ∧ Kd.R k102 102 w' w.heap.size (fun _ => True) v0_ l0 ∧ Below w.heap.size w w' := by
  have hu := Tryd.underlying102
  cases A0 with
  | none =>
    have h0 : l0 = [] := by
      rcases Nat.eq_zero_or_pos l0.length with h | h
      · exact List.eq_nil_of_length_eq_zero h
      · obtain ⟨ad, e, _⟩ := at_T102 hr0 0 (by omega) (by omega)
        cases e
    subst h0
    have hnil : ∀ W, (binOp .eql 56 (.slice none 0 c0) (.slice none 0 0)).run Tryd.prog W = .ok (.bool true) W := fun W => Lib.run_eql_slice_nil (P := Tryd.prog) W 56 102 none 0 c0 0 0 Tryd.underlying56
    go_enter Tryd.func67, Tryd.ntmps67
    go_wp2
    go_ret
    exact ⟨_, rfl, Kd.R_nil _ _ _ _ _, Below.refl _ _⟩
  | some ad =>
    have HR0 := Aside0.mk hr0
    clear hr0
    have hnil : ∀ W, (binOp .eql 56 (.slice (some ad) l0.length c0) (.slice none 0 0)).run Tryd.prog W = .ok (.bool false) W := fun W => Lib.run_eql_slice_nil (P := Tryd.prog) W 56 102 (some ad) l0.length c0 0 0 Tryd.underlying56
    have HB := Aside0.mk (Below.refl w.heap.size w)
    go_enter Tryd.func67, Tryd.ntmps67
    go_wp2_with (first | ((with_reducible refine gate_dst (N := 5) rfl ?_); refine Kd.R_lit k102 _ 102 ?hg (N := 5) ?hd (xs := ([] : List S102)) (inner := []) (ok := fun _ => True) (okp := fun _ => True) ?hr ?hp (fun _ hk => hk) trivial (Below.refl _ _) (Nat.le_refl _) (by simp) ?_; (case hd => rfl); (case hg => rfl); (case hr => first | (go_simp; done) | (go_simp; rfl)); (case hp => exact (Reps.none _ _)); intro v1 w1 ho hb hg_ hnew_; clear hg_ hnew_; have HO := Aside0.mk ho; have HB1 := Aside0.mk hb; clear hb ho) | ((with_reducible refine gate_builtin (b := .append) (xs := #[.tmp 5, .tmp 6]) rfl ?_); at_builtin; refine Kd.R_append_rows k102 (w0 := w) w.heap.size rfl (.tmp 5) (.tmp 6) 56 102 (.agg #[(.string ⟨#[]⟩), (.int .i64 0)]) 24 rfl Tryd.underlying56 infoE rfl (by decide) (by omega) v1 [] l0 _ _ _ (fun _ => True) (fun _ => False) rfl rfl ?aO ?aR (fun _ _ h => h) (fun _ h => h.elim) (fun _ _ => trivial) ?aB ?aS ?aL ?_; (case aR => exact Kd.C_below HR0.out HB1.out); (case aB => exact HB1.out); (case aO => exact HO.out); (case aS => exact HB1.out.size); (case aL => simp; omega); intro v2 w2 ho hb hg hat; have HO2 := Aside0.mk ho; have HB2 := Aside0.mk hb; clear ho hb hg hat))
    go_ret
    exact ⟨_, rfl, HO2.out, HB2.out⟩
end Go.Proofs.YtllfjmmdackgdaaDoor.PZ
end
/-! GCut -/
section
namespace Go.Proofs.YtllfjmmdackgdaaDoor.PZ
open Go.RowKit Go.Proofs.YtllfjmmdackgdaaDoorW.PrintWords Go.Proofs.YtllfjmmdackgdaaDoorW.PrintLast Go.Proofs.YtllfjmmdackgdaaDoorW.PrintMore
set_option maxRecDepth 100000
set_option linter.unusedVariables false
set_option linter.unusedSimpArgs false
/-- The closure's answer. -/
def hit (nm : ByteArray) (x : S102) : Bool := x.f0.toList == nm.toList
def idxFrom (l : List S102) (nm : ByteArray) (k : Nat) : Int :=
  if k < l.length then (if hit nm (rd_T102 l (k : Int)) = true then (k : Int) else idxFrom l nm (k + 1)) else -1
termination_by l.length - k
decreasing_by omega
theorem pr_walk (x : S102) (nm : ByteArray) (B : Nat) (w : World) (hB : w.cell? ⟨B, 0, none⟩ = some (.string nm)) :
    Calls Tryd.prog 117 #[.agg #[.string x.f0, .int .i64 x.f1], .pointer (some ⟨B, 0, none⟩)] w fun e w' => e = .returned (.bool (hit nm x)) ∧ Below w.heap.size w w' := by
  have hu := Tryd.underlying102
  have hlt : B < w.heap.size := World.block_lt_of_cell? w _ hB
  have hB2 : ∀ o, (w.alloc o).cell? ⟨B, 0, none⟩ = some (.string nm) := fun o => Lib.cell?_alloc_some o hB
  go_enter Tryd.func117, Tryd.ntmps117
  go_wp2
  go_ret
  exact ⟨rfl, (Below.refl _ _).alloc (Nat.le_refl _) _⟩
set_option maxHeartbeats 1000000 in
theorem index_walk (A0 : Option Addr) (c0 : Nat) (l0 : List S102) (nm : ByteArray) (B : Nat) (w : World) (hr0 : Kd.C k102 w A0 l0.length l0) (hc0 : l0.length ≤ c0) (hn : l0.length < 1000000000000) (hB : w.cell? ⟨B, 0, none⟩ = some (.string nm)) :
    Calls Tryd.prog 121 #[.slice A0 l0.length c0, .func (.func 117) #[] #[.pointer (some ⟨B, 0, none⟩)]] w fun e w' => e = .returned (.int .i64 (idxFrom l0 nm 0)) ∧ Below w.heap.size w w' := by
  have hu := Tryd.underlying102
  have HR0 := Aside0.mk hr0
  have HBc := Aside0.mk hB
  clear hr0 hB
  go_enter Tryd.func121, Tryd.ntmps121
  go_wp2
  go_loopw [5, 8] (fun v5 v8 wr => ∃ k : Nat, k ≤ l0.length ∧ v8 = .int .i64 k ∧ Aside0 (idxFrom l0 nm k = idxFrom l0 nm 0) ∧ Aside0 (Below w.heap.size w wr)) (fun v5 v8 _ => l0.length - (intOf v8).toNat)
  case atStart => exact ⟨0, Nat.zero_le _, rfl, ⟨rfl⟩, ⟨Below.refl _ _⟩⟩
  case round =>
    obtain ⟨k, hk, rfl, HE, HB⟩ := hrel
    by_cases hlt : k < l0.length
    · obtain ⟨ad, e, hx0, hx1⟩ := at_T102 HR0.out (k : Int) (by omega) (by omega)
      cases e
      rw [Int.toNat_natCast] at hx0 hx1
      generalize hX : rd_T102 l0 (k : Int) = x at hx0 hx1
      replace hx0 := (HB.out.cell (World.block_lt_of_cell? w _ hx0)).trans hx0
      replace hx1 := (HB.out.cell (World.block_lt_of_cell? w _ hx1)).trans hx1
      have HC := Aside0.mk ((HB.out.cell (World.block_lt_of_cell? w _ HBc.out)).trans HBc.out)
      by_cases hp : hit nm x = true
      · have HQ := Aside0.mk (HE.out.symm.trans (by rw [idxFrom, if_pos hlt, hX, if_pos hp] : idxFrom l0 nm k = (k : Int)))
        clear hX
        go_wp2_with (go_at_call 117; refine (pr_walk x nm B _ HC.out).mono ?_; rintro e w' ⟨rfl, hb⟩; have HB2 := Aside0.mk hb; clear hb)
        go_ret
        exact ⟨by rw [HQ.out]; rfl, below_step HB.out HB2.out⟩
      · replace hp : hit nm x = false := by simpa using hp
        have HE2 := Aside0.mk (HE.out.symm.trans (by rw [idxFrom, if_pos hlt, hX, if_neg (by rw [hp]; decide)] : idxFrom l0 nm k = idxFrom l0 nm (k + 1)))
        clear hX
        go_wp2_with (go_at_call 117; refine (pr_walk x nm B _ HC.out).mono ?_; rintro e w' ⟨rfl, hb⟩; have HB2 := Aside0.mk hb; clear hb)
        go_roundw
        case rel => exact ⟨k + 1, by omega, rfl, ⟨HE2.out.symm⟩, ⟨below_step HB.out HB2.out⟩⟩
        case measure => simp [intOf]; omega
    · have hkl : k = l0.length := by omega
      subst hkl
      have HQ := Aside0.mk (HE.out.symm.trans (by rw [idxFrom, if_neg (by omega)] : idxFrom l0 nm l0.length = (-1 : Int)))
      go_wp2
      go_ret
      exact ⟨by rw [HQ.out]; rfl, HB.out⟩
/-- What the row holds while the loop runs: the kept ones of the first j stand in front. -/
def Shifted (l ys : List S102) (nm : ByteArray) (i j : Nat) : Prop :=
  ys.length = l.length ∧ i < j ∧ j ≤ l.length ∧ ys.take i = (l.take j).filter (fun x => !hit nm x) ∧ ys.drop j = l.drop j
theorem idx_ge (l : List S102) (nm : ByteArray) : ∀ (d k : Nat), l.length - k = d → idxFrom l nm k = -1 ∨ ∃ i : Nat, idxFrom l nm k = i ∧ k ≤ i ∧ i < l.length ∧ hit nm (rd_T102 l (i : Int)) = true ∧ ∀ j, k ≤ j → j < i → hit nm (rd_T102 l (j : Int)) = false := by
  intro d
  induction d with
  | zero => intro k hk; left; rw [idxFrom, if_neg (by omega)]
  | succ d ih =>
    intro k hk
    rw [idxFrom, if_pos (by omega)]
    by_cases h : hit nm (rd_T102 l (k : Int)) = true
    · rw [if_pos h]
      exact Or.inr ⟨k, rfl, Nat.le_refl _, by omega, h, fun j h1 h2 => by omega⟩
    · rw [if_neg h]
      rcases ih (k + 1) (by omega) with h1 | ⟨i, h1, h2, h3, h4, h5⟩
      · exact Or.inl h1
      · refine Or.inr ⟨i, h1, by omega, h3, h4, fun j hj1 hj2 => ?_⟩
        by_cases e : j = k
        · subst e; simpa using h
        · exact h5 j (by omega) hj2
theorem rd_nat (l : List S102) (k : Nat) (h : k < l.length) : rd_T102 l (k : Int) = l[k] := by
  unfold rd_T102
  simp [List.getD_eq_getElem?_getD, List.getElem?_eq_getElem h]
theorem filter_all {l : List S102} {nm : ByteArray} (k : Nat) (hk : k ≤ l.length) (h : ∀ j, j < k → hit nm (rd_T102 l (j : Int)) = false) : (l.take k).filter (fun x => !hit nm x) = l.take k := by
  rw [List.filter_eq_self]
  intro x hx
  obtain ⟨j, hj, rfl⟩ := List.getElem_of_mem hx
  rw [List.length_take] at hj
  rw [List.getElem_take]
  have := h j (by omega)
  rw [rd_nat l j (by omega)] at this
  simp [this]
theorem none_cut (l : List S102) (nm : ByteArray) (h : idxFrom l nm 0 = -1) : l.filter (fun x => !hit nm x) = l := by
  have hk : ∀ (d k : Nat), l.length - k = d → idxFrom l nm k = -1 → ∀ j, k ≤ j → j < l.length → hit nm (rd_T102 l (j : Int)) = false := by
    intro d
    induction d with
    | zero => intro k _ _ j h1 h2; omega
    | succ d ih =>
      intro k hk hi j h1 h2
      rw [idxFrom, if_pos (by omega)] at hi
      by_cases hh : hit nm (rd_T102 l (k : Int)) = true
      · rw [if_pos hh] at hi; omega
      · rw [if_neg hh] at hi
        by_cases e : j = k
        · subst e; simpa using hh
        · exact ih (k + 1) (by omega) hi j (by omega) h2
  have := filter_all (l := l) (nm := nm) l.length (Nat.le_refl _) (fun j hj => hk _ 0 rfl h j (Nat.zero_le _) hj)
  rwa [List.take_length] at this
theorem Shifted.start {l : List S102} {nm : ByteArray} {i : Nat} (h3 : i < l.length) (h4 : hit nm (rd_T102 l (i : Int)) = true) (h5 : ∀ j, 0 ≤ j → j < i → hit nm (rd_T102 l (j : Int)) = false) : Shifted l l nm i (i + 1) := by
  refine ⟨rfl, by omega, by omega, ?_, rfl⟩
  rw [List.take_succ_eq_append_getElem h3, List.filter_append, filter_all i (by omega) (fun j hj => h5 j (Nat.zero_le _) hj)]
  rw [rd_nat l i h3] at h4
  simp [h4]
theorem Shifted.at_ {l ys : List S102} {nm : ByteArray} {i j : Nat} (h : Shifted l ys nm i j) (hj : j < l.length) : rd_T102 ys (j : Int) = l[j] := by
  rw [rd_nat ys j (by rw [h.1]; exact hj)]
  have h5 : (ys.drop j)[0]? = (l.drop j)[0]? := by rw [h.2.2.2.2]
  rw [List.getElem?_drop, List.getElem?_drop, Nat.add_zero, List.getElem?_eq_getElem (by rw [h.1]; exact hj), List.getElem?_eq_getElem hj] at h5
  exact Option.some.inj h5
theorem Shifted.drop_ {l ys : List S102} {nm : ByteArray} {i j : Nat} (h : Shifted l ys nm i j) (hj : j < l.length) (hh : hit nm l[j] = true) : Shifted l ys nm i (j + 1) := by
  refine ⟨h.1, by have := h.2.1; omega, by omega, ?_, ?_⟩
  · rw [List.take_succ_eq_append_getElem hj, List.filter_append, ← h.2.2.2.1]
    simp [hh]
  · rw [← List.drop_drop, ← List.drop_drop, h.2.2.2.2]
theorem Shifted.keep {l ys : List S102} {nm : ByteArray} {i j : Nat} (h : Shifted l ys nm i j) (hj : j < l.length) (hh : hit nm l[j] = false) : Shifted l (ys.set i l[j]) nm (i + 1) (j + 1) := by
  obtain ⟨h1, h2, h3, h4, h5⟩ := h
  refine ⟨by rw [List.length_set]; exact h1, by omega, by omega, ?_, ?_⟩
  · rw [List.take_succ_eq_append_getElem hj, List.filter_append, ← h4, List.take_succ_eq_append_getElem (by rw [List.length_set, h1]; omega), List.take_set_of_le (Nat.le_refl _)]
    simp [hh]
  · rw [List.drop_set_of_lt (by omega), ← List.drop_drop, ← List.drop_drop, h5]
theorem below_setCells {b base o : Nat} (hb : base ≤ b) (vs : List Value) (w : World) : Below base w (w.setCells b o vs) := by
  obtain ⟨h1, h2, h3, h4⟩ := setCells_same b vs o w
  exact ⟨h1, h2, h3, by omega, fun k hk => setCells_far vs o k (by omega)⟩
/-- The cells behind the first i entries of a row are written: the first i entries stay. -/
theorem R_front {g base n cap i : Nat} {w : World} {ys : List S102} (h : Kd.R k102 102 w base (fun _ => True) (.slice (some ⟨g, 0, none⟩) n cap) ys) (hi : i ≤ ys.length) (vs : List Value) (hl : i * 2 + vs.length ≤ cap * 2) :
    Kd.R k102 102 (w.setCells g (i * 2) vs) base (fun _ => True) (.slice (some ⟨g, 0, none⟩) i cap) (ys.take i) := by
  obtain ⟨h0, inner, ho, hr⟩ := Kd.R_take h hi
  refine ⟨fun _ _ => trivial, inner, ?_, hr.1, fun j p hj => ?_⟩
  · obtain ⟨hl1, h1 | ⟨g', cap', cur, hv, hb, hh, hnc, hcm, hcs, ht⟩⟩ := ho
    · cases h1.1
    · injection hv with e1 e2 e3
      injection e1 with e1
      injection e1 with e1
      subst e1; subst e3
      obtain ⟨cur', h3, h4, h5⟩ := setCells_row vs (i * 2) w cur hh (by rw [hcs]; exact hl)
      refine ⟨hl1, Or.inr ⟨g, cap, cur', by rw [← e2], hb, h3, hnc, hcm, by rw [h4]; exact hcs, ?_⟩⟩
      have hlen : (ys.take i).length = i := by rw [List.length_take]; omega
      rw [hlen] at ht ⊢
      have hsz : k102.sz = 2 := rfl
      have hcl : i * 2 ≤ cur.toList.length := by rw [Array.length_toList, hcs, hsz]; omega
      rw [hsz] at ht ⊢
      rw [h5, List.append_assoc, List.take_append_of_le_length (by rw [List.length_take]; omega), List.take_take, Nat.min_self]
      exact ht
  · have := hr.2 j p hj
    exact this
theorem run_clear_rows {P : Program} (w : World) (t e ty : TypeId) (z : Value) (q : TypeId) (ht : P.underlying t = some (.slice e)) (hv : (zeroValue e).run P w = .ok z w) (b o n c m : Nat) (hn : 0 < n)
    (cur : Array Value) (hh : w.heap[b]? = some (.cells cur q (0, 0))) (hl : o + (Builtin.zeroCells z.cells n).toList.length ≤ cur.size) (h1 : ∀ v ∈ (Builtin.zeroCells z.cells n).toList, v.oneCell' = true) :
    (Builtin.clear_ #[t] ty #[.slice (some ⟨b, o, none⟩) n c]).run P w = .ok (.tuple #[]) (w.setCells b o (Builtin.zeroCells z.cells n).toList) := by
  have hst := run_storeCells_cells (P := P) b o (Builtin.zeroCells z.cells n).toList 0 w
    (fun j hj => by
      have hj2 : o + 0 + j < cur.size := by omega
      rw [blk_cell hh, Array.getElem?_eq_getElem hj2]; rfl) (fun j hj => blk_frozen hh _) h1
  simp only [Nat.add_zero] at hst
  obtain ⟨k, rfl⟩ : ∃ m, n = m + 1 := ⟨n - 1, by omega⟩
  simp [Builtin.clear_, run_underlying ht, hv, hst]
set_option maxHeartbeats 2000000 in
theorem delete_walk (v : Value) (l0 : List S102) (nm : ByteArray) (B base : Nat) (w : World) (hr0 : Kd.R k102 102 w base (fun _ => True) v l0) (hbase : base ≤ w.heap.size) (hn : l0.length < 1000000000000) (hB : w.cell? ⟨B, 0, none⟩ = some (.string nm)) (hBb : B < base) :
    Calls Tryd.prog 116 #[v, .func (.func 117) #[] #[.pointer (some ⟨B, 0, none⟩)]] w fun e w' => ∃ v0_ : Value, e = .returned v0_ ∧ Kd.R k102 102 w' base (fun _ => True) v0_ (l0.filter (fun x => !hit nm x)) ∧ Below base w w' := by
  have hu := Tryd.underlying102
  obtain ⟨A, c, rfl⟩ := Kd.R_slice hr0
  obtain ⟨-, hc, hC⟩ := Kd.R_reads' hr0
  rcases idx_ge l0 nm _ 0 rfl with hi | ⟨i, hi, -, hil, hhit, hbef⟩
  · have HN := Aside0.mk (none_cut l0 nm hi)
    have HI := Aside0.mk hi
    have HR := Aside0.mk hr0
    clear hi hr0
    go_enter Tryd.func116, Tryd.ntmps116
    go_wp2_with (go_at_call 121; refine (index_walk A c l0 nm B _ hC hc hn hB).mono ?_; rintro e w' ⟨rfl, hb⟩; rw [HI.out]; have HB2 := Aside0.mk hb; clear hb)
    go_ret
    exact ⟨_, rfl, by rw [HN.out]; exact Kd.R_below HR.out HB2.out, HB2.out.mono hbase⟩
  · obtain ⟨g, cap, e, hbg, hgl, -⟩ := Kd.R_form hr0 (by omega)
    injection e with e1 e2 e3
    clear e2
    subst e1; subst e3
    have HI := Aside0.mk hi
    have HS := Aside0.mk (Shifted.start hil hhit hbef)
    have HR := Aside0.mk hr0
    have HBc := Aside0.mk hB
    have hib : ((i : Int) == -1) = false := beq_eq_false_iff_ne.2 (by omega)
    have HG := Aside0.mk hbg
    clear hi hr0 hhit hbef hB
    go_enter Tryd.func116, Tryd.ntmps116
    go_wp2_with (go_at_call 121; refine (index_walk _ c l0 nm B _ hC hc hn HBc.out).mono ?_; rintro e w' ⟨rfl, hb⟩; rw [HI.out]; have HB2 := Aside0.mk hb; clear hb)
    go_loopw [5, 6] (fun v5 v6 wr => ∃ (i j : Nat) (ys : List S102), j ≤ l0.length ∧ i < j ∧ v5 = .int .i64 i ∧ v6 = .int .i64 j ∧ Aside0 (Shifted l0 ys nm i j) ∧ Aside0 (Kd.R k102 102 wr base (fun _ => True) (.slice (some ⟨g, 0, none⟩) l0.length c) ys) ∧ Aside0 (Below base w wr)) (fun v5 v6 _ => l0.length - (intOf v6).toNat)
    case atStart => exact ⟨i, i + 1, l0, by omega, by omega, rfl, rfl, HS, ⟨Kd.R_below HR.out HB2.out⟩, ⟨HB2.out.mono hbase⟩⟩
    case round =>
      clear HI HS HR HB2 hib hil hC
      obtain ⟨i, j, ys, hj, hij, rfl, rfl, HS, HR, HB⟩ := hrel
      by_cases hlt : j < l0.length
      · have hyl := HS.out.1
        obtain ⟨-, -, hC⟩ := Kd.R_reads' HR.out
        obtain ⟨ad, e, hx0, hx1⟩ := at_T102 hC (j : Int) (by omega) (by omega)
        injection e with e
        subst e
        rw [Int.toNat_natCast, add_plain] at hx0 hx1
        rw [HS.out.at_ hlt] at hx0 hx1
        replace hx1 : wr.cell? ⟨g, j * 2 + 1, none⟩ = _ := hx1
        have HX : ∃ x, x = l0[j] := ⟨_, rfl⟩
        obtain ⟨x, hx⟩ := HX
        rw [← hx] at hx0 hx1
        have HX := Aside0.mk hx
        clear hx hyl hC
        have HL := Aside0.mk ((HB.out.cell (p := ⟨B, 0, none⟩) hBb).trans HBc.out)
        have HRs := Aside0.mk (Nat.le_trans hbase HB.out.size)
        by_cases hp : hit nm x = true
        · go_wp2_with (go_at_call 117; refine (pr_walk x nm B _ (Lib.cell?_alloc_some _ HL.out)).mono ?_; rintro e w1 ⟨rfl, hb⟩; have HB2 := Aside0.mk ((below_alloc (Below.refl _ _) _).trans (hb.mono (by simp))); clear hb)
          go_roundw
          case rel => exact ⟨i, j + 1, ys, by omega, by omega, rfl, rfl, ⟨HS.out.drop_ hlt (by rw [← HX.out]; exact hp)⟩, ⟨Kd.R_below HR.out HB2.out⟩, ⟨HB.out.trans (HB2.out.mono HRs.out)⟩⟩
          case measure => simp [intOf]; omega
        · replace hp : hit nm x = false := by simpa using hp
          have hyl := HS.out.1
          obtain ⟨-, -, hC⟩ := Kd.R_reads' HR.out
          obtain ⟨ad, e, hy0, hy1⟩ := at_T102 hC (i : Int) (by omega) (by omega)
          injection e with e
          subst e
          rw [Int.toNat_natCast, add_plain] at hy0 hy1
          replace hy1 : wr.cell? ⟨g, i * 2 + 1, none⟩ = _ := hy1
          generalize rd_T102 ys (i : Int) = y at hy0 hy1
          have HY0 := Aside0.mk hy0
          have HY1 := Aside0.mk hy1
          have HYL := Aside0.mk hyl
          clear hy0 hy1 hyl hC
          go_wp2_with (first | (go_at_call 117; refine (pr_walk x nm B _ (Lib.cell?_alloc_some _ HL.out)).mono ?_; rintro e w1 ⟨rfl, hb⟩; have hz0 : w1.cell? ⟨wr.heap.size, 0, none⟩ = some (.string x.f0) := (hb.cell (p := ⟨wr.heap.size, 0, none⟩) (by simp)).trans ((blk_cell (blk_new wr _) 0).trans rfl); have hz1 : w1.cell? ⟨wr.heap.size, 1, none⟩ = some (.int .i64 x.f1) := (hb.cell (p := ⟨wr.heap.size, 1, none⟩) (by simp)).trans ((blk_cell (blk_new wr _) 1).trans rfl); have HB2 := Aside0.mk ((below_alloc (Below.refl _ _) _).trans (hb.mono (by simp))); clear hb) | ((with_reducible refine gate_store (t := 102) (p := 33) rfl ?_); refine Kd.R_store k102 (w0 := w1) (g := g) (n := l0.length) (cap := c) (o' := i * 2) base rfl rfl 102 (.tmp 33) (.tmp 32) rfl 102 (i : Int) 0 ys x (.agg #[.string x.f0, .int .i64 x.f1]) [.string x.f0, .int .i64 x.f1] [.string y.f0, .int .i64 y.f1] (fun _ => True) (fun _ => False) ?ha ?ho ?hx ?hu ?ht ?h1 (Kd.R_below HR.out HB2.out) ?h0 ?hi ?hcl ?hcc ?hj ?hM ?hok (Below.refl _ _) ?_; (case ha => rfl); (case ho => rfl); (case hx => rfl); (case hu => rfl); (case ht => exact by kernel_rfl); (case h1 => intro q hq; simp at hq; rcases hq with rfl | rfl <;> rfl); (case h0 => omega); (case hi => omega); (case hcl => rfl); (case hcc => intro j u hu; match j, hu with | 0, hu => (cases hu; exact HB2.out.cell (p := ⟨g, i * 2, none⟩) (World.block_lt_of_cell? wr _ HY0.out) |>.trans HY0.out) | 1, hu => (cases hu; exact HB2.out.cell (p := ⟨g, i * 2 + 1, none⟩) (World.block_lt_of_cell? wr _ HY1.out) |>.trans HY1.out)); (case hj => exact Nat.le_refl _); (case hM => exact k102_mkM _ _ _ x); (case hok => exact fun _ h => h.elim); intro w2 hr hb hg; have HR2 := Aside0.mk hr; have HB3 := Aside0.mk hb; clear hr hb hg))
          go_roundw
          case rel => exact ⟨i + 1, j + 1, ys.set i x, by omega, by omega, rfl, rfl, ⟨by rw [HX.out]; exact HS.out.keep hlt (by rw [← HX.out]; exact hp)⟩, ⟨HR2.out⟩, ⟨(HB.out.trans (HB2.out.mono HRs.out)).trans HB3.out⟩⟩
          case measure => simp [intOf]; omega
      · have hjl : j = l0.length := by omega
        subst hjl
        have hyl := HS.out.1
        obtain ⟨inner, ho⟩ := Kd.R_own HR.out
        obtain ⟨_, h1 | ⟨g', cap', cur, hv, hb, hh, hnc, hcm, hcs, ht⟩⟩ := ho
        · cases h1.1
        · injection hv with e1 e2 e3
          injection e1 with e1
          injection e1 with e1
          subst e1; subst e3
          clear e2 ht
          have hsz : k102.sz = 2 := rfl
          rw [hsz] at hcs
          have hzl : (Builtin.zeroCells (#[.string ⟨#[]⟩, .int .i64 0] : Array Value) (l0.length - i)).toList.length = (l0.length - i) * 2 := by simp [Builtin.zeroCells]
          have hcl : ∀ ty, (Builtin.clear_ #[56] ty #[.slice (some ⟨g, i * 2, none⟩) (l0.length - i) (c - i)]).run Tryd.prog wr = .ok (.tuple #[]) (wr.setCells g (i * 2) (Builtin.zeroCells (#[.string ⟨#[]⟩, .int .i64 0] : Array Value) (l0.length - i)).toList) := fun ty => by
            refine run_clear_rows wr 56 102 ty (.agg #[.string ⟨#[]⟩, .int .i64 0]) 102 Tryd.underlying56 (by kernel_rfl) g (i * 2) (l0.length - i) (c - i) 0 (by omega) cur hh ?_ ?_
            · show i * 2 + (Builtin.zeroCells (#[.string ⟨#[]⟩, .int .i64 0] : Array Value) (l0.length - i)).toList.length ≤ _
              rw [hzl, hcs]; omega
            · intro v hv
              simp only [Builtin.zeroCells, Array.toList_map, List.mem_map] at hv
              obtain ⟨k, _, rfl⟩ := hv
              show (#[Value.string ⟨#[]⟩, Value.int .i64 0] : Array Value)[k % 2]!.oneCell' = true
              rcases (by omega : k % 2 = 0 ∨ k % 2 = 1) with e | e <;> rw [e] <;> rfl
          have HF := Aside0.mk (R_front HR.out (i := i) (by omega) (Builtin.zeroCells (#[.string ⟨#[]⟩, .int .i64 0] : Array Value) (l0.length - i)).toList (by rw [hzl]; omega))
          have HB2 := Aside0.mk (HB.out.trans (below_setCells hb (Builtin.zeroCells (#[.string ⟨#[]⟩, .int .i64 0] : Array Value) (l0.length - i)).toList wr (o := i * 2)))
          have HFL := Aside0.mk (show ys.take i = l0.filter (fun x => !hit nm x) by rw [HS.out.2.2.2.1, List.take_length])
          generalize (Builtin.zeroCells (#[.string ⟨#[]⟩, .int .i64 0] : Array Value) (l0.length - i)).toList = zs at hcl HF HB2
          clear hyl hzl hcs hh hcm hnc hsz
          go_wp2
          go_ret
          exact ⟨_, rfl, by rw [← HFL.out]; exact HF.out, HB2.out⟩
def dirent_Cut.f (l0 : List S102) (a1 : ByteArray) : Option (List S102) := if l0.length < 1000000000000 then some (l0.filter (fun x => !hit a1 x)) else none
set_option maxHeartbeats 1000000 in
theorem dirent_Cut.calls (A0 : Option Addr) (c0 : Nat) (l0 : List (S102)) (a1 : ByteArray) (r : List (S102)) (w : World) (hr0 : Kd.C k102 w A0 l0.length l0) (hc0 : l0.length ≤ c0) (h : dirent_Cut.f l0 a1 = some r) :
    Calls Tryd.prog 109 #[.slice A0 l0.length c0, .string a1] w fun e w' => ∃ v0_ : Value, e = .returned (v0_) ∧ Kd.R k102 102 w' w.heap.size (fun _ => True) v0_ r ∧ Below w.heap.size w w' := by
  unfold dirent_Cut.f at h
  by_cases hn : l0.length < 1000000000000
  · rw [if_pos hn] at h
    obtain rfl := Option.some.inj h
    have hb0 := below_alloc (Below.refl w.heap.size w) (.cells #[.string a1] 9)
    have HR := Aside0.mk (Kd.C_below hr0 hb0)
    have HB0 := Aside0.mk hb0
    have HC := Aside0.mk (show (w.alloc (.cells #[.string a1] 9)).cell? ⟨w.heap.size, 0, none⟩ = some (.string a1) from (blk_cell (blk_new w _) 0).trans rfl)
    clear hb0 hr0
    go_enter Tryd.func109, Tryd.ntmps109
    go_wp2_with (first | (go_at_call 67; refine (clone_walk A0 c0 l0 _ HR.out hc0 hn).mono ?_; rintro e w1 ⟨v1, rfl, ho, hb⟩; have HO := Aside0.mk ho; have HB := Aside0.mk hb; clear ho hb) | (go_at_call 116; refine (delete_walk v1 l0 a1 w.heap.size (w.alloc (.cells #[.string a1] 9)).heap.size _ HO.out HB.out.size hn ((HB.out.cell (p := ⟨w.heap.size, 0, none⟩) (by simp)).trans HC.out) (by simp)).mono ?_; rintro e w2 ⟨v2, rfl, ho, hb⟩; have HO2 := Aside0.mk ho; have HB2 := Aside0.mk hb; clear ho hb))
    go_ret
    exact ⟨_, rfl, Kd.R_lower HO2.out (by simp), HB0.out.trans ((HB.out.trans HB2.out).mono (by simp))⟩
  · rw [if_neg hn] at h
    cases h
end Go.Proofs.YtllfjmmdackgdaaDoor.PZ
end
/-! GConcat -/
section
namespace Go.Proofs.YtllfjmmdackgdaaDoor.PZ
open Go.RowKit Go.Proofs.YtllfjmmdackgdaaDoorW.PrintWords Go.Proofs.YtllfjmmdackgdaaDoorW.PrintLast Go.Proofs.YtllfjmmdackgdaaDoorW.PrintMore
set_option maxRecDepth 100000
set_option linter.unusedVariables false
set_option linter.unusedSimpArgs false
theorem atLs {w : World} {A : Option Addr} {n : Nat} {xs : List (List S102)} (h : Kd.C (Kd.slice 102 k102) w A n xs) (i : Nat) (h1 : i < n) :
    ∃ ad A0 c0, A = some ad ∧ w.cell? (ad.add i) = some (.slice A0 (xs.getD i []).length c0) ∧ (xs.getD i []).length ≤ c0 ∧ k102.C w A0 (xs.getD i []).length (xs.getD i []) := by
  obtain ⟨ad, c, e, _, hK, hc0⟩ := Kd.C_get h ([] : List S102) (i : Int) (by omega) (by omega)
  have hc : ∀ j u, c[j]? = some u → w.cell? (ad.add (i * 1 + j)) = some u := hc0
  obtain ⟨A0, c0, rfl, l0, g0⟩ := hK
  exact ⟨ad, A0, c0, e, by have hq := hc 0 _ rfl; rwa [Nat.mul_one, Nat.add_zero] at hq, l0, g0⟩
/-- All of them in one row (a name that simp doesn't open). -/
def cat {α : Type} (l : List (List α)) : List α := l.flatten
def clen {α : Type} (l : List (List α)) : Nat := (cat l).length
theorem flatten_take_succ {α : Type} (xs : List (List α)) (k : Nat) (h : k < xs.length) : cat (xs.take (k + 1)) = cat (xs.take k) ++ xs.getD k [] := by
  unfold cat
  rw [List.take_succ_eq_append_getElem h, List.flatten_append]
  simp [List.getD_eq_getElem?_getD, List.getElem?_eq_getElem h]
theorem flatten_take_le {α : Type} (xs : List (List α)) (k : Nat) : clen (xs.take k) ≤ clen xs := by
  unfold clen cat
  have : xs.flatten = (xs.take k).flatten ++ (xs.drop k).flatten := by rw [← List.flatten_append, List.take_append_drop]
  rw [this, List.length_append]; omega
set_option maxHeartbeats 1000000 in
theorem grow_walk (n : Nat) (hn : n < 1000000000000) (w : World) :
    Calls Tryd.prog 120 #[.slice none 0 0, .int .i64 n] w fun e w' => ∃ v0_ : Value, e = .returned v0_ ∧ Kd.R k102 102 w' w.heap.size (fun _ => True) v0_ [] ∧ Below w.heap.size w w' := by
  have hu := Tryd.underlying102
  by_cases h0 : n = 0
  · subst h0
    go_enter Tryd.func120, Tryd.ntmps120
    go_wp2
    go_ret
    exact ⟨_, rfl, Kd.R_nil _ _ _ _ _, Below.refl _ _⟩
  · have h1 : decide (0 < (n : Int)) = true := decide_eq_true (by omega)
    have h2 : decide (0 < n) = true := decide_eq_true (by omega)
    go_enter Tryd.func120, Tryd.ntmps120
    go_wp2_with (first | ((with_reducible refine gate_builtin (b := .append) (xs := #[.tmp 20, .tmp 21]) rfl ?_); at_builtin; refine Kd.R_append_zeros k102 (w0 := w) w.heap.size rfl (.tmp 20) (.tmp 21) 56 3 102 (.agg #[(.string ⟨#[]⟩), (.int .i64 0)]) 24 rfl Tryd.underlying56 Tryd.underlying3 infoE rfl (by decide) (by omega) (.slice none 0 0) [] z102 (kx := .i64) n (fun _ => True) rfl rfl ?az ?af ?aO ?a0 ?aB ?aS ?aL ?_; (case az => exact k102_mkM _ _ _ _); (case af => exact fun _ _ => trivial); (case aO => exact Kd.R_nil _ _ _ _ _); (case a0 => omega); (case aB => exact Below.refl _ _); (case aS => exact Nat.le_refl _); (case aL => simp; omega); intro v1 w1 ho hb hg hat; obtain ⟨gg, gc, rfl, gb, gl, gcl, -⟩ := Kd.R_form ho (by simp; omega); have HO := Aside0.mk ho; have HB := Aside0.mk hb; clear ho hb hg hat))
    go_ret
    exact ⟨_, rfl, Kd.R_take HO.out (Nat.zero_le _), HB.out⟩
set_option maxHeartbeats 2000000 in
theorem concat_walk (A0 : Option Addr) (c0 : Nat) (l0 : List (List S102)) (w : World) (hr0 : Kd.C (Kd.slice 102 k102) w A0 l0.length l0) (hc0 : l0.length ≤ c0) (hn : clen l0 < 1000000000000) (hn2 : l0.length < 1000000000000) :
    Calls Tryd.prog 115 #[.slice A0 l0.length c0] w fun e w' => ∃ v0_ : Value, e = .returned v0_ ∧ Kd.R k102 102 w' w.heap.size (fun _ => True) v0_ (cat l0) ∧ Below w.heap.size w w' := by
  have hu := Tryd.underlying102
  have HR0 := Aside0.mk hr0
  have HC0 := Aside0.mk hc0
  clear hr0 hc0
  go_enter Tryd.func115, Tryd.ntmps115
  go_wp2
  go_loop [3, 5, 11] (fun v3 v5 v11 => ∃ k : Nat, k ≤ l0.length ∧ v3 = .int .i64 (clen (l0.take k) : Nat) ∧ v11 = .int .i64 k) (fun v3 v5 v11 => l0.length - (intOf v11).toNat)
  case atStart => exact ⟨0, Nat.zero_le _, rfl, rfl⟩
  case round =>
    obtain ⟨k, hk, rfl, rfl⟩ := hrel
    have hfl := flatten_take_le l0 k
    by_cases hlt : k < l0.length
    · obtain ⟨ad, A1, c1, e, hx, hc1, hr1⟩ := atLs HR0.out k hlt
      cases e
      have hfs := flatten_take_succ l0 k hlt
      have hfl2 := flatten_take_le l0 (k + 1)
      have hls : clen (l0.take (k + 1)) = clen (l0.take k) + (l0.getD k []).length := by unfold clen; rw [hfs, List.length_append]
      have HS := Aside0.mk hls
      have hb1 : clen (l0.take k) + (l0.getD k []).length < 1000000000000 := by omega
      clear hls hfs hfl2 hr1
      generalize hL : clen (l0.take k) = L at *
      generalize hM : (l0.getD k []).length = M at *
      clear hL hM
      go_wp2
      go_round
      case rel => exact ⟨k + 1, by omega, by rw [HS.out]; rfl, rfl⟩
      case measure => simp [intOf]; omega
    · have hkl : k = l0.length := by omega
      subst hkl
      rw [List.take_length]
      clear hfl
      go_wp2_with (go_at_call 120; refine (grow_walk (clen l0) hn _).mono ?_; rintro e w1 ⟨v0, rfl, ho, hb⟩; have HO := Aside0.mk ho; have HB := Aside0.mk hb; clear ho hb)
      go_loopw [6, 8, 27] (fun v6 v8 v27 wr => ∃ k : Nat, k ≤ l0.length ∧ v27 = .int .i64 k ∧ Aside0 (Kd.R k102 102 wr w.heap.size (fun _ => True) v6 (cat (l0.take k))) ∧ Aside0 (Below w.heap.size w wr)) (fun v6 v8 v27 _ => l0.length - (intOf v27).toNat)
      case atStart => exact ⟨0, Nat.zero_le _, rfl, HO, HB⟩
      case round =>
        clear HO HB
        obtain ⟨k, hk, rfl, HO, HB⟩ := hrel
        by_cases hlt : k < l0.length
        · obtain ⟨ad, A1, c1, e, hx, hc1, hr1⟩ := atLs HR0.out k hlt
          cases e
          have hfs := flatten_take_succ l0 k hlt
          have hfl2 := flatten_take_le l0 (k + 1)
          have HS := Aside0.mk hfs
          have hb1 : (cat (l0.take k)).length + (l0.getD k []).length < 1000000000000 := by rw [← List.length_append, ← hfs]; unfold clen at hfl2 hn; omega
          clear hfs hfl2
          replace hx := (HB.out.cell (World.block_lt_of_cell? w _ hx)).trans hx
          have HR1 := Aside0.mk (Kd.C_below hr1 HB.out)
          clear hr1
          generalize hL : (cat (l0.take k)) = L at *
          generalize hM : l0.getD k [] = M at *
          clear hL hM
          go_wp2_with (first | ((with_reducible refine gate_builtin (b := .append) (xs := #[.tmp 31, .tmp 32]) rfl ?_); at_builtin; refine Kd.R_append_rows k102 (w0 := w) w.heap.size rfl (.tmp 31) (.tmp 32) 56 102 (.agg #[(.string ⟨#[]⟩), (.int .i64 0)]) 24 rfl Tryd.underlying56 infoE rfl (by decide) (by omega) _ L M _ _ _ (fun _ => True) (fun _ => False) rfl rfl HO.out ?aR (fun _ _ h => h) (fun _ h => h.elim) (fun _ _ => trivial) HB.out HB.out.size ?aL ?_; (case aR => exact HR1.out); (case aL => omega); intro v1 w1 ho hb hg hat; rw [← HS.out] at ho; have n0_ := Aside0.mk ho; have n1_ := Aside0.mk hb; clear HO HB ho hb hg hat; have HO := n0_; have HB := n1_; clear n0_ n1_))
          go_roundw
          case rel => exact ⟨k + 1, by omega, rfl, HO, HB⟩
          case measure => simp [intOf]; omega
        · have hkl : k = l0.length := by omega
          subst hkl
          rw [List.take_length] at HO
          go_wp2
          go_ret
          exact ⟨_, rfl, HO.out, HB.out⟩
def slices_Concat.f (l0 : List (List S102)) : Option (List S102) :=
  if clen l0 < 1000000000000 ∧ l0.length < 1000000000000 then some (cat l0) else none
theorem slices_Concat.calls (A0 : Option Addr) (c0 : Nat) (l0 : List (List S102)) (r : List (S102)) (w : World) (hr0 : Kd.C (Kd.slice 102 k102) w A0 l0.length l0) (hc0 : l0.length ≤ c0) (h : slices_Concat.f l0 = some r) :
    Calls Tryd.prog 115 #[.slice A0 l0.length c0] w fun e w' => ∃ v0_ : Value, e = .returned v0_ ∧ Kd.R k102 102 w' w.heap.size (fun _ => True) v0_ r ∧ Below w.heap.size w w' := by
  unfold slices_Concat.f at h
  by_cases hb : clen l0 < 1000000000000 ∧ l0.length < 1000000000000
  · rw [if_pos hb] at h
    obtain rfl := Option.some.inj h
    exact concat_walk A0 c0 l0 w hr0 hc0 hb.1 hb.2
  · rw [if_neg hb] at h
    cases h
end Go.Proofs.YtllfjmmdackgdaaDoor.PZ
end
