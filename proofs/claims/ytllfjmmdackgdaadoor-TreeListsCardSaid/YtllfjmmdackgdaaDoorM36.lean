import Derived.Test.YtllfjmmdackgdaaDoorM16
import Derived.Test.YtllfjmmdackgdaaDoorM35
import Derived.BigQuiet
import Derived.Deep.QuietTactic
set_option linter.unusedVariables false
set_option linter.unusedSimpArgs false
/-! GSame -/
section
namespace Go.Proofs.YtllfjmmdackgdaaDoor.PZ
open Go.RowKit Go.Proofs.YtllfjmmdackgdaaDoorW.PrintWords Go.Proofs.YtllfjmmdackgdaaDoorW.PrintLast Go.Proofs.YtllfjmmdackgdaaDoorW.PrintMore Go.Proofs.YtllfjmmdackgdaaDoor.B Go.Proofs.YtllfjmmdackgdaaDoor.Ord TD
set_option maxRecDepth 100000
set_option linter.unusedVariables false
set_option linter.unusedSimpArgs false
theorem take_step {α : Type} {a b : List α} {k : Nat} (d : α) (hk : k < a.length) (hkb : k < b.length) (h : a.take k = b.take k) (he : a.getD k d = b.getD k d) : a.take (k + 1) = b.take (k + 1) := by
  rw [List.take_add_one, List.take_add_one, h, List.getElem?_eq_getElem hk, List.getElem?_eq_getElem hkb]
  simp only [List.getD_eq_getElem?_getD, List.getElem?_eq_getElem hk, List.getElem?_eq_getElem hkb, Option.getD_some] at he
  rw [he]
theorem take_all {α : Type} {a b : List α} {k : Nat} (hl : a.length = b.length) (hk : ¬ k < a.length) (h : a.take k = b.take k) : a = b := by
  rwa [List.take_of_length_le (by omega), List.take_of_length_le (by omega)] at h
theorem samebytes_walk (A0 : Option Addr) (c0 : Nat) (l0 : List Int) (A1 : Option Addr) (c1 : Nat) (l1 : List Int) (w : World) (hr0 : Kd.C (Kd.int .u8) w A0 l0.length l0) (hc0 : l0.length ≤ c0) (hr1 : Kd.C (Kd.int .u8) w A1 l1.length l1) (hc1 : l1.length ≤ c1) (hn : l0.length < 1000000000000) :
    Calls Tryd.prog 33 #[.slice A0 l0.length c0, .slice A1 l1.length c1] w fun e w' => (∃ r, e = .returned (.bool r) ∧ (r = true ↔ l0 = l1)) ∧ Below w.heap.size w w' := by
  have HR0 := Aside0.mk hr0
  have HR1 := Aside0.mk hr1
  clear hr0 hr1
  by_cases hl : l0.length = l1.length
  · have c3b1 : ((l0.length : Int) != (l1.length : Int)) = false := bne_eq_false_iff_eq.mpr (by omega)
    have HL := Aside0.mk hl
    clear hl
    go_enter Tryd.func33, Tryd.ntmps33
    go_wp2
    go_loopw [5] (fun v5 wr => ∃ k : Nat, k ≤ l0.length ∧ v5 = .int .i64 k ∧ Aside0 (l0.take k = l1.take k) ∧ Aside0 (Below w.heap.size w wr)) (fun v5 _ => l0.length - (intOf v5).toNat)
    case atStart => exact ⟨0, Nat.zero_le _, rfl, ⟨rfl⟩, ⟨Below.refl _ _⟩⟩
    case round =>
      obtain ⟨k, hk, rfl, HE, HB⟩ := hrel
      by_cases hlt : k < l0.length
      · have hlt1 : k < l1.length := by have := HL.out; omega
        have hki : (k : Int) < (l0.length : Int) := by omega
        have hki1 : (k : Int) < (l1.length : Int) := by omega
        obtain ⟨ad0, rfl, hx00⟩ := Kd.at_int HR0.out (k : Int) (by omega) (by omega)
        obtain ⟨ad1, rfl, hx10⟩ := Kd.at_int HR1.out (k : Int) (by omega) (by omega)
        rw [Int.toNat_natCast] at hx00 hx10
        replace hx00 := (HB.out.cell (World.block_lt_of_cell? w _ hx00)).trans hx00
        replace hx10 := (HB.out.cell (World.block_lt_of_cell? w _ hx10)).trans hx10
        by_cases hq : rd l0 k = rd l1 k
        · have HS := Aside0.mk (take_step 0 hlt hlt1 HE.out hq)
          have hqb : (rd l0 k != rd l1 k) = false := bne_eq_false_iff_eq.mpr hq
          generalize rd l0 k = x at hx00 hqb
          generalize rd l1 k = y at hx10 hqb
          clear hq
          go_wp2
          go_quiet (fail)
          go_wp2
          go_roundw
          case rel => exact ⟨k + 1, by omega, rfl, HS, ⟨by repeat (first | exact HB.out | with_reducible apply pw_below_drewN | with_reducible apply below_drew1)⟩⟩
          case measure => simp [intOf]; omega
        · have HS := Aside0.mk (fun h : l0 = l1 => hq (by rw [h]))
          have hqb : (rd l0 k != rd l1 k) = true := bne_iff_ne.mpr hq
          generalize rd l0 k = x at hx00 hqb
          generalize rd l1 k = y at hx10 hqb
          clear hq
          go_wp2
          go_quiet (fail)
          go_wp2
          go_ret
          exact ⟨⟨false, rfl, iff_of_false Bool.false_ne_true HS.out⟩, by repeat (first | exact HB.out | with_reducible apply pw_below_drewN | with_reducible apply below_drew1)⟩
      · have HS := Aside0.mk (take_all HL.out hlt HE.out)
        go_wp2
        go_ret
        exact ⟨⟨true, rfl, iff_of_true rfl HS.out⟩, HB.out⟩
  · have c3b1 : ((l0.length : Int) != (l1.length : Int)) = true := bne_iff_ne.mpr (by omega)
    have HS := Aside0.mk (fun h : l0 = l1 => hl (by rw [h]))
    clear hl
    go_enter Tryd.func33, Tryd.ntmps33
    go_wp2
    go_ret
    exact ⟨⟨false, rfl, iff_of_false Bool.false_ne_true HS.out⟩, Below.refl _ _⟩
theorem sametexts_walk (A0 : Option Addr) (c0 : Nat) (l0 : List ByteArray) (A1 : Option Addr) (c1 : Nat) (l1 : List ByteArray) (w : World) (hr0 : Kd.C Kd.string w A0 l0.length l0) (hc0 : l0.length ≤ c0) (hr1 : Kd.C Kd.string w A1 l1.length l1) (hc1 : l1.length ≤ c1) (hn : l0.length < 1000000000000) :
    Calls Tryd.prog 20 #[.slice A0 l0.length c0, .slice A1 l1.length c1] w fun e w' => (∃ r, e = .returned (.bool r) ∧ (r = true ↔ l0 = l1)) ∧ Below w.heap.size w w' := by
  have HR0 := Aside0.mk hr0
  have HR1 := Aside0.mk hr1
  clear hr0 hr1
  by_cases hl : l0.length = l1.length
  · have c3b1 : ((l0.length : Int) != (l1.length : Int)) = false := bne_eq_false_iff_eq.mpr (by omega)
    have HL := Aside0.mk hl
    clear hl
    go_enter Tryd.func20, Tryd.ntmps20
    go_wp2
    go_loopw [5] (fun v5 wr => ∃ k : Nat, k ≤ l0.length ∧ v5 = .int .i64 k ∧ Aside0 (l0.take k = l1.take k) ∧ Aside0 (Below w.heap.size w wr)) (fun v5 _ => l0.length - (intOf v5).toNat)
    case atStart => exact ⟨0, Nat.zero_le _, rfl, ⟨rfl⟩, ⟨Below.refl _ _⟩⟩
    case round =>
      obtain ⟨k, hk, rfl, HE, HB⟩ := hrel
      by_cases hlt : k < l0.length
      · have hlt1 : k < l1.length := by have := HL.out; omega
        have hki : (k : Int) < (l0.length : Int) := by omega
        have hki1 : (k : Int) < (l1.length : Int) := by omega
        obtain ⟨ad0, rfl, hx00⟩ := Kd.at_string HR0.out (k : Int) (by omega) (by omega)
        obtain ⟨ad1, rfl, hx10⟩ := Kd.at_string HR1.out (k : Int) (by omega) (by omega)
        rw [Int.toNat_natCast] at hx00 hx10
        replace hx00 := (HB.out.cell (World.block_lt_of_cell? w _ hx00)).trans hx00
        replace hx10 := (HB.out.cell (World.block_lt_of_cell? w _ hx10)).trans hx10
        by_cases hq : rdOf ByteArray.empty l0 k = rdOf ByteArray.empty l1 k
        · have HS := Aside0.mk (take_step ByteArray.empty hlt hlt1 HE.out hq)
          have hqb : ((rdOf ByteArray.empty l0 k).toList == (rdOf ByteArray.empty l1 k).toList) = true := beq_iff_eq.mpr (by rw [hq])
          generalize rdOf ByteArray.empty l0 k = x at hx00 hqb
          generalize rdOf ByteArray.empty l1 k = y at hx10 hqb
          clear hq
          go_wp2
          go_quiet (fail)
          go_wp2
          go_roundw
          case rel => exact ⟨k + 1, by omega, rfl, HS, ⟨by repeat (first | exact HB.out | with_reducible apply pw_below_drewN | with_reducible apply below_drew1)⟩⟩
          case measure => simp [intOf]; omega
        · have HS := Aside0.mk (fun h : l0 = l1 => hq (by rw [h]))
          have hqb : ((rdOf ByteArray.empty l0 k).toList == (rdOf ByteArray.empty l1 k).toList) = false := beq_eq_false_iff_ne.mpr (fun h => hq (bytes_ext h))
          generalize rdOf ByteArray.empty l0 k = x at hx00 hqb
          generalize rdOf ByteArray.empty l1 k = y at hx10 hqb
          clear hq
          go_wp2
          go_quiet (fail)
          go_wp2
          go_ret
          exact ⟨⟨false, rfl, iff_of_false Bool.false_ne_true HS.out⟩, by repeat (first | exact HB.out | with_reducible apply pw_below_drewN | with_reducible apply below_drew1)⟩
      · have HS := Aside0.mk (take_all HL.out hlt HE.out)
        go_wp2
        go_ret
        exact ⟨⟨true, rfl, iff_of_true rfl HS.out⟩, HB.out⟩
  · have c3b1 : ((l0.length : Int) != (l1.length : Int)) = true := bne_iff_ne.mpr (by omega)
    have HS := Aside0.mk (fun h : l0 = l1 => hl (by rw [h]))
    clear hl
    go_enter Tryd.func20, Tryd.ntmps20
    go_wp2
    go_ret
    exact ⟨⟨false, rfl, iff_of_false Bool.false_ne_true HS.out⟩, Below.refl _ _⟩
theorem entry_same (x y : S102) : x = y ↔ (!((x.f0.toList == y.f0.toList)) || !(x.f1 == y.f1)) = false := by
  cases x; cases y
  simp only [Bool.or_eq_false_iff, Bool.not_eq_false', beq_iff_eq, S102.mk.injEq]
  exact and_congr_left' ⟨fun h => by rw [h], bytes_ext⟩
theorem entry_diff (x y : S102) (h : ¬ x = y) : (!((x.f0.toList == y.f0.toList)) || !(x.f1 == y.f1)) = true := by
  cases hb : (!((x.f0.toList == y.f0.toList)) || !(x.f1 == y.f1)) with
  | true => rfl
  | false => exact absurd ((entry_same x y).2 hb) h
attribute [local go_sem high] eqA102
theorem sameentries_walk (A0 : Option Addr) (c0 : Nat) (l0 : List S102) (A1 : Option Addr) (c1 : Nat) (l1 : List S102) (w : World) (hr0 : Kd.C k102 w A0 l0.length l0) (hc0 : l0.length ≤ c0) (hr1 : Kd.C k102 w A1 l1.length l1) (hc1 : l1.length ≤ c1) (hn : l0.length < 1000000000000) :
    Calls Tryd.prog 53 #[.slice A0 l0.length c0, .slice A1 l1.length c1] w fun e w' => (∃ r, e = .returned (.bool r) ∧ (r = true ↔ l0 = l1)) ∧ Below w.heap.size w w' := by
  have HR0 := Aside0.mk hr0
  have HR1 := Aside0.mk hr1
  clear hr0 hr1
  have hu := Tryd.underlying102
  by_cases hl : l0.length = l1.length
  · have c3b1 : ((l0.length : Int) != (l1.length : Int)) = false := bne_eq_false_iff_eq.mpr (by omega)
    have HL := Aside0.mk hl
    clear hl
    go_enter Tryd.func53, Tryd.ntmps53
    go_wp2
    go_loopw [5] (fun v5 wr => ∃ k : Nat, k ≤ l0.length ∧ v5 = .int .i64 k ∧ Aside0 (l0.take k = l1.take k) ∧ Aside0 (Below w.heap.size w wr)) (fun v5 _ => l0.length - (intOf v5).toNat)
    case atStart => exact ⟨0, Nat.zero_le _, rfl, ⟨rfl⟩, ⟨Below.refl _ _⟩⟩
    case round =>
      obtain ⟨k, hk, rfl, HE, HB⟩ := hrel
      by_cases hlt : k < l0.length
      · have hlt1 : k < l1.length := by have := HL.out; omega
        have hki : (k : Int) < (l0.length : Int) := by omega
        have hki1 : (k : Int) < (l1.length : Int) := by omega
        obtain ⟨ad0, rfl, hx00, hx01⟩ := at_T102 HR0.out (k : Int) (by omega) (by omega)
        obtain ⟨ad1, rfl, hx10, hx11⟩ := at_T102 HR1.out (k : Int) (by omega) (by omega)
        rw [Int.toNat_natCast] at hx00 hx01 hx10 hx11
        replace hx00 := (HB.out.cell (World.block_lt_of_cell? w _ hx00)).trans hx00
        replace hx01 := (HB.out.cell (World.block_lt_of_cell? w _ hx01)).trans hx01
        replace hx10 := (HB.out.cell (World.block_lt_of_cell? w _ hx10)).trans hx10
        replace hx11 := (HB.out.cell (World.block_lt_of_cell? w _ hx11)).trans hx11
        by_cases hq : rd_T102 l0 k = rd_T102 l1 k
        · have HS := Aside0.mk (take_step z102 hlt hlt1 HE.out hq)
          have hqb : (!(((rd_T102 l0 k).f0.toList == (rd_T102 l1 k).f0.toList)) || !((rd_T102 l0 k).f1 == (rd_T102 l1 k).f1)) = false := (entry_same _ _).1 hq
          generalize rd_T102 l0 k = x at hx00 hx01 hqb
          generalize rd_T102 l1 k = y at hx10 hx11 hqb
          clear hq
          go_wp2
          go_quiet (fail)
          go_wp2
          go_roundw
          case rel => exact ⟨k + 1, by omega, rfl, HS, ⟨by repeat (first | exact HB.out | with_reducible apply pw_below_drewN | with_reducible apply below_drew1)⟩⟩
          case measure => simp [intOf]; omega
        · have HS := Aside0.mk (fun h : l0 = l1 => hq (by rw [h]))
          have hqb : (!(((rd_T102 l0 k).f0.toList == (rd_T102 l1 k).f0.toList)) || !((rd_T102 l0 k).f1 == (rd_T102 l1 k).f1)) = true := entry_diff _ _ hq
          generalize rd_T102 l0 k = x at hx00 hx01 hqb
          generalize rd_T102 l1 k = y at hx10 hx11 hqb
          clear hq
          go_wp2
          go_quiet (fail)
          go_wp2
          go_ret
          exact ⟨⟨false, rfl, iff_of_false Bool.false_ne_true HS.out⟩, by repeat (first | exact HB.out | with_reducible apply pw_below_drewN | with_reducible apply below_drew1)⟩
      · have HS := Aside0.mk (take_all HL.out hlt HE.out)
        go_wp2
        go_ret
        exact ⟨⟨true, rfl, iff_of_true rfl HS.out⟩, HB.out⟩
  · have c3b1 : ((l0.length : Int) != (l1.length : Int)) = true := bne_iff_ne.mpr (by omega)
    have HS := Aside0.mk (fun h : l0 = l1 => hl (by rw [h]))
    clear hl
    go_enter Tryd.func53, Tryd.ntmps53
    go_wp2
    go_ret
    exact ⟨⟨false, rfl, iff_of_false Bool.false_ne_true HS.out⟩, Below.refl _ _⟩
theorem box_new2 (w : World) (a b : Obj) : ((w.alloc a).alloc b).heap[w.heap.size + 1]? = some b := by
  have h := blk_new (w.alloc a) b
  rwa [World.size_alloc] at h
/-- Two trees, laid. -/
def box2 (w : World) (A0 : Option Addr) (n0 c0 : Nat) (A1 : Option Addr) (n1 c1 : Nat) : World := (w.alloc (.cells #[.slice A0 n0 c0] 42)).alloc (.cells #[.slice A1 n1 c1] 42)
section
variable {w : World} {A0 A1 : Option Addr} {n0 n1 c0 c1 : Nat}
theorem box2_below : Below w.heap.size w (box2 w A0 n0 c0 A1 n1 c1) := below_alloc (below_alloc (Below.refl _ _) _) _
theorem box2_0 : (box2 w A0 n0 c0 A1 n1 c1).cell? ⟨w.heap.size, 0, none⟩ = some (.slice A0 n0 c0) :=
  (blk_cell (blk_alloc (blk_new w (.cells #[.slice A0 n0 c0] 42)) _) 0).trans rfl
theorem box2_1 : (box2 w A0 n0 c0 A1 n1 c1).cell? ⟨w.heap.size + 1, 0, none⟩ = some (.slice A1 n1 c1) :=
  (blk_cell (box_new2 w (.cells #[.slice A0 n0 c0] 42) (.cells #[.slice A1 n1 c1] 42)) 0).trans rfl
theorem box2_size : (box2 w A0 n0 c0 A1 n1 c1).heap.size = w.heap.size + 1 + 1 := by unfold box2; rw [World.size_alloc, World.size_alloc]
theorem box2_cell {W : World} (h : Below (box2 w A0 n0 c0 A1 n1 c1).heap.size (box2 w A0 n0 c0 A1 n1 c1) W) : W.cell? ⟨w.heap.size, 0, none⟩ = some (.slice A0 n0 c0) ∧ W.cell? ⟨w.heap.size + 1, 0, none⟩ = some (.slice A1 n1 c1) ∧ w.heap.size + 1 < W.heap.size ∧ Below w.heap.size w W :=
  ⟨(h.cell (World.block_lt_of_cell? _ _ box2_0)).trans box2_0, (h.cell (World.block_lt_of_cell? _ _ box2_1)).trans box2_1, by have := h.size; rw [box2_size] at this; omega, below_step box2_below h⟩
end
set_option maxHeartbeats 2000000 in
theorem sametree_walk (A0 : Option Addr) (c0 : Nat) (l0 : List S58) (A1 : Option Addr) (c1 : Nat) (l1 : List S58) (w : World) (hr0 : Kd.C k58 w A0 l0.length l0) (hc0 : l0.length ≤ c0) (hr1 : Kd.C k58 w A1 l1.length l1) (hc1 : l1.length ≤ c1) (hn : l0.length < 1000000000000) (hm : ∀ k, (nd l0 k).f2.length < 1000000000000 ∧ (nd l0 k).f3.length < 1000000000000) :
    Calls Tryd.prog 31 #[.agg #[.slice A0 l0.length c0], .agg #[.slice A1 l1.length c1]] w fun e w' => (∃ r, e = .returned (.bool r) ∧ (r = true ↔ l0 = l1)) ∧ Below w.heap.size w w' := by
  have HR0 := Aside0.mk hr0
  have HR1 := Aside0.mk hr1
  have HM := Aside0.mk hm
  clear hr0 hr1 hm
  by_cases hl : l0.length = l1.length
  · have c3b1 : ((l0.length : Int) != (l1.length : Int)) = false := bne_eq_false_iff_eq.mpr (by omega)
    have HL := Aside0.mk hl
    clear hl
    go_enter Tryd.func31, Tryd.ntmps31
    go_wp2
    go_loopw [5] (fun v5 wr => ∃ k : Nat, k ≤ l0.length ∧ v5 = .int .i64 k ∧ Aside0 (l0.take k = l1.take k) ∧ Aside0 (Below (box2 w A0 l0.length c0 A1 l1.length c1).heap.size (box2 w A0 l0.length c0 A1 l1.length c1) wr)) (fun v5 _ => l0.length - (intOf v5).toNat)
    case atStart => exact ⟨0, Nat.zero_le _, rfl, ⟨rfl⟩, ⟨Below.refl _ _⟩⟩
    case round =>
      obtain ⟨k, hk, rfl, HE, HB⟩ := hrel
      obtain ⟨hb0, hb1, hbs, hbw⟩ := box2_cell HB.out
      have HBW := Aside0.mk hbw
      clear hbw
      by_cases hlt : k < l0.length
      · have hlt1 : k < l1.length := by have := HL.out; omega
        have hki : (k : Int) < (l0.length : Int) := by omega
        have hki1 : (k : Int) < (l1.length : Int) := by omega
        obtain ⟨ad, A2, c2, A3, c3, rfl, hx0, hx1, hx2, hx3, hl2, hC2, hl3, hC3⟩ := at_T58 HR0.out (k : Int) (by omega) (by omega)
        obtain ⟨bd, B2, d2, B3, d3, rfl, hy0, hy1, hy2, hy3, hm2, hD2, hm3, hD3⟩ := at_T58 HR1.out (k : Int) (by omega) (by omega)
        rw [Int.toNat_natCast] at hx0 hx1 hx2 hx3 hy0 hy1 hy2 hy3
        have hmk := HM.out k
        have hstep : rd_T58 l0 (k : Int) = rd_T58 l1 (k : Int) → l0.take (k + 1) = l1.take (k + 1) := fun h => take_step z58 hlt hlt1 HE.out h
        have hdiff : ¬ rd_T58 l0 (k : Int) = rd_T58 l1 (k : Int) → ¬ l0 = l1 := fun h e => h (by rw [e])
        rw [show nd l0 k = rd_T58 l0 (k : Int) from rfl] at hmk
        generalize rd_T58 l0 (k : Int) = x at hx0 hx1 hx2 hx3 hl2 hC2 hl3 hC3 hmk hstep hdiff
        generalize rd_T58 l1 (k : Int) = y at hy0 hy1 hy2 hy3 hm2 hD2 hm3 hD3 hstep hdiff
        obtain ⟨x0, x1, x2, x3⟩ := x
        obtain ⟨y0, y1, y2, y3⟩ := y
        dsimp only at hx0 hx1 hx2 hx3 hl2 hC2 hl3 hC3 hy0 hy1 hy2 hy3 hm2 hD2 hm3 hD3 hmk
        have HQ := Aside0.mk hmk
        replace hx0 := (HBW.out.cell (World.block_lt_of_cell? w _ hx0)).trans hx0
        replace hx1 := (HBW.out.cell (World.block_lt_of_cell? w _ hx1)).trans hx1
        replace hx2 := (HBW.out.cell (World.block_lt_of_cell? w _ hx2)).trans hx2
        replace hx3 := (HBW.out.cell (World.block_lt_of_cell? w _ hx3)).trans hx3
        replace hy0 := (HBW.out.cell (World.block_lt_of_cell? w _ hy0)).trans hy0
        replace hy1 := (HBW.out.cell (World.block_lt_of_cell? w _ hy1)).trans hy1
        replace hy2 := (HBW.out.cell (World.block_lt_of_cell? w _ hy2)).trans hy2
        replace hy3 := (HBW.out.cell (World.block_lt_of_cell? w _ hy3)).trans hy3
        have hxl : (ad.add (k * 4)).block < wr.heap.size := World.block_lt_of_cell? wr _ hx0
        have hyl : (bd.add (k * 4)).block < wr.heap.size := World.block_lt_of_cell? wr _ hy0
        have HC2 := Aside0.mk hC2
        have HC3 := Aside0.mk hC3
        have HD2 := Aside0.mk hD2
        have HD3 := Aside0.mk hD3
        have HLS := Aside0.mk (And.intro (And.intro hl2 hl3) (And.intro hm2 hm3))
        have HST := Aside0.mk hstep
        have HDF := Aside0.mk hdiff
        clear hC2 hC3 hD2 hD3 hl2 hl3 hm2 hm3 hstep hdiff hmk
        by_cases h0 : x0 = y0
        · have h0b : (x0 != y0) = false := bne_eq_false_iff_eq.mpr h0
          by_cases h1 : x1 = y1
          · have h1b : (x1 != y1) = false := bne_eq_false_iff_eq.mpr h1
            by_cases h2 : x2 = y2
            · have H2 := Aside0.mk h2
              by_cases h3 : x3 = y3
              · have H3 := Aside0.mk h3
                have HT := Aside0.mk (HST.out (by rw [h0, h1, h2, h3]))
                clear h0 h1 h2 h3
                go_wp2_with (first
                  | (go_at_call 33; (with_reducible refine (samebytes_walk A2 c2 x2 B2 d2 y2 _ (Kd.C_below HC2.out (by repeat (first | exact HBW.out | with_reducible apply pw_below_drewN | with_reducible apply below_drew1 | with_reducible apply below_alloc))) HLS.out.1.1 (Kd.C_below HD2.out (by repeat (first | exact HBW.out | with_reducible apply pw_below_drewN | with_reducible apply below_drew1 | with_reducible apply below_alloc))) HLS.out.2.1 HQ.out.1).mono ?_); rintro e w2 ⟨⟨r, rfl, hr⟩, hb⟩; obtain rfl : r = true := hr.2 H2.out; obtain ⟨hbc, hbf⟩ := bcell hb; have hsz := hb.size; (try simp at hsz); have HB2 := Aside0.mk (below_step (w := box2 w _ l0.length c0 _ l1.length c1) (by repeat (first | exact HB.out | with_reducible apply pw_below_drewN | with_reducible apply below_drew1 | with_reducible apply below_alloc)) hb); have HB2W := Aside0.mk (box2_cell HB2.out).2.2.2; clear hb hr)
                  | (go_at_call 53; (with_reducible refine (sameentries_walk A3 c3 x3 B3 d3 y3 _ (Kd.C_below HC3.out (by repeat (first | exact HB2W.out | with_reducible apply pw_below_drewN | with_reducible apply below_drew1 | with_reducible apply below_alloc))) HLS.out.1.2 (Kd.C_below HD3.out (by repeat (first | exact HB2W.out | with_reducible apply pw_below_drewN | with_reducible apply below_drew1 | with_reducible apply below_alloc))) HLS.out.2.2 HQ.out.2).mono ?_); rintro e w3 ⟨⟨r, rfl, hr⟩, hb⟩; obtain rfl : r = true := hr.2 H3.out; obtain ⟨hbc3, hbf3⟩ := bcell hb; have hsz3 := hb.size; (try simp at hsz3); have HB3 := Aside0.mk (below_step (w := box2 w _ l0.length c0 _ l1.length c1) (by repeat (first | exact HB2.out | with_reducible apply pw_below_drewN | with_reducible apply below_drew1 | with_reducible apply below_alloc)) hb); have HB3W := Aside0.mk (box2_cell HB3.out).2.2.2; clear hb hr))
                go_roundw
                case rel => exact ⟨k + 1, by omega, rfl, HT, HB3⟩
                case measure => simp [intOf]; omega
              · have H3 := Aside0.mk h3
                have HT := Aside0.mk (HDF.out (fun h => h3 (by injection h)))
                clear h0 h1 h2 h3
                go_wp2_with (first
                  | (go_at_call 33; (with_reducible refine (samebytes_walk A2 c2 x2 B2 d2 y2 _ (Kd.C_below HC2.out (by repeat (first | exact HBW.out | with_reducible apply pw_below_drewN | with_reducible apply below_drew1 | with_reducible apply below_alloc))) HLS.out.1.1 (Kd.C_below HD2.out (by repeat (first | exact HBW.out | with_reducible apply pw_below_drewN | with_reducible apply below_drew1 | with_reducible apply below_alloc))) HLS.out.2.1 HQ.out.1).mono ?_); rintro e w2 ⟨⟨r, rfl, hr⟩, hb⟩; obtain rfl : r = true := hr.2 H2.out; obtain ⟨hbc, hbf⟩ := bcell hb; have hsz := hb.size; (try simp at hsz); have HB2 := Aside0.mk (below_step (w := box2 w _ l0.length c0 _ l1.length c1) (by repeat (first | exact HB.out | with_reducible apply pw_below_drewN | with_reducible apply below_drew1 | with_reducible apply below_alloc)) hb); have HB2W := Aside0.mk (box2_cell HB2.out).2.2.2; clear hb hr)
                  | (go_at_call 53; (with_reducible refine (sameentries_walk A3 c3 x3 B3 d3 y3 _ (Kd.C_below HC3.out (by repeat (first | exact HB2W.out | with_reducible apply pw_below_drewN | with_reducible apply below_drew1 | with_reducible apply below_alloc))) HLS.out.1.2 (Kd.C_below HD3.out (by repeat (first | exact HB2W.out | with_reducible apply pw_below_drewN | with_reducible apply below_drew1 | with_reducible apply below_alloc))) HLS.out.2.2 HQ.out.2).mono ?_); rintro e w3 ⟨⟨r, rfl, hr⟩, hb⟩; obtain rfl : r = false := Bool.eq_false_iff.2 (fun h => H3.out (hr.1 h)); obtain ⟨hbc3, hbf3⟩ := bcell hb; have hsz3 := hb.size; (try simp at hsz3); have HB3 := Aside0.mk (below_step (w := box2 w _ l0.length c0 _ l1.length c1) (by repeat (first | exact HB2.out | with_reducible apply pw_below_drewN | with_reducible apply below_drew1 | with_reducible apply below_alloc)) hb); have HB3W := Aside0.mk (box2_cell HB3.out).2.2.2; clear hb hr))
                go_ret
                exact ⟨⟨false, rfl, iff_of_false Bool.false_ne_true HT.out⟩, HB3W.out⟩
            · have H2 := Aside0.mk h2
              have HT := Aside0.mk (HDF.out (fun h => h2 (by injection h)))
              clear h0 h1 h2
              go_wp2_with (first
                | (go_at_call 33; (with_reducible refine (samebytes_walk A2 c2 x2 B2 d2 y2 _ (Kd.C_below HC2.out (by repeat (first | exact HBW.out | with_reducible apply pw_below_drewN | with_reducible apply below_drew1 | with_reducible apply below_alloc))) HLS.out.1.1 (Kd.C_below HD2.out (by repeat (first | exact HBW.out | with_reducible apply pw_below_drewN | with_reducible apply below_drew1 | with_reducible apply below_alloc))) HLS.out.2.1 HQ.out.1).mono ?_); rintro e w2 ⟨⟨r, rfl, hr⟩, hb⟩; obtain rfl : r = false := Bool.eq_false_iff.2 (fun h => H2.out (hr.1 h)); obtain ⟨hbc, hbf⟩ := bcell hb; have hsz := hb.size; (try simp at hsz); have HB2 := Aside0.mk (below_step (w := box2 w _ l0.length c0 _ l1.length c1) (by repeat (first | exact HB.out | with_reducible apply pw_below_drewN | with_reducible apply below_drew1 | with_reducible apply below_alloc)) hb); have HB2W := Aside0.mk (box2_cell HB2.out).2.2.2; clear hb hr))
              go_ret
              exact ⟨⟨false, rfl, iff_of_false Bool.false_ne_true HT.out⟩, HB2W.out⟩
          · have h1b : (x1 != y1) = true := bne_iff_ne.mpr h1
            have HT := Aside0.mk (HDF.out (fun h => h1 (by injection h)))
            clear h0 h1
            go_wp2
            go_ret
            exact ⟨⟨false, rfl, iff_of_false Bool.false_ne_true HT.out⟩, by repeat (first | exact HBW.out | with_reducible apply pw_below_drewN | with_reducible apply below_drew1 | with_reducible apply below_alloc)⟩
        · have h0b : (x0 != y0) = true := bne_iff_ne.mpr h0
          have HT := Aside0.mk (HDF.out (fun h => h0 (by injection h)))
          clear h0
          go_wp2
          go_ret
          exact ⟨⟨false, rfl, iff_of_false Bool.false_ne_true HT.out⟩, by repeat (first | exact HBW.out | with_reducible apply pw_below_drewN | with_reducible apply below_drew1 | with_reducible apply below_alloc)⟩
      · have HS := Aside0.mk (take_all HL.out hlt HE.out)
        go_wp2
        go_ret
        exact ⟨⟨true, rfl, iff_of_true rfl HS.out⟩, HBW.out⟩
  · have c3b1 : ((l0.length : Int) != (l1.length : Int)) = true := bne_iff_ne.mpr (by omega)
    have HS := Aside0.mk (fun h : l0 = l1 => hl (by rw [h]))
    clear hl
    go_enter Tryd.func31, Tryd.ntmps31
    go_wp2
    go_ret
    exact ⟨⟨false, rfl, iff_of_false Bool.false_ne_true HS.out⟩, box2_below⟩
end Go.Proofs.YtllfjmmdackgdaaDoor.PZ
end
