import Derived.Test.YtbhjggbijkjmnaaGreatDoorM14
import Derived.Test.YtbhjggbijkjmnaaGreatDoorM33
import Derived.BigQuiet
import Derived.Deep.QuietTactic
import Derived.StillTailTactics
set_option linter.unusedVariables false
set_option linter.unusedSimpArgs false
section
namespace Go.Proofs.YtbhjggbijkjmnaaGreatDoor.PZ
open Go.RowKit Go.Proofs.YtbhjggbijkjmnaaGreatDoorW.PrintWords Go.Proofs.YtbhjggbijkjmnaaGreatDoorW.PrintLast Go.Proofs.YtbhjggbijkjmnaaGreatDoorW.PrintMore Go.Proofs.YtbhjggbijkjmnaaGreatDoor.B Go.Proofs.YtbhjggbijkjmnaaGreatDoor.Ord TD
set_option maxRecDepth 100000
theorem Qhg {α : Type} {a b : List α} {k : Nat} (d : α) (hk : k < a.length) (hkb : k < b.length) (h : a.take k = b.take k) (he : a.getD k d = b.getD k d) : a.take (k + 1) = b.take (k + 1) := by
 rw [List.take_add_one, List.take_add_one, h, List.getElem?_eq_getElem hk, List.getElem?_eq_getElem hkb]
 simp only [List.getD_eq_getElem?_getD, List.getElem?_eq_getElem hk, List.getElem?_eq_getElem hkb, Option.getD_some] at he
 rw [he]
theorem take_all {α : Type} {a b : List α} {k : Nat} (hl : a.length = b.length) (hk : ¬ k < a.length) (h : a.take k = b.take k) : a = b := by
 rwa [List.take_of_length_le zq3, List.take_of_length_le zq3] at h
theorem Qbv (A0 : Option Addr) (c0 : Nat) (l0 : List Int) (A1 : Option Addr) (c1 : Nat) (l1 : List Int) (w : World) (hr0 : Kd.C (Kd.int .u8) w A0 l0.length l0) (hc0 : l0.length ≤ c0) (hr1 : Kd.C (Kd.int .u8) w A1 l1.length l1) (hc1 : l1.length ≤ c1) (hn : l0.length < 1000000000000) :
  Calls Tryz.prog 15 #[.slice A0 l0.length c0, .slice A1 l1.length c1] w fun e w' => (∃ r, e = .returned (.bool r) ∧ (r = true ↔ l0 = l1)) ∧ Below w.heap.size w w' := by
 have HR0 := am hr0
 have HR1 := am hr1
 clear hr0 hr1
 by_cases hl : l0.length = l1.length
 ·
  have c3b1 : ((l0.length : Int) != (l1.length : Int)) = false := bne_eq_false_iff_eq.mpr zq3
  have HL := am hl
  clear hl
  go_enter Tryz.func15, Tryz.ntmps15
  go_wp2
  go_loopw [5] (fun v5 wr => ∃ k : Nat, k ≤ l0.length ∧ v5 = .int .i64 k ∧ Aside0 (l0.take k = l1.take k) ∧ Aside0 (Below w.heap.size w wr)) (fun v5 _ => l0.length - (intOf v5).toNat)
  case atStart => exact ⟨0, Nat.zero_le _, rfl, ⟨rfl⟩, ⟨Below.refl _ _⟩⟩
  case round =>
   obtain ⟨k, hk, rfl, HE, HB⟩ := hrel
   by_cases hlt : k < l0.length
   ·
    have hlt1 : k < l1.length := by have := HL.out; omega
    have hki : (k : Int) < (l0.length : Int) := by omega
    have hki1 : (k : Int) < (l1.length : Int) := by omega
    obtain ⟨ad0, rfl, hx00⟩ := Kd.at_int HR0.out (k : Int) zq3 zq3
    obtain ⟨ad1, rfl, hx10⟩ := Kd.at_int HR1.out (k : Int) zq3 zq3
    rw [Int.toNat_natCast] at hx00 hx10
    replace hx00 := (HB.out.cell (World.block_lt_of_cell? w _ hx00)).trans hx00
    replace hx10 := (HB.out.cell (World.block_lt_of_cell? w _ hx10)).trans hx10
    by_cases hq : rd l0 k = rd l1 k
    ·
     have HS := am (Qhg 0 hlt hlt1 HE.out hq)
     have hqb : (rd l0 k != rd l1 k) = false := bne_eq_false_iff_eq.mpr hq
     generalize rd l0 k = x at hx00 hqb
     generalize rd l1 k = y at hx10 hqb
     clear hq
     go_wp2
     go_quiet (fail)
     go_wp2
     go_roundw
     case rel => exact ⟨k + 1, by omega, rfl, HS, ⟨by repeat (first | exact HB.out | with_reducible apply Qac | with_reducible apply Qad)⟩⟩
     case measure => simp [intOf]; omega
    ·
     have HS := am (fun h : l0 = l1 => hq (by rw [h]))
     have hqb : (rd l0 k != rd l1 k) = true := bne_iff_ne.mpr hq
     generalize rd l0 k = x at hx00 hqb
     generalize rd l1 k = y at hx10 hqb
     clear hq
     go_wp2
     go_quiet (fail)
     go_wp2
     go_ret
     exact ⟨⟨false, rfl, iff_of_false Bool.false_ne_true HS.out⟩, by repeat (first | exact HB.out | with_reducible apply Qac | with_reducible apply Qad)⟩
   ·
    have HS := am (take_all HL.out hlt HE.out)
    go_wp2
    go_ret
    exact ⟨⟨true, rfl, iff_of_true rfl HS.out⟩, HB.out⟩
 ·
  have c3b1 : ((l0.length : Int) != (l1.length : Int)) = true := bne_iff_ne.mpr zq3
  have HS := am (fun h : l0 = l1 => hl (by rw [h]))
  clear hl
  go_enter Tryz.func15, Tryz.ntmps15
  go_wp2
  go_ret
  exact ⟨⟨false, rfl, iff_of_false Bool.false_ne_true HS.out⟩, Below.refl _ _⟩
theorem Qej (A0 : Option Addr) (c0 : Nat) (l0 : List ByteArray) (A1 : Option Addr) (c1 : Nat) (l1 : List ByteArray) (w : World) (hr0 : Kd.C Kd.string w A0 l0.length l0) (hc0 : l0.length ≤ c0) (hr1 : Kd.C Kd.string w A1 l1.length l1) (hc1 : l1.length ≤ c1) (hn : l0.length < 1000000000000) :
  Calls Tryz.prog 21 #[.slice A0 l0.length c0, .slice A1 l1.length c1] w fun e w' => (∃ r, e = .returned (.bool r) ∧ (r = true ↔ l0 = l1)) ∧ Below w.heap.size w w' := by
 have HR0 := am hr0
 have HR1 := am hr1
 clear hr0 hr1
 by_cases hl : l0.length = l1.length
 ·
  have c3b1 : ((l0.length : Int) != (l1.length : Int)) = false := bne_eq_false_iff_eq.mpr zq3
  have HL := am hl
  clear hl
  go_enter Tryz.func21, Tryz.ntmps21
  go_wp2
  go_loopw [5] (fun v5 wr => ∃ k : Nat, k ≤ l0.length ∧ v5 = .int .i64 k ∧ Aside0 (l0.take k = l1.take k) ∧ Aside0 (Below w.heap.size w wr)) (fun v5 _ => l0.length - (intOf v5).toNat)
  case atStart => exact ⟨0, Nat.zero_le _, rfl, ⟨rfl⟩, ⟨Below.refl _ _⟩⟩
  case round =>
   obtain ⟨k, hk, rfl, HE, HB⟩ := hrel
   by_cases hlt : k < l0.length
   ·
    have hlt1 : k < l1.length := by have := HL.out; omega
    have hki : (k : Int) < (l0.length : Int) := by omega
    have hki1 : (k : Int) < (l1.length : Int) := by omega
    obtain ⟨ad0, rfl, hx00⟩ := Kd.at_string HR0.out (k : Int) zq3 zq3
    obtain ⟨ad1, rfl, hx10⟩ := Kd.at_string HR1.out (k : Int) zq3 zq3
    rw [Int.toNat_natCast] at hx00 hx10
    replace hx00 := (HB.out.cell (World.block_lt_of_cell? w _ hx00)).trans hx00
    replace hx10 := (HB.out.cell (World.block_lt_of_cell? w _ hx10)).trans hx10
    by_cases hq : rdOf ByteArray.empty l0 k = rdOf ByteArray.empty l1 k
    ·
     have HS := am (Qhg ByteArray.empty hlt hlt1 HE.out hq)
     have hqb : ((rdOf ByteArray.empty l0 k).toList == (rdOf ByteArray.empty l1 k).toList) = true := beq_iff_eq.mpr (by rw [hq])
     generalize rdOf ByteArray.empty l0 k = x at hx00 hqb
     generalize rdOf ByteArray.empty l1 k = y at hx10 hqb
     clear hq
     go_wp2
     go_quiet (fail)
     go_wp2
     go_roundw
     case rel => exact ⟨k + 1, by omega, rfl, HS, ⟨by repeat (first | exact HB.out | with_reducible apply Qac | with_reducible apply Qad)⟩⟩
     case measure => simp [intOf]; omega
    ·
     have HS := am (fun h : l0 = l1 => hq (by rw [h]))
     have hqb : ((rdOf ByteArray.empty l0 k).toList == (rdOf ByteArray.empty l1 k).toList) = false := beq_eq_false_iff_ne.mpr (fun h => hq (Qax h))
     generalize rdOf ByteArray.empty l0 k = x at hx00 hqb
     generalize rdOf ByteArray.empty l1 k = y at hx10 hqb
     clear hq
     go_wp2
     go_quiet (fail)
     go_wp2
     go_ret
     exact ⟨⟨false, rfl, iff_of_false Bool.false_ne_true HS.out⟩, by repeat (first | exact HB.out | with_reducible apply Qac | with_reducible apply Qad)⟩
   ·
    have HS := am (take_all HL.out hlt HE.out)
    go_wp2
    go_ret
    exact ⟨⟨true, rfl, iff_of_true rfl HS.out⟩, HB.out⟩
 ·
  have c3b1 : ((l0.length : Int) != (l1.length : Int)) = true := bne_iff_ne.mpr zq3
  have HS := am (fun h : l0 = l1 => hl (by rw [h]))
  clear hl
  go_enter Tryz.func21, Tryz.ntmps21
  go_wp2
  go_ret
  exact ⟨⟨false, rfl, iff_of_false Bool.false_ne_true HS.out⟩, Below.refl _ _⟩
theorem entry_same (x y : S62) : x = y ↔ (!((x.f0.toList == y.f0.toList)) || !(x.f1 == y.f1)) = false := by
 cases x; cases y
 simp only [Bool.or_eq_false_iff, Bool.not_eq_false', beq_iff_eq, S62.mk.injEq]
 exact and_congr_left' ⟨fun h => by rw [h], Qax⟩
theorem entry_diff (x y : S62) (h : ¬ x = y) : (!((x.f0.toList == y.f0.toList)) || !(x.f1 == y.f1)) = true := by
 cases hb : (!((x.f0.toList == y.f0.toList)) || !(x.f1 == y.f1)) with
 | true => rfl
 | false => exact absurd ((entry_same x y).2 hb) h
attribute [local go_sem high] eqA62
theorem Qfn (A0 : Option Addr) (c0 : Nat) (l0 : List S62) (A1 : Option Addr) (c1 : Nat) (l1 : List S62) (w : World) (hr0 : Kd.C k62 w A0 l0.length l0) (hc0 : l0.length ≤ c0) (hr1 : Kd.C k62 w A1 l1.length l1) (hc1 : l1.length ≤ c1) (hn : l0.length < 1000000000000) :
  Calls Tryz.prog 31 #[.slice A0 l0.length c0, .slice A1 l1.length c1] w fun e w' => (∃ r, e = .returned (.bool r) ∧ (r = true ↔ l0 = l1)) ∧ Below w.heap.size w w' := by
 have HR0 := am hr0
 have HR1 := am hr1
 clear hr0 hr1
 have hu := Tryz.underlying62
 by_cases hl : l0.length = l1.length
 ·
  have c3b1 : ((l0.length : Int) != (l1.length : Int)) = false := bne_eq_false_iff_eq.mpr zq3
  have HL := am hl
  clear hl
  go_enter Tryz.func31, Tryz.ntmps31
  go_wp2
  go_loopw [5] (fun v5 wr => ∃ k : Nat, k ≤ l0.length ∧ v5 = .int .i64 k ∧ Aside0 (l0.take k = l1.take k) ∧ Aside0 (Below w.heap.size w wr)) (fun v5 _ => l0.length - (intOf v5).toNat)
  case atStart => exact ⟨0, Nat.zero_le _, rfl, ⟨rfl⟩, ⟨Below.refl _ _⟩⟩
  case round =>
   obtain ⟨k, hk, rfl, HE, HB⟩ := hrel
   by_cases hlt : k < l0.length
   ·
    have hlt1 : k < l1.length := by have := HL.out; omega
    have hki : (k : Int) < (l0.length : Int) := by omega
    have hki1 : (k : Int) < (l1.length : Int) := by omega
    obtain ⟨ad0, rfl, hx00, hx01⟩ := Qbg HR0.out (k : Int) zq3 zq3
    obtain ⟨ad1, rfl, hx10, hx11⟩ := Qbg HR1.out (k : Int) zq3 zq3
    rw [Int.toNat_natCast] at hx00 hx01 hx10 hx11
    replace hx00 := (HB.out.cell (World.block_lt_of_cell? w _ hx00)).trans hx00
    replace hx01 := (HB.out.cell (World.block_lt_of_cell? w _ hx01)).trans hx01
    replace hx10 := (HB.out.cell (World.block_lt_of_cell? w _ hx10)).trans hx10
    replace hx11 := (HB.out.cell (World.block_lt_of_cell? w _ hx11)).trans hx11
    by_cases hq : rd_T62 l0 k = rd_T62 l1 k
    ·
     have HS := am (Qhg z62 hlt hlt1 HE.out hq)
     have hqb : (!(((rd_T62 l0 k).f0.toList == (rd_T62 l1 k).f0.toList)) || !((rd_T62 l0 k).f1 == (rd_T62 l1 k).f1)) = false := (entry_same _ _).1 hq
     generalize rd_T62 l0 k = x at hx00 hx01 hqb
     generalize rd_T62 l1 k = y at hx10 hx11 hqb
     clear hq
     go_wp2
     go_quiet (fail)
     go_wp2
     go_roundw
     case rel => exact ⟨k + 1, by omega, rfl, HS, ⟨by repeat (first | exact HB.out | with_reducible apply Qac | with_reducible apply Qad)⟩⟩
     case measure => simp [intOf]; omega
    ·
     have HS := am (fun h : l0 = l1 => hq (by rw [h]))
     have hqb : (!(((rd_T62 l0 k).f0.toList == (rd_T62 l1 k).f0.toList)) || !((rd_T62 l0 k).f1 == (rd_T62 l1 k).f1)) = true := entry_diff _ _ hq
     generalize rd_T62 l0 k = x at hx00 hx01 hqb
     generalize rd_T62 l1 k = y at hx10 hx11 hqb
     clear hq
     go_wp2
     go_quiet (fail)
     go_wp2
     go_ret
     exact ⟨⟨false, rfl, iff_of_false Bool.false_ne_true HS.out⟩, by repeat (first | exact HB.out | with_reducible apply Qac | with_reducible apply Qad)⟩
   ·
    have HS := am (take_all HL.out hlt HE.out)
    go_wp2
    go_ret
    exact ⟨⟨true, rfl, iff_of_true rfl HS.out⟩, HB.out⟩
 ·
  have c3b1 : ((l0.length : Int) != (l1.length : Int)) = true := bne_iff_ne.mpr zq3
  have HS := am (fun h : l0 = l1 => hl (by rw [h]))
  clear hl
  go_enter Tryz.func31, Tryz.ntmps31
  go_wp2
  go_ret
  exact ⟨⟨false, rfl, iff_of_false Bool.false_ne_true HS.out⟩, Below.refl _ _⟩
theorem Qfh (w : World) (a b : Obj) : ((w.alloc a).alloc b).heap[w.heap.size + 1]? = some b := by
 have h := Qal (w.alloc a) b
 rwa [World.size_alloc] at h
def box2 (w : World) (A0 : Option Addr) (n0 c0 : Nat) (A1 : Option Addr) (n1 c1 : Nat) : World := (w.alloc (.cells #[.slice A0 n0 c0] 26)).alloc (.cells #[.slice A1 n1 c1] 26)
section
variable {w : World} {A0 A1 : Option Addr} {n0 n1 c0 c1 : Nat}
theorem box2_below : Below w.heap.size w (box2 w A0 n0 c0 A1 n1 c1) := Qaa (Qaa (Below.refl _ _) _) _
theorem box2_0 : (box2 w A0 n0 c0 A1 n1 c1).cell? ⟨w.heap.size, 0, none⟩ = some (.slice A0 n0 c0) :=
 (Qab (Qaj (Qal w (.cells #[.slice A0 n0 c0] 26)) _) 0).trans rfl
theorem box2_1 : (box2 w A0 n0 c0 A1 n1 c1).cell? ⟨w.heap.size + 1, 0, none⟩ = some (.slice A1 n1 c1) :=
 (Qab (Qfh w (.cells #[.slice A0 n0 c0] 26) (.cells #[.slice A1 n1 c1] 26)) 0).trans rfl
theorem box2_size : (box2 w A0 n0 c0 A1 n1 c1).heap.size = w.heap.size + 1 + 1 := by unfold box2; rw [World.size_alloc, World.size_alloc]
theorem Qev {W : World} (h : Below (box2 w A0 n0 c0 A1 n1 c1).heap.size (box2 w A0 n0 c0 A1 n1 c1) W) : W.cell? ⟨w.heap.size, 0, none⟩ = some (.slice A0 n0 c0) ∧ W.cell? ⟨w.heap.size + 1, 0, none⟩ = some (.slice A1 n1 c1) ∧ w.heap.size + 1 < W.heap.size ∧ Below w.heap.size w W :=
 ⟨(h.cell (World.block_lt_of_cell? _ _ box2_0)).trans box2_0, (h.cell (World.block_lt_of_cell? _ _ box2_1)).trans box2_1, by have := h.size; rw [box2_size] at this; omega, Qa box2_below h⟩
end
set_option maxHeartbeats 2000000 in
theorem Qdx (A0 : Option Addr) (c0 : Nat) (l0 : List S52) (A1 : Option Addr) (c1 : Nat) (l1 : List S52) (w : World) (hr0 : Kd.C k52 w A0 l0.length l0) (hc0 : l0.length ≤ c0) (hr1 : Kd.C k52 w A1 l1.length l1) (hc1 : l1.length ≤ c1) (hn : l0.length < 1000000000000) (hm : ∀ k, (nd l0 k).f2.length < 1000000000000 ∧ (nd l0 k).f3.length < 1000000000000) :
  Calls Tryz.prog 14 #[.agg #[.slice A0 l0.length c0], .agg #[.slice A1 l1.length c1]] w fun e w' => (∃ r, e = .returned (.bool r) ∧ (r = true ↔ l0 = l1)) ∧ Below w.heap.size w w' := by
 have HR0 := am hr0
 have HR1 := am hr1
 have HM := am hm
 clear hr0 hr1 hm
 by_cases hl : l0.length = l1.length
 ·
  have c3b1 : ((l0.length : Int) != (l1.length : Int)) = false := bne_eq_false_iff_eq.mpr zq3
  have HL := am hl
  clear hl
  go_enter Tryz.func14, Tryz.ntmps14
  go_wp2
  go_loopw [5] (fun v5 wr => ∃ k : Nat, k ≤ l0.length ∧ v5 = .int .i64 k ∧ Aside0 (l0.take k = l1.take k) ∧ Aside0 (Below (box2 w A0 l0.length c0 A1 l1.length c1).heap.size (box2 w A0 l0.length c0 A1 l1.length c1) wr)) (fun v5 _ => l0.length - (intOf v5).toNat)
  case atStart => exact ⟨0, Nat.zero_le _, rfl, ⟨rfl⟩, ⟨Below.refl _ _⟩⟩
  case round =>
   obtain ⟨k, hk, rfl, HE, HB⟩ := hrel
   obtain ⟨hb0, hb1, hbs, hbw⟩ := Qev HB.out
   have HBW := am hbw
   clear hbw
   by_cases hlt : k < l0.length
   ·
    have hlt1 : k < l1.length := by have := HL.out; omega
    have hki : (k : Int) < (l0.length : Int) := by omega
    have hki1 : (k : Int) < (l1.length : Int) := by omega
    obtain ⟨ad, A2, c2, A3, c3, rfl, hx0, hx1, hx2, hx3, hl2, hC2, hl3, hC3⟩ := Qaz HR0.out (k : Int) zq3 zq3
    obtain ⟨bd, B2, d2, B3, d3, rfl, hy0, hy1, hy2, hy3, hm2, hD2, hm3, hD3⟩ := Qaz HR1.out (k : Int) zq3 zq3
    rw [Int.toNat_natCast] at hx0 hx1 hx2 hx3 hy0 hy1 hy2 hy3
    have hmk := HM.out k
    have hstep : rd_T52 l0 (k : Int) = rd_T52 l1 (k : Int) → l0.take (k + 1) = l1.take (k + 1) := fun h => Qhg z52 hlt hlt1 HE.out h
    have hdiff : ¬ rd_T52 l0 (k : Int) = rd_T52 l1 (k : Int) → ¬ l0 = l1 := fun h e => h (by rw [e])
    rw [show nd l0 k = rd_T52 l0 (k : Int) from rfl] at hmk
    generalize rd_T52 l0 (k : Int) = x at hx0 hx1 hx2 hx3 hl2 hC2 hl3 hC3 hmk hstep hdiff
    generalize rd_T52 l1 (k : Int) = y at hy0 hy1 hy2 hy3 hm2 hD2 hm3 hD3 hstep hdiff
    obtain ⟨x0, x1, x2, x3⟩ := x
    obtain ⟨y0, y1, y2, y3⟩ := y
    dsimp only at hx0 hx1 hx2 hx3 hl2 hC2 hl3 hC3 hy0 hy1 hy2 hy3 hm2 hD2 hm3 hD3 hmk
    have HQ := am hmk
    replace hx0 := (HBW.out.cell (World.block_lt_of_cell? w _ hx0)).trans hx0
    replace hx1 := (HBW.out.cell (World.block_lt_of_cell? w _ hx1)).trans hx1
    replace hx2 := (HBW.out.cell (World.block_lt_of_cell? w _ hx2)).trans hx2
    replace hx3 := (HBW.out.cell (World.block_lt_of_cell? w _ hx3)).trans hx3
    replace hy0 := (HBW.out.cell (World.block_lt_of_cell? w _ hy0)).trans hy0
    replace hy1 := (HBW.out.cell (World.block_lt_of_cell? w _ hy1)).trans hy1
    replace hy2 := (HBW.out.cell (World.block_lt_of_cell? w _ hy2)).trans hy2
    replace hy3 := (HBW.out.cell (World.block_lt_of_cell? w _ hy3)).trans hy3
    have hxl : (ad.add (k * 4)).block < wr.heap.size := World.block_lt_of_cell? wr _ hx0
    have hyl : (bd.add (k * 4)).block < wr.heap.size := World.block_lt_of_cell? wr _ hy0
    have HC2 := am hC2
    have HC3 := am hC3
    have HD2 := am hD2
    have HD3 := am hD3
    have HLS := am (And.intro (And.intro hl2 hl3) (And.intro hm2 hm3))
    have HST := am hstep
    have HDF := am hdiff
    clear hC2 hC3 hD2 hD3 hl2 hl3 hm2 hm3 hstep hdiff hmk
    by_cases h0 : x0 = y0
    ·
     have h0b : (x0 != y0) = false := bne_eq_false_iff_eq.mpr h0
     by_cases h1 : x1 = y1
     ·
      have h1b : (x1 != y1) = false := bne_eq_false_iff_eq.mpr h1
      by_cases h2 : x2 = y2
      ·
       have H2 := am h2
       by_cases h3 : x3 = y3
       ·
        have H3 := am h3
        have HT := am (HST.out (by rw [h0, h1, h2, h3]))
        clear h0 h1 h2 h3
        go_wp2_with (first
         | (go_at_call 15; (with_reducible refine (Qbv A2 c2 x2 B2 d2 y2 _ (Kd.C_below HC2.out zq17) HLS.out.1.1 (Kd.C_below HD2.out zq17) HLS.out.2.1 HQ.out.1).mono ?_); rintro e w2 ⟨⟨r, rfl, hr⟩, hb⟩; obtain rfl : r = true := hr.2 H2.out; obtain ⟨hbc, hbf⟩ := bcell hb; have hsz := hb.size; (try simp at hsz); have HB2 := am (Qa (w := box2 w _ l0.length c0 _ l1.length c1) zq23 hb); have HB2W := am (Qev HB2.out).2.2.2; clear hb hr)
         | (go_at_call 31; (with_reducible refine (Qfn A3 c3 x3 B3 d3 y3 _ (Kd.C_below HC3.out zq19) HLS.out.1.2 (Kd.C_below HD3.out zq19) HLS.out.2.2 HQ.out.2).mono ?_); rintro e w3 ⟨⟨r, rfl, hr⟩, hb⟩; obtain rfl : r = true := hr.2 H3.out; obtain ⟨hbc3, hbf3⟩ := bcell hb; have hsz3 := hb.size; (try simp at hsz3); have HB3 := am (Qa (w := box2 w _ l0.length c0 _ l1.length c1) zq11 hb); have HB3W := am (Qev HB3.out).2.2.2; clear hb hr))
        go_roundw
        case rel => exact ⟨k + 1, by omega, rfl, HT, HB3⟩
        case measure => simp [intOf]; omega
       ·
        have H3 := am h3
        have HT := am (HDF.out (fun h => h3 (by injection h)))
        clear h0 h1 h2 h3
        go_wp2_with (first
         | (go_at_call 15; (with_reducible refine (Qbv A2 c2 x2 B2 d2 y2 _ (Kd.C_below HC2.out zq17) HLS.out.1.1 (Kd.C_below HD2.out zq17) HLS.out.2.1 HQ.out.1).mono ?_); rintro e w2 ⟨⟨r, rfl, hr⟩, hb⟩; obtain rfl : r = true := hr.2 H2.out; obtain ⟨hbc, hbf⟩ := bcell hb; have hsz := hb.size; (try simp at hsz); have HB2 := am (Qa (w := box2 w _ l0.length c0 _ l1.length c1) zq23 hb); have HB2W := am (Qev HB2.out).2.2.2; clear hb hr)
         | (go_at_call 31; (with_reducible refine (Qfn A3 c3 x3 B3 d3 y3 _ (Kd.C_below HC3.out zq19) HLS.out.1.2 (Kd.C_below HD3.out zq19) HLS.out.2.2 HQ.out.2).mono ?_); rintro e w3 ⟨⟨r, rfl, hr⟩, hb⟩; obtain rfl : r = false := Bool.eq_false_iff.2 (fun h => H3.out (hr.1 h)); obtain ⟨hbc3, hbf3⟩ := bcell hb; have hsz3 := hb.size; (try simp at hsz3); have HB3 := am (Qa (w := box2 w _ l0.length c0 _ l1.length c1) zq11 hb); have HB3W := am (Qev HB3.out).2.2.2; clear hb hr))
        go_ret
        exact ⟨⟨false, rfl, iff_of_false Bool.false_ne_true HT.out⟩, HB3W.out⟩
      ·
       have H2 := am h2
       have HT := am (HDF.out (fun h => h2 (by injection h)))
       clear h0 h1 h2
       go_wp2_with (first
        | (go_at_call 15; (with_reducible refine (Qbv A2 c2 x2 B2 d2 y2 _ (Kd.C_below HC2.out zq17) HLS.out.1.1 (Kd.C_below HD2.out zq17) HLS.out.2.1 HQ.out.1).mono ?_); rintro e w2 ⟨⟨r, rfl, hr⟩, hb⟩; obtain rfl : r = false := Bool.eq_false_iff.2 (fun h => H2.out (hr.1 h)); obtain ⟨hbc, hbf⟩ := bcell hb; have hsz := hb.size; (try simp at hsz); have HB2 := am (Qa (w := box2 w _ l0.length c0 _ l1.length c1) zq23 hb); have HB2W := am (Qev HB2.out).2.2.2; clear hb hr))
       go_ret
       exact ⟨⟨false, rfl, iff_of_false Bool.false_ne_true HT.out⟩, HB2W.out⟩
     ·
      have h1b : (x1 != y1) = true := bne_iff_ne.mpr h1
      have HT := am (HDF.out (fun h => h1 (by injection h)))
      clear h0 h1
      go_wp2
      go_ret
      exact ⟨⟨false, rfl, iff_of_false Bool.false_ne_true HT.out⟩, by repeat (first | exact HBW.out | with_reducible apply Qac | with_reducible apply Qad | with_reducible apply Qaa)⟩
    ·
     have h0b : (x0 != y0) = true := bne_iff_ne.mpr h0
     have HT := am (HDF.out (fun h => h0 (by injection h)))
     clear h0
     go_wp2
     go_ret
     exact ⟨⟨false, rfl, iff_of_false Bool.false_ne_true HT.out⟩, by repeat (first | exact HBW.out | with_reducible apply Qac | with_reducible apply Qad | with_reducible apply Qaa)⟩
   ·
    have HS := am (take_all HL.out hlt HE.out)
    go_wp2
    go_ret
    exact ⟨⟨true, rfl, iff_of_true rfl HS.out⟩, HBW.out⟩
 ·
  have c3b1 : ((l0.length : Int) != (l1.length : Int)) = true := bne_iff_ne.mpr zq3
  have HS := am (fun h : l0 = l1 => hl (by rw [h]))
  clear hl
  go_enter Tryz.func14, Tryz.ntmps14
  go_wp2
  go_ret
  exact ⟨⟨false, rfl, iff_of_false Bool.false_ne_true HS.out⟩, box2_below⟩
set_option maxHeartbeats 2000000 in
theorem Qfx (A1 : Option Addr) (c1 : Nat) (A2 : Option Addr) (c2 : Nat) (x : S37) (B1 : Option Addr) (d1 : Nat) (B2 : Option Addr) (d2 : Nat) (y : S37) (w : World) (h1 : Kd.C (Kd.int .u8) w A1 x.f1.length x.f1) (h1c : x.f1.length ≤ c1) (h2 : Kd.C Kd.string w A2 x.f2.length x.f2) (h2c : x.f2.length ≤ c2) (k1 : Kd.C (Kd.int .u8) w B1 y.f1.length y.f1) (k1c : y.f1.length ≤ d1) (k2 : Kd.C Kd.string w B2 y.f2.length y.f2) (k2c : y.f2.length ≤ d2) (hn1 : x.f1.length < 1000000000000) (hn2 : x.f2.length < 1000000000000) :
  Calls Tryz.prog 13 #[.agg #[.int .i64 x.f0, .slice A1 x.f1.length c1, .slice A2 x.f2.length c2, .int .i64 x.f3, .int .i64 x.f4, .int .i64 x.f5], .agg #[.int .i64 y.f0, .slice B1 y.f1.length d1, .slice B2 y.f2.length d2, .int .i64 y.f3, .int .i64 y.f4, .int .i64 y.f5]] w fun e w' => (∃ r, e = .returned (.bool r) ∧ (r = true ↔ x = y)) ∧ Below w.heap.size w w' := by
 obtain ⟨x0, x1, x2, x3, x4, x5⟩ := x
 obtain ⟨y0, y1, y2, y3, y4, y5⟩ := y
 dsimp only at *
 have H1 := am h1
 have H2 := am h2
 have K1 := am k1
 have K2 := am k2
 clear h1 h2 k1 k2
 by_cases q0 : x0 = y0
 ·
  have b0 : (x0 == y0) = true := beq_iff_eq.2 q0
  by_cases q3 : x3 = y3
  ·
   have b3 : (x3 == y3) = true := beq_iff_eq.2 q3
   by_cases q4 : x4 = y4
   ·
    have b4 : (x4 == y4) = true := beq_iff_eq.2 q4
    by_cases q5 : x5 = y5
    ·
     have b5 : (x5 == y5) = true := beq_iff_eq.2 q5
     by_cases q1 : x1 = y1
     ·
      have E1 := am q1
      by_cases q2 : x2 = y2
      ·
       have E2 := am q2
       have HT := am (show S37.mk x0 x1 x2 x3 x4 x5 = S37.mk y0 y1 y2 y3 y4 y5 by rw [q0, q3, q4, q5, q1, q2])
       clear q0 q1 q2 q3 q4 q5
       go_enter Tryz.func13, Tryz.ntmps13
       go_wp2_with (first | (go_at_call 15; (with_reducible refine (Qbv A1 c1 x1 B1 d1 y1 _ (Kd.C_below H1.out zq1) h1c (Kd.C_below K1.out zq1) k1c hn1).mono ?_); rintro e w2 ⟨⟨r, rfl, hr⟩, hb⟩; obtain rfl : r = true := hr.2 E1.out; obtain ⟨hbc, hbf⟩ := bcell hb; have hsz := hb.size; (try simp at hsz); have HB2 := am (Qa (w := w) zq1 hb); clear hb hr) | (go_at_call 21; (with_reducible refine (Qej A2 c2 x2 B2 d2 y2 _ (Kd.C_below H2.out zq11) h2c (Kd.C_below K2.out zq11) k2c hn2).mono ?_); rintro e w3 ⟨⟨r, rfl, hr⟩, hb⟩; obtain rfl : r = true := hr.2 E2.out; have HB3 := am (Qa (w := w) zq11 hb); clear hb hr))
       go_ret
       exact ⟨⟨true, rfl, iff_of_true rfl HT.out⟩, HB3.out⟩
      ·
       have E2 := am q2
       have HT := am (fun h : S37.mk x0 x1 x2 x3 x4 x5 = S37.mk y0 y1 y2 y3 y4 y5 => q2 (by injection h))
       clear q0 q1 q2 q3 q4 q5
       go_enter Tryz.func13, Tryz.ntmps13
       go_wp2_with (first | (go_at_call 15; (with_reducible refine (Qbv A1 c1 x1 B1 d1 y1 _ (Kd.C_below H1.out zq1) h1c (Kd.C_below K1.out zq1) k1c hn1).mono ?_); rintro e w2 ⟨⟨r, rfl, hr⟩, hb⟩; obtain rfl : r = true := hr.2 E1.out; obtain ⟨hbc, hbf⟩ := bcell hb; have hsz := hb.size; (try simp at hsz); have HB2 := am (Qa (w := w) zq1 hb); clear hb hr) | (go_at_call 21; (with_reducible refine (Qej A2 c2 x2 B2 d2 y2 _ (Kd.C_below H2.out zq11) h2c (Kd.C_below K2.out zq11) k2c hn2).mono ?_); rintro e w3 ⟨⟨r, rfl, hr⟩, hb⟩; obtain rfl : r = false := Bool.eq_false_iff.2 (fun h => E2.out (hr.1 h)); have HB3 := am (Qa (w := w) zq11 hb); clear hb hr))
       go_ret
       exact ⟨⟨false, rfl, iff_of_false Bool.false_ne_true HT.out⟩, HB3.out⟩
     ·
      have E1 := am q1
      have HT := am (fun h : S37.mk x0 x1 x2 x3 x4 x5 = S37.mk y0 y1 y2 y3 y4 y5 => q1 (by injection h))
      clear q0 q1 q3 q4 q5
      go_enter Tryz.func13, Tryz.ntmps13
      go_wp2_with (first | (go_at_call 15; (with_reducible refine (Qbv A1 c1 x1 B1 d1 y1 _ (Kd.C_below H1.out zq1) h1c (Kd.C_below K1.out zq1) k1c hn1).mono ?_); rintro e w2 ⟨⟨r, rfl, hr⟩, hb⟩; obtain rfl : r = false := Bool.eq_false_iff.2 (fun h => E1.out (hr.1 h)); obtain ⟨hbc, hbf⟩ := bcell hb; have hsz := hb.size; (try simp at hsz); have HB2 := am (Qa (w := w) zq1 hb); clear hb hr))
      go_ret
      exact ⟨⟨false, rfl, iff_of_false Bool.false_ne_true HT.out⟩, HB2.out⟩
    ·
     have b5 : (x5 == y5) = false := beq_eq_false_iff_ne.2 q5
     have HT := am (fun h : S37.mk x0 x1 x2 x3 x4 x5 = S37.mk y0 y1 y2 y3 y4 y5 => q5 (by injection h))
     clear q0 q3 q4 q5
     go_enter Tryz.func13, Tryz.ntmps13
     go_wp2
     go_ret
     exact ⟨⟨false, rfl, iff_of_false Bool.false_ne_true HT.out⟩, by repeat (first | exact Below.refl _ _ | with_reducible apply Qac | with_reducible apply Qad | with_reducible apply Qaa)⟩
   ·
    have b4 : (x4 == y4) = false := beq_eq_false_iff_ne.2 q4
    have HT := am (fun h : S37.mk x0 x1 x2 x3 x4 x5 = S37.mk y0 y1 y2 y3 y4 y5 => q4 (by injection h))
    clear q0 q3 q4
    go_enter Tryz.func13, Tryz.ntmps13
    go_wp2
    go_ret
    exact ⟨⟨false, rfl, iff_of_false Bool.false_ne_true HT.out⟩, by repeat (first | exact Below.refl _ _ | with_reducible apply Qac | with_reducible apply Qad | with_reducible apply Qaa)⟩
  ·
   have b3 : (x3 == y3) = false := beq_eq_false_iff_ne.2 q3
   have HT := am (fun h : S37.mk x0 x1 x2 x3 x4 x5 = S37.mk y0 y1 y2 y3 y4 y5 => q3 (by injection h))
   clear q0 q3
   go_enter Tryz.func13, Tryz.ntmps13
   go_wp2
   go_ret
   exact ⟨⟨false, rfl, iff_of_false Bool.false_ne_true HT.out⟩, by repeat (first | exact Below.refl _ _ | with_reducible apply Qac | with_reducible apply Qad | with_reducible apply Qaa)⟩
 ·
  have b0 : (x0 == y0) = false := beq_eq_false_iff_ne.2 q0
  have HT := am (fun h : S37.mk x0 x1 x2 x3 x4 x5 = S37.mk y0 y1 y2 y3 y4 y5 => q0 (by injection h))
  clear q0
  go_enter Tryz.func13, Tryz.ntmps13
  go_wp2
  go_ret
  exact ⟨⟨false, rfl, iff_of_false Bool.false_ne_true HT.out⟩, by repeat (first | exact Below.refl _ _ | with_reducible apply Qac | with_reducible apply Qad | with_reducible apply Qaa)⟩
set_option maxHeartbeats 1000000 in
theorem new_walk (w : World) :
  Calls Tryz.prog 6 #[] w fun e w' => ∃ v, e = .returned (.agg #[v]) ∧ Kd.S k52 52 w' w.heap.size (fun _ => True) v ([⟨2, 2, [], []⟩] : List S52) ∧ Below w.heap.size w w' := by
 have hu1 := Tryz.underlying26
 have hu2 := Tryz.underlying52
 go_enter Tryz.func6, Tryz.ntmps6
 go_wp2_with ((with_reducible refine Qbx (N := 2) rfl ?_); refine Kd.S_lit k52 _ 52 ?hg (N := 2) ?hd (xs := ([⟨2, 2, [], []⟩] : List S52)) (inner := [.int .i64 2, .int .i64 2, .slice none 0 0, .slice none 0 0]) (ok := fun _ => True) (okp := fun _ => True) ?hr ?hp (fun _ hk => hk) trivial (Below.refl _ _) (Nat.le_refl _) zq14 ?_; (case hd => rfl); (case hg => rfl); (case hr => first | (go_simp; done) | (go_simp; rfl)); (case hp => exact (Reps.c4 (show Kd.M k52 _ _ _ (⟨2, 2, [], []⟩ : S52) [.int .i64 2, .int .i64 2, .slice none 0 0, .slice none 0 0] from (Qdu _ _ _ (⟨2, 2, [], []⟩ : S52) (Kd.R_nil _ _ _ _ _) (Kd.R_nil _ _ _ _ _))) (Reps.none _ _))); intro v2 w2 ho hb hg hnew; clear hg hnew; have HO := am ho; have HB := am hb; have HX := am (Qaf (Qal w (.cells #[.slice none 0 0] 26)) hb); obtain ⟨Ao, co, eo⟩ := Kd.S_slice ho; subst eo; have hx0 := (Qab HX.out 0).trans (show _ = some (Value.slice none 0 0) from rfl); have hxf := Qag HX.out 0; clear ho hb)
 refine bodyPost_ret (results_cell_row rfl _ _ w.heap.size 26 #[.slice Ao 1 co] (0, 0) _ rfl (Qap (cs := #[.slice none 0 0]) HX.out 0 _ rfl) Tryz.underlying26 rfl zq15) rfl ?_
 exact ⟨_, rfl, Kd.S_mono (Kd.S_far (p := ⟨w.heap.size, 0, none⟩) (Kd.S_types (Kd.S_lower HO.out zq14) HX.out zq9) (fun _ hk => hk.2) (.slice Ao 1 co)) (fun _ hk => trivial), (Qa (Qaa (Below.refl _ _) _) HB.out).setCell (p := ⟨w.heap.size, 0, none⟩) (Nat.le_refl _) _⟩
set_option maxHeartbeats 2000000 in
theorem long_walk (o : S31) (A : Option Addr) (c : Nat) (w : World) :
  Calls Tryz.prog 8 #[.agg #[.int .i64 o.f0, .string o.f1, .string o.f2, .int .i64 o.f3, .int .i64 o.f4, .slice A o.f5.length c]] w fun e w' => (∃ r, e = .returned (.bool r) ∧ (r = false → o.f1.size ≤ 1000 ∧ o.f2.size ≤ 1000 ∧ o.f5.length ≤ 3000)) ∧ Below w.heap.size w w' := by
 by_cases h1 : 1000 < o.f1.size
 ·
  have b1 : decide (1000 < (o.f1.size : Int)) = true := decide_eq_true zq3
  have b1' : decide (1000 < o.f1.size) = true := decide_eq_true h1
  go_enter Tryz.func8, Tryz.ntmps8
  go_wp2
  go_ret
  exact ⟨⟨true, rfl, fun h => nomatch h⟩, Qaa (Below.refl _ _) _⟩
 have b1 : decide (1000 < (o.f1.size : Int)) = false := decide_eq_false zq3
 have b1' : decide (1000 < o.f1.size) = false := decide_eq_false h1
 by_cases h2 : 1000 < o.f2.size
 ·
  have b2 : decide (1000 < (o.f2.size : Int)) = true := decide_eq_true zq3
  have b2' : decide (1000 < o.f2.size) = true := decide_eq_true h2
  go_enter Tryz.func8, Tryz.ntmps8
  go_wp2
  go_ret
  exact ⟨⟨true, rfl, fun h => nomatch h⟩, Qaa (Below.refl _ _) _⟩
 have b2 : decide (1000 < (o.f2.size : Int)) = false := decide_eq_false zq3
 have b2' : decide (1000 < o.f2.size) = false := decide_eq_false h2
 by_cases h3 : 3000 < o.f5.length
 ·
  have b3 : decide (3000 < (o.f5.length : Int)) = true := decide_eq_true zq3
  have b3' : decide (3000 < o.f5.length) = true := decide_eq_true h3
  go_enter Tryz.func8, Tryz.ntmps8
  go_wp2
  go_ret
  exact ⟨⟨true, rfl, fun h => nomatch h⟩, Qaa (Below.refl _ _) _⟩
 have b3 : decide (3000 < (o.f5.length : Int)) = false := decide_eq_false zq3
 have b3' : decide (3000 < o.f5.length) = false := decide_eq_false h3
 have HH := am (show o.f1.size ≤ 1000 ∧ o.f2.size ≤ 1000 ∧ o.f5.length ≤ 3000 from ⟨by omega, by omega, by omega⟩)
 clear h1 h2 h3
 cases b4 : decide (3000 < o.f3) <;> cases b5 : decide (o.f3 ≤ 46368) <;> cases b6 : (o.f0 == 8) <;> cases b7 : decide (3000 < o.f4) <;> cases b8 : decide (o.f4 ≤ 46368) <;> cases b9 : (o.f0 == 9) <;>
  (go_enter Tryz.func8, Tryz.ntmps8; go_wp2; go_ret; exact ⟨⟨_, rfl, fun _ => HH.out⟩, Qaa (Below.refl _ _) _⟩)
def box1 (w : World) (A0 : Option Addr) (n0 c0 : Nat) : World := w.alloc (.cells #[.slice A0 n0 c0] 26)
set_option maxHeartbeats 2000000 in
theorem weigh_walk (A : Option Addr) (c : Nat) (l : List S52) (most : Int) (w : World) (hr : Kd.C k52 w A l.length l) (hc : l.length ≤ c) (hn : l.length < 1000000000000) (hm : ∀ k, (nd l k).f2.length < 1000000000000 ∧ (nd l k).f3.length < 1000000000000) :
  Calls Tryz.prog 16 #[.agg #[.slice A l.length c], .int .i64 most] w fun e w' => (∃ n, e = .returned (.int .i64 n)) ∧ Below w.heap.size w w' := by
 have HR := am hr
 have HM := am hm
 have hbx : (box1 w A l.length c).cell? ⟨w.heap.size, 0, none⟩ = some (.slice A l.length c) := (Qab (Qal w (.cells #[.slice A l.length c] 26)) 0).trans rfl
 have HB := am (show Below w.heap.size w (box1 w A l.length c) from Qaa (Below.refl _ _) _)
 clear hr hm
 go_enter Tryz.func16, Tryz.ntmps16
 go_wp2
 go_loopw [5, 6] (fun v5 v6 wr => wr = box1 w A l.length c ∧ ∃ (n : Int) (i : Nat), i ≤ l.length ∧ v5 = .int .i64 n ∧ v6 = .int .i64 i) (fun _ v6 _ => l.length - (intOf v6).toNat)
 case atStart => exact ⟨rfl, 0, 0, Nat.zero_le _, rfl, rfl⟩
 case round =>
  obtain ⟨rfl, n, i, hi, rfl, rfl⟩ := hrel
  by_cases hlt : i < l.length
  ·
   have hii : (i : Int) < (l.length : Int) := by omega
   cases hbn : decide (n ≤ most) with
   | false =>
    go_wp2
    go_ret
    exact ⟨⟨_, rfl⟩, HB.out⟩
   | true =>
    obtain ⟨ad, A2, c2, A3, c3, rfl, hx0, hx1, hx2, hx3, hl2, hC2, hl3, hC3⟩ := Qaz HR.out (i : Int) zq3 zq3
    rw [Int.toNat_natCast] at hx0 hx1 hx2 hx3
    have hmk := HM.out i
    rw [show nd l i = rd_T52 l (i : Int) from rfl] at hmk
    generalize rd_T52 l (i : Int) = x at hx0 hx1 hx2 hx3 hl2 hC2 hl3 hC3 hmk
    replace hx2 := (HB.out.cell (World.block_lt_of_cell? w _ hx2)).trans hx2
    replace hx3 := (HB.out.cell (World.block_lt_of_cell? w _ hx3)).trans hx3
    have HC3 := am (Kd.C_below hC3 HB.out)
    have HMK := am hmk
    have hq3 := hmk.2
    clear hx0 hx1 hC2 hC3 hl2 hmk
    go_wp2
    go_loopw [5, 7] (fun v5 v7 wq => wq = box1 w (some ad) l.length c ∧ ∃ (m : Int) (k : Nat), k ≤ x.f3.length ∧ v5 = .int .i64 m ∧ v7 = .int .i64 k) (fun _ v7 _ => x.f3.length - (intOf v7).toNat)
    case atStart => exact ⟨rfl, _, 0, Nat.zero_le _, rfl, rfl⟩
    case round =>
     obtain ⟨rfl, m, k, hk, rfl, rfl⟩ := hrel
     by_cases hkt : k < x.f3.length
     ·
      have hkk : (k : Int) < (x.f3.length : Int) := by omega
      cases hbm : decide (m ≤ most) with
      | false =>
       go_wp2
       go_roundw
       case rel => exact ⟨trivial, m, i + 1, by omega, rfl, rfl⟩
       case measure => simp [intOf]; omega
      | true =>
       obtain ⟨ed, rfl, hy0, hy1⟩ := Qbg HC3.out (k : Int) zq3 zq3
       rw [Int.toNat_natCast] at hy0 hy1
       generalize rd_T62 x.f3 (k : Int) = y at hy0 hy1
       clear hy1
       go_wp2
       go_roundw
       case rel => exact ⟨trivial, _, k + 1, by omega, rfl, rfl⟩
       case measure => simp [intOf]; omega
     ·
      have hke : k = x.f3.length := by omega
      subst hke
      go_wp2
      go_roundw
      case rel => exact ⟨trivial, m, i + 1, by omega, rfl, rfl⟩
      case measure => simp [intOf]; omega
  ·
   have hie : i = l.length := by omega
   subst hie
   go_wp2
   go_ret
   exact ⟨⟨_, rfl⟩, HB.out⟩
structure Hold (g : Nat) (l : List S52) (A : Option Addr) (c : Nat) (w : World) : Prop where
 blk : w.heap[g]? = some (.cells #[.slice A l.length c] 26 (0, 0))
 cap : l.length ≤ c
 rows : Kd.C k52 w A l.length l
theorem Hold.below {g : Nat} {l : List S52} {A : Option Addr} {c : Nat} {w W : World} (h : Hold g l A c w) (hb : Below w.heap.size w W) : Hold g l A c W := ⟨Qaf h.blk hb, h.cap, Kd.C_below h.rows hb⟩
theorem Hold.cell {g : Nat} {l : List S52} {A : Option Addr} {c : Nat} {w : World} (h : Hold g l A c w) : w.cell? ⟨g, 0, none⟩ = some (.slice A l.length c) := (Qab h.blk 0).trans rfl
theorem Qdo {l : List S52} (h : Rt l) : l.length < 1000000000000 ∧ ∀ k, (nd l k).f2.length < 1000000000000 ∧ (nd l k).f3.length < 1000000000000 := by
 have h1 : l.length ≤ 56 := h.pr.le
 have h2 : ∀ k, (nd l k).f3.length ≤ 64 := h.pr.ents
 have h3 : ∀ k, (nd l k).f2.length ≤ 46368 := h.pr.size
 exact ⟨by omega, fun k => ⟨by have := h3 k; omega, by have := h2 k; omega⟩⟩
theorem Qet {g : Nat} {l : List S52} {A B : Option Addr} {n d T : Nat} {w : World} {f : Nat × Nat} (hg : w.heap[g]? = some (.cells #[.slice B n d] T f)) (hr : Kd.C k52 w A l.length l) (v : Value) : Kd.C k52 (w.setCell ⟨g, 0, none⟩ v) A l.length l :=
 C_box hg (fun k hk => Below.heap_setCell w ⟨g, 0, none⟩ v k hk) hr
end Go.Proofs.YtbhjggbijkjmnaaGreatDoor.PZ
end
