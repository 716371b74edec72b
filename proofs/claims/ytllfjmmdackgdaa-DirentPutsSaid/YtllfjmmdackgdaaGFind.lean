/- The walk of dirent.Find: slices.BinarySearchFunc at its closure. -/
import Derived.Test.YtllfjmmdackgdaaPZx0
import Derived.Test.YtllfjmmdackgdaaShelf
namespace Go.Proofs.Ytllfjmmdackgdaa.PZ
open Go.RowKit Go.Proofs.YtllfjmmdackgdaaW.PrintWords Go.Proofs.YtllfjmmdackgdaaW.PrintLast Go.Proofs.YtllfjmmdackgdaaW.PrintMore
set_option linter.unusedVariables false
set_option linter.unusedSimpArgs false

/-- The comparison that the closure answers. -/
def cmpE (x : S24) (t : ByteArray) : Int := Lib.compareBytes x.f0.data.toList t.data.toList
def bsGo (l : List S24) (t : ByteArray) (i j : Nat) : Nat :=
  if i < j then (if cmpE (rd_T24 l ((i + j) / 2 : Nat)) t < 0 then bsGo l t ((i + j) / 2 + 1) j else bsGo l t i ((i + j) / 2)) else i
termination_by j - i
decreasing_by all_goals omega
def dirent_Find.f (l0 : List S24) (a1 : ByteArray) : Option (Int × Bool) :=
  if l0.length < 1000000000000 then some ((bsGo l0 a1 0 l0.length : Int), decide ((bsGo l0 a1 0 l0.length : Int) < l0.length) && decide (cmpE (rd_T24 l0 (bsGo l0 a1 0 l0.length)) a1 = 0)) else none

theorem cmp_walk (x : S24) (t : ByteArray) (w : World) :
    Calls Try.prog 26 #[.agg #[.string x.f0, .int .i64 x.f1], .string t] w fun e w' => e = .returned (.int .i64 (cmpE x t)) ∧ Below w.heap.size w w' := by
  have hu := Try.underlying24
  go_enter Try.func26, Try.ntmps26
  go_wp2_with (go_at_call 27; refine (Try.strings_Compare _ _ _).mono ?_; rintro e w' ⟨rfl, rfl⟩)
  go_ret
  exact ⟨rfl, (Below.refl _ _).alloc (Nat.le_refl _) _⟩

set_option maxHeartbeats 1000000 in
theorem bs_walk (A0 : Option Addr) (c0 : Nat) (l0 : List S24) (t : ByteArray) (w : World) (hr0 : Kd.C k24 w A0 l0.length l0) (hc0 : l0.length ≤ c0) (hbig : l0.length < 1000000000000) :
    Calls Try.prog 25 #[.slice A0 l0.length c0, .string t, .func (.func 26) #[] #[]] w fun e w' => e = .returned (.tuple #[.int .i64 (bsGo l0 t 0 l0.length), .bool (decide ((bsGo l0 t 0 l0.length : Int) < l0.length) && decide (cmpE (rd_T24 l0 (bsGo l0 t 0 l0.length)) t = 0))]) ∧ Below w.heap.size w w' := by
  have hu := Try.underlying24
  have HR0 := Aside0.mk hr0
  have HC0 := Aside0.mk hc0
  clear hr0 hc0
  go_enter Try.func25, Try.ntmps25
  go_wp2
  go_loopw [9, 10] (fun v9 v10 wr => ∃ i j : Nat, i ≤ j ∧ j ≤ l0.length ∧ v9 = .int .i64 i ∧ v10 = .int .i64 j ∧ Aside0 (bsGo l0 t i j = bsGo l0 t 0 l0.length) ∧ Aside0 (Below w.heap.size w wr)) (fun v9 v10 _ => (intOf v10).toNat - (intOf v9).toNat)
  case atStart => exact ⟨0, l0.length, Nat.zero_le _, Nat.le_refl _, rfl, rfl, ⟨rfl⟩, ⟨Below.refl _ _⟩⟩
  case round =>
    obtain ⟨i, j, hij, hj, rfl, rfl, HE, HB⟩ := hrel
    have HJ := Aside0.mk hj
    by_cases hlt : i < j
    · obtain ⟨ad, e, hx0, hx1⟩ := at_T24 HR0.out (((i + j) / 2 : Nat) : Int) (by omega) (by omega)
      cases e
      rw [Int.toNat_natCast] at hx0 hx1
      generalize hX : rd_T24 l0 (((i + j) / 2 : Nat) : Int) = x at hx0 hx1
      replace hx0 := (HB.out.cell (World.block_lt_of_cell? w _ hx0)).trans hx0
      replace hx1 := (HB.out.cell (World.block_lt_of_cell? w _ hx1)).trans hx1
      have hi : ((i : Int) + j) / 2 = (((i + j) / 2 : Nat) : Int) := by omega
      by_cases hc : cmpE x t < 0
      · have hcb : decide (cmpE x t < 0) = true := decide_eq_true hc
        have HE2 := Aside0.mk (HE.out.symm.trans (by rw [bsGo, if_pos hlt, hX, if_pos hc] : bsGo l0 t i j = bsGo l0 t ((i + j) / 2 + 1) j))
        have HI := Aside0.mk hi
        clear hc hi hX
        go_wp2_with (go_at_call 26; refine (cmp_walk x t _).mono ?_; rintro e w' ⟨rfl, hb⟩; have HB2 := Aside0.mk hb; clear hb)
        go_roundw
        case rel => exact ⟨(i + j) / 2 + 1, j, by omega, HJ.out, by rw [HI.out]; rfl, rfl, ⟨HE2.out.symm⟩, ⟨below_step HB.out HB2.out⟩⟩
        case measure => simp [intOf]; omega
      · have hcb : decide (cmpE x t < 0) = false := decide_eq_false hc
        have HE2 := Aside0.mk (HE.out.symm.trans (by rw [bsGo, if_pos hlt, hX, if_neg hc] : bsGo l0 t i j = bsGo l0 t i ((i + j) / 2)))
        have HI := Aside0.mk hi
        clear hc hi hX
        go_wp2_with (go_at_call 26; refine (cmp_walk x t _).mono ?_; rintro e w' ⟨rfl, hb⟩; have HB2 := Aside0.mk hb; clear hb)
        go_roundw
        case rel => exact ⟨i, (i + j) / 2, by omega, by have := HJ.out; omega, rfl, by rw [HI.out], ⟨HE2.out.symm⟩, ⟨below_step HB.out HB2.out⟩⟩
        case measure => simp [intOf]; omega
    · have hij' : i = j := by omega
      subst hij'
      have hq : bsGo l0 t 0 l0.length = i := by rw [← HE.out, bsGo, if_neg (by omega)]
      have HQ := Aside0.mk hq
      clear hq HE
      by_cases hn : i < l0.length
      · obtain ⟨ad, e, hx0, hx1⟩ := at_T24 HR0.out (i : Int) (by omega) (by omega)
        cases e
        rw [Int.toNat_natCast] at hx0 hx1
        generalize hX : rd_T24 l0 (i : Int) = x at hx0 hx1
        have HX := Aside0.mk hX
        clear hX
        replace hx0 := (HB.out.cell (World.block_lt_of_cell? w _ hx0)).trans hx0
        replace hx1 := (HB.out.cell (World.block_lt_of_cell? w _ hx1)).trans hx1
        have hnb : decide ((i : Int) < l0.length) = true := decide_eq_true (by omega)
        have hnc : decide (i < l0.length) = true := decide_eq_true (by omega)
        go_wp2_with (go_at_call 26; refine (cmp_walk x t _).mono ?_; rintro e w' ⟨rfl, hb⟩; have HB2 := Aside0.mk hb; clear hb)
        go_ret2
        exact ⟨by rw [HQ.out, HX.out]; simp [hn]; rw [Bool.eq_iff_iff]; simp, below_step HB.out HB2.out⟩
      · have hnb : decide ((i : Int) < l0.length) = false := decide_eq_false (by omega)
        have hnc : decide (i < l0.length) = false := decide_eq_false (by omega)
        go_wp2
        go_ret2
        exact ⟨by rw [HQ.out]; simp [hn], HB.out⟩

theorem dirent_Find.calls (A0 : Option Addr) (c0 : Nat) (l0 : List (S24)) (a1 : ByteArray) (r1 : Int) (r2 : Bool) (w : World) (hr0 : Kd.C k24 w A0 l0.length l0) (hc0 : l0.length ≤ c0) (h : dirent_Find.f l0 a1 = some (r1, r2)) :
    Calls Try.prog 12 #[.slice A0 l0.length c0, .string a1] w fun e w' => e = .returned (.tuple #[.int .i64 r1, .bool r2]) ∧ Below w.heap.size w w' := by
  unfold dirent_Find.f at h
  by_cases hb : l0.length < 1000000000000
  · rw [if_pos hb] at h
    cases h
    go_enter Try.func12, Try.ntmps12
    go_wp2_with (go_at_call 25; refine (bs_walk A0 c0 l0 a1 _ hr0 hc0 hb).mono ?_; rintro e w' ⟨rfl, hq⟩; have HB2 := Aside0.mk hq; clear hq)
    go_ret2
    exact ⟨by first | rfl | (simp; done) | (simp [beq_iff_eq]), HB2.out⟩
  · rw [if_neg hb] at h
    cases h
end Go.Proofs.Ytllfjmmdackgdaa.PZ
