/- The walk of path.right: slices.ContainsFunc and slices.IndexFunc at its closure. -/
import Derived.Test.YtllfjmmdackgdaaDoorGName
namespace Go.Proofs.YtllfjmmdackgdaaDoor.PZ
open Go.RowKit Go.Proofs.YtllfjmmdackgdaaDoorW.PrintWords Go.Proofs.YtllfjmmdackgdaaDoorW.PrintLast Go.Proofs.YtllfjmmdackgdaaDoorW.PrintMore Go.Proofs.YtllfjmmdackgdaaDoor.B
set_option linter.unusedVariables false
set_option linter.unusedSimpArgs false

/-- The first that is no name. -/
def badFrom (l : List ByteArray) (k : Nat) : Int :=
  if k < l.length then (if nameB (rdOf ByteArray.empty l (k : Int)) = true then badFrom l (k + 1) else (k : Int)) else -1
termination_by l.length - k
decreasing_by omega

theorem rpr_walk (x : ByteArray) (w : World) :
    Calls Tryd.prog 60 #[.string x] w fun e w' => e = .returned (.bool (!nameB x)) ∧ w' = w := by
  go_enter Tryd.func60, Tryd.ntmps60
  go_wp2_with (go_at_call 18; refine (name_walk x _).mono ?_; rintro e w' ⟨rfl, rfl⟩)
  go_ret
  exact ⟨rfl, rfl⟩

set_option maxHeartbeats 1000000 in
theorem bad_walk (A0 : Option Addr) (c0 : Nat) (l0 : List ByteArray) (w : World) (hr0 : Kd.C Kd.string w A0 l0.length l0) (hc0 : l0.length ≤ c0) (hn : l0.length < 1000000000000) :
    Calls Tryd.prog 88 #[.slice A0 l0.length c0, .func (.func 60) #[] #[]] w fun e w' => e = .returned (.int .i64 (badFrom l0 0)) ∧ Below w.heap.size w w' := by
  have HR0 := Aside0.mk hr0
  clear hr0
  go_enter Tryd.func88, Tryd.ntmps88
  go_wp2
  go_loopw [5, 8] (fun v5 v8 wr => ∃ k : Nat, k ≤ l0.length ∧ v8 = .int .i64 k ∧ Aside0 (badFrom l0 k = badFrom l0 0) ∧ Aside0 (Below w.heap.size w wr)) (fun v5 v8 _ => l0.length - (intOf v8).toNat)
  case atStart => exact ⟨0, Nat.zero_le _, rfl, ⟨rfl⟩, ⟨Below.refl _ _⟩⟩
  case round =>
    obtain ⟨k, hk, rfl, HE, HB⟩ := hrel
    by_cases hlt : k < l0.length
    · obtain ⟨ad, e, hx0⟩ := Kd.at_string HR0.out (k : Int) (by omega) (by omega)
      cases e
      rw [Int.toNat_natCast] at hx0
      generalize hX : rdOf ByteArray.empty l0 (k : Int) = x at hx0
      replace hx0 := (HB.out.cell (World.block_lt_of_cell? w _ hx0)).trans hx0
      by_cases hp : nameB x = true
      · have HE2 := Aside0.mk (HE.out.symm.trans (by rw [badFrom, if_pos hlt, hX, if_pos hp] : badFrom l0 k = badFrom l0 (k + 1)))
        have hp2 : (!nameB x) = false := by rw [hp]; rfl
        clear hX
        go_wp2_with (go_at_call 60; refine (rpr_walk x _).mono ?_; rintro e w' ⟨rfl, rfl⟩)
        go_roundw
        case rel => exact ⟨k + 1, by omega, rfl, ⟨HE2.out.symm⟩, HB⟩
        case measure => simp [intOf]; omega
      · replace hp : nameB x = false := by simpa using hp
        have HQ := Aside0.mk (HE.out.symm.trans (by rw [badFrom, if_pos hlt, hX, if_neg (by rw [hp]; decide)] : badFrom l0 k = (k : Int)))
        have hp2 : (!nameB x) = true := by rw [hp]; rfl
        clear hX
        go_wp2_with (go_at_call 60; refine (rpr_walk x _).mono ?_; rintro e w' ⟨rfl, rfl⟩)
        go_ret
        exact ⟨by rw [HQ.out]; rfl, HB.out⟩
    · have hkl : k = l0.length := by omega
      subst hkl
      have HQ := Aside0.mk (HE.out.symm.trans (by rw [badFrom, if_neg (by omega)] : badFrom l0 l0.length = (-1 : Int)))
      go_wp2
      go_ret
      exact ⟨by rw [HQ.out]; rfl, HB.out⟩

theorem bad_all (l : List ByteArray) : ∀ (d k : Nat), l.length - k = d → (badFrom l k < 0 ↔ (l.drop k).all nameB = true) := by
  intro d
  induction d with
  | zero =>
    intro k hd
    rw [badFrom, if_neg (by omega), List.drop_of_length_le (by omega)]
    simp
  | succ d ih =>
    intro k hd
    have hkl : k < l.length := by omega
    have e2 : l.drop k = l[k] :: l.drop (k + 1) := List.drop_eq_getElem_cons hkl
    have r : rdOf ByteArray.empty l (k : Int) = l[k] := by
      unfold rdOf
      simp [List.getD_eq_getElem?_getD, List.getElem?_eq_getElem hkl]
    rw [badFrom, if_pos hkl, r, e2, List.all_cons]
    by_cases h : nameB l[k] = true
    · rw [if_pos h, h, Bool.true_and]
      exact ih (k + 1) (by omega)
    · rw [if_neg h]
      have : nameB l[k] = false := by simpa using h
      rw [this]
      simp

def rightN (l : List ByteArray) : Bool := decide (l.length ≤ 8) && l.all nameB
def path_right.f (l0 : List ByteArray) : Option Bool := if l0.length < 1000000000000 then some (rightN l0) else none

theorem contains_walk (A0 : Option Addr) (c0 : Nat) (l0 : List ByteArray) (w : World) (hr0 : Kd.C Kd.string w A0 l0.length l0) (hc0 : l0.length ≤ c0) (hn : l0.length < 1000000000000) :
    Calls Tryd.prog 59 #[.slice A0 l0.length c0, .func (.func 60) #[] #[]] w fun e w' => e = .returned (.bool (decide (badFrom l0 0 ≥ 0))) ∧ Below w.heap.size w w' := by
  have HR0 := Aside0.mk hr0
  clear hr0
  go_enter Tryd.func59, Tryd.ntmps59
  go_wp2_with (go_at_call 88; refine (bad_walk _ _ l0 _ HR0.out hc0 hn).mono ?_; rintro e w' ⟨rfl, hb⟩; have HB := Aside0.mk hb; clear hb)
  go_ret
  exact ⟨rfl, HB.out⟩

theorem path_right.calls (A0 : Option Addr) (c0 : Nat) (l0 : List ByteArray) (r : Bool) (w : World) (hr0 : Kd.C Kd.string w A0 l0.length l0) (hc0 : l0.length ≤ c0) (h : path_right.f l0 = some r) :
    Calls Tryd.prog 38 #[.slice A0 l0.length c0] w fun e w' => e = .returned (.bool r) ∧ Below w.heap.size w w' := by
  unfold path_right.f at h
  by_cases hn : l0.length < 1000000000000
  · rw [if_pos hn] at h
    obtain rfl := Option.some.inj h
    clear h
    have HR0 := Aside0.mk hr0
    clear hr0
    by_cases h8 : l0.length ≤ 8
    · have h8b : decide ((l0.length : Int) ≤ 8) = true := decide_eq_true (by omega)
      have hq : rightN l0 = !decide (badFrom l0 0 ≥ 0) := by
        unfold rightN
        rw [decide_eq_true h8, Bool.true_and, Bool.eq_iff_iff]
        have := bad_all l0 l0.length 0 (by omega)
        rw [List.drop_zero] at this
        rw [← this]
        simp
      rw [hq]
      clear hq
      go_enter Tryd.func38, Tryd.ntmps38
      go_wp2_with (go_at_call 59; refine (contains_walk _ _ l0 _ HR0.out hc0 hn).mono ?_; rintro e w' ⟨rfl, hb⟩; have HB := Aside0.mk hb; clear hb)
      go_ret
      exact ⟨rfl, HB.out⟩
    · have h8b : decide ((l0.length : Int) ≤ 8) = false := decide_eq_false (by omega)
      have hq : rightN l0 = false := by unfold rightN; rw [decide_eq_false h8]; rfl
      rw [hq]
      clear hq
      go_enter Tryd.func38, Tryd.ntmps38
      go_wp2
      go_ret
      exact ⟨rfl, Below.refl _ _⟩
  · rw [if_neg hn] at h
    cases h
end Go.Proofs.YtllfjmmdackgdaaDoor.PZ
