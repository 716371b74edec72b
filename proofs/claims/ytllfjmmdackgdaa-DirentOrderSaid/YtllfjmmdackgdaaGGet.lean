/- The walk of bits.Get where dirent.Decode calls it: two bytes from 0 on, one byte from 2 on. -/
import Derived.Test.YtllfjmmdackgdaaPZx0
import Derived.LoopN
namespace Go.Proofs.Ytllfjmmdackgdaa.PZ
open Go.RowKit Go.Proofs.YtllfjmmdackgdaaW.PrintWords Go.Proofs.YtllfjmmdackgdaaW.PrintLast Go.Proofs.YtllfjmmdackgdaaW.PrintMore
set_option linter.unusedVariables false
set_option linter.unusedSimpArgs false

def or0 (c : Int) : Int := Go.bits .or .i64 0 (wrap64 (wrap64 c))
def or1 (n c : Int) : Int := Go.bits .or .i64 n (wrap64 (wrap64 c * 256))
def bits_Get.f (l0 : List Int) (a1 a2 : Int) : Option (Int × Bool) :=
  if a1 = 0 ∧ a2 = 2 then (if l0.length < 2 then some (0, false) else some (or1 (or0 (rd l0 0)) (rd l0 1), true))
  else if a1 = 2 ∧ a2 = 1 then (if l0.length < 3 then some (0, false) else some (or0 (rd l0 2), true))
  else none

set_option maxHeartbeats 1000000 in
theorem get21 (A0 : Option Addr) (c0 : Nat) (l0 : List Int) (w : World) (hr0 : Kd.C (Kd.int .u8) w A0 l0.length l0) (hc0 : l0.length ≤ c0) (h : 3 ≤ l0.length) :
    Calls Try.prog 35 #[.slice A0 l0.length c0, .int .i64 2, .int .i64 1] w fun e w' => e = .returned (.tuple #[.int .i64 (or0 (rd l0 2)), .bool true]) ∧ Drawn0 w w' := by
  obtain ⟨ad, rfl, hx⟩ := Kd.at_int hr0 2 (by omega) (by omega)
  have hm : l0.length ≤ 9223372036854775807 := (Kd.reads_of_C (d := (0 : Int)) (h1 := fun _ => rfl) hr0).2.1
  obtain ⟨b, o, f⟩ := ad
  have hx2 : w.cell? ⟨b, o + 2, none⟩ = some (.int .u8 (rd l0 2)) := by
    have := hx; unfold Addr.add at this; simpa using this
  clear hx hr0
  go_enter Try.func35, Try.ntmps35
  go_wp2
  refine wp_loop_rounds 2 ?_
  rw [rounds_succ]
  go_wp2
  rw [rounds_succ]
  go_wp2
  go_ret2
  exact ⟨rfl, Drawn0.refl _⟩

set_option maxHeartbeats 1000000 in
theorem get02 (A0 : Option Addr) (c0 : Nat) (l0 : List Int) (w : World) (hr0 : Kd.C (Kd.int .u8) w A0 l0.length l0) (hc0 : l0.length ≤ c0) (h : 2 ≤ l0.length) :
    Calls Try.prog 35 #[.slice A0 l0.length c0, .int .i64 0, .int .i64 2] w fun e w' => e = .returned (.tuple #[.int .i64 (or1 (or0 (rd l0 0)) (rd l0 1)), .bool true]) ∧ Drawn0 w w' := by
  obtain ⟨ad, rfl, hx⟩ := Kd.at_int hr0 0 (by omega) (by omega)
  obtain ⟨ad', e, hy⟩ := Kd.at_int hr0 1 (by omega) (by omega)
  obtain rfl := Option.some.inj e
  have hm : l0.length ≤ 9223372036854775807 := (Kd.reads_of_C (d := (0 : Int)) (h1 := fun _ => rfl) hr0).2.1
  obtain ⟨b, o, f⟩ := ad
  have hx2 : w.cell? ⟨b, o, f⟩ = some (.int .u8 (rd l0 0)) := by
    have := hx; unfold Addr.add at this; simpa using this
  have hx1 : w.cell? ⟨b, o + 1, none⟩ = some (.int .u8 (rd l0 1)) := by
    have := hy; unfold Addr.add at this; simpa using this
  clear hx hy hr0 e
  go_enter Try.func35, Try.ntmps35
  go_wp2
  refine wp_loop_rounds 3 ?_
  rw [rounds_succ]
  go_wp2
  rw [rounds_succ]
  go_wp2
  rw [rounds_succ]
  go_wp2
  go_ret2
  exact ⟨rfl, Drawn0.refl _⟩

theorem get21no (A0 : Option Addr) (c0 : Nat) (l0 : List Int) (w : World) (hm : l0.length < 3) :
    Calls Try.prog 35 #[.slice A0 l0.length c0, .int .i64 2, .int .i64 1] w fun e w' => e = .returned (.tuple #[.int .i64 0, .bool false]) ∧ Drawn0 w w' := by
  by_cases h2 : l0.length < 2
  · have a1 : decide (2 > (l0.length : Int)) = true := decide_eq_true (by omega)
    have a2 : decide ((l0.length : Int) < 2) = true := decide_eq_true (by omega)
    go_enter Try.func35, Try.ntmps35
    go_wp2
    go_ret2
    exact ⟨rfl, Drawn0.refl _⟩
  · have a2 : decide ((l0.length : Int) < 2) = false := decide_eq_false (by omega)
    have a3 : decide ((l0.length : Int) - 2 < 1) = true := decide_eq_true (by omega)
    go_enter Try.func35, Try.ntmps35
    go_wp2
    go_ret2
    exact ⟨rfl, Drawn0.refl _⟩

theorem get02no (A0 : Option Addr) (c0 : Nat) (l0 : List Int) (w : World) (hm : l0.length < 2) :
    Calls Try.prog 35 #[.slice A0 l0.length c0, .int .i64 0, .int .i64 2] w fun e w' => e = .returned (.tuple #[.int .i64 0, .bool false]) ∧ Drawn0 w w' := by
  have a2 : decide ((l0.length : Int) < 0) = false := decide_eq_false (by omega)
  have a3 : decide ((l0.length : Int) - 0 < 2) = true := decide_eq_true (by omega)
  go_enter Try.func35, Try.ntmps35
  go_wp2
  go_ret2
  exact ⟨rfl, Drawn0.refl _⟩

theorem bits_Get.calls (A0 : Option Addr) (c0 : Nat) (l0 : List Int) (a1 : Int) (a2 : Int) (r1 : Int) (r2 : Bool) (w : World) (hr0 : Kd.C (Kd.int .u8) w A0 l0.length l0) (hc0 : l0.length ≤ c0) (h : bits_Get.f l0 a1 a2 = some (r1, r2)) :
    Calls Try.prog 35 #[.slice A0 l0.length c0, .int .i64 a1, .int .i64 a2] w fun e w' => e = .returned (.tuple #[.int .i64 r1, .bool r2]) ∧ Drawn0 w w' := by
  unfold bits_Get.f at h
  by_cases h1 : a1 = 0 ∧ a2 = 2
  · rw [if_pos h1] at h
    obtain ⟨rfl, rfl⟩ := h1
    by_cases h2 : l0.length < 2
    · rw [if_pos h2] at h
      cases h
      exact get02no A0 c0 l0 w h2
    · rw [if_neg h2] at h
      cases h
      exact get02 A0 c0 l0 w hr0 hc0 (by omega)
  · rw [if_neg h1] at h
    by_cases h3 : a1 = 2 ∧ a2 = 1
    · rw [if_pos h3] at h
      obtain ⟨rfl, rfl⟩ := h3
      by_cases h2 : l0.length < 3
      · rw [if_pos h2] at h
        cases h
        exact get21no A0 c0 l0 w h2
      · rw [if_neg h2] at h
        cases h
        exact get21 A0 c0 l0 w hr0 hc0 (by omega)
    · rw [if_neg h3] at h
      cases h
end Go.Proofs.Ytllfjmmdackgdaa.PZ
