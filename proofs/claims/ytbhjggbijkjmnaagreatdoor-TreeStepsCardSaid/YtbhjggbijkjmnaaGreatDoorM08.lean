import Derived.Test.YtbhjggbijkjmnaaGreatDoorM05
import Derived.Test.YtbhjggbijkjmnaaGreatDoorM07
import Derived.Test.YtbhjggbijkjmnaaGreatDoorM02
import Derived.Test.YtbhjggbijkjmnaaGreatDoorM06
set_option linter.unusedVariables false
set_option linter.unusedSimpArgs false
section
namespace Go.Proofs.YtbhjggbijkjmnaaGreatDoor.PZ
open Go.RowKit Go.Proofs.YtbhjggbijkjmnaaGreatDoorW.PrintWords Go.Proofs.YtbhjggbijkjmnaaGreatDoorW.PrintLast Go.Proofs.YtbhjggbijkjmnaaGreatDoorW.PrintMore Go.Proofs.YtbhjggbijkjmnaaGreatDoor.B Go.Proofs.YtbhjggbijkjmnaaGreatDoor.Ord TD
set_option maxRecDepth 100000
theorem names_ok (k : Nat) (p : ByteArray) (l : List ByteArray) (w : World) (h : path_Split.f k p = some (l, 0)) :
  Calls Tryz.prog 34 #[.string p] w fun en w' => ∃ v, en = .returned v ∧ Kd.R Kd.string 9 w' w.heap.size (fun _ => True) v l ∧ Below w.heap.size w w' := by
 have H := am h
 clear h
 go_enter Tryz.func34, Tryz.ntmps34
 go_wp2_with (first | (go_at_call 67; refine (path_Split.calls k p l 0 _ H.out).mono ?_; rintro e w1 ⟨v, rfl, hr, hb⟩; have HR := am hr; have HB := am hb; clear hr hb) | (go_at_call 64; refine (Qau 0 _).mono ?_; rintro e w' ⟨rfl, rfl⟩))
 go_ret
 exact ⟨_, rfl, HR.out, HB.out⟩
theorem names_bad (k : Nat) (p : ByteArray) (l : List ByteArray) (n : Int) (w : World) (h : path_Split.f k p = some (l, n)) (hn : ¬ n = 0) :
  Calls Tryz.prog 34 #[.string p] w fun en w' => en = .panicked (wrong n) ∧ Below w.heap.size w w' := by
 have H := am h
 clear h
 have hnb : (n == 0) = false := beq_eq_false_iff_ne.mpr hn
 go_enter Tryz.func34, Tryz.ntmps34
 go_wp2_with (first | (go_at_call 67; refine (path_Split.calls k p l n _ H.out).mono ?_; rintro e w1 ⟨v, rfl, hr, hb⟩; have HB := am hb; clear hr hb) | (go_at_call 64; refine (Qaw n _).mono ?_; rintro e w' ⟨rfl, rfl⟩))
 exact ⟨rfl, rfl, HB.out⟩
section
attribute [local go_sem] max2_int min2_int max_two min_two max_three min_three max_four min_four
mutual
def moraineref10_Name.j0 : Nat → ByteArray → Bool → Option (Bool)
 | 0, _, _ => none
 | k + 1, x0, x19 => if x19 = true then (some false) else (moraineref10_Name.l0 k x0 0)
def moraineref10_Name.l0 : Nat → ByteArray → Int → Option (Bool)
 | 0, _, _ => none
 | k + 1, x0, x3 => if x3 < (x0.size : Int) then (if 0 ≤ x3 then (if (bt x0 x3) = 0 then (some false) else (if (bt x0 x3) = 47 then (some false) else (moraineref10_Name.l0 k x0 (wrap64 (x3 + 1))))) else (none)) else (some true)
end
def moraineref10_Name.f (k : Nat) (a0 : ByteArray) : Option (Bool) := if (a0.size : Int) < 1 then (moraineref10_Name.j0 k a0 true) else (if (a0.size : Int) > 12 then (moraineref10_Name.j0 k a0 true) else (if a0.toList = ([46] : List UInt8) then (moraineref10_Name.j0 k a0 true) else (moraineref10_Name.j0 k a0 (a0.toList == ([46, 46] : List UInt8)))))
set_option maxHeartbeats 8000000 in
set_option maxRecDepth 100000 in
theorem moraineref10_Name.calls (k : Nat) (a0 : ByteArray) (r : Bool) (w : World) (h : moraineref10_Name.f k a0 = some r) :
  Calls Tryz.prog 73 #[.string a0] w fun e w' => e = .returned (.bool r) ∧ Drawn0 w w' := by
 have H : (if (a0.size : Int) < 1 then (moraineref10_Name.j0 k a0 true) else (if (a0.size : Int) > 12 then (moraineref10_Name.j0 k a0 true) else (if a0.toList = ([46] : List UInt8) then (moraineref10_Name.j0 k a0 true) else (moraineref10_Name.j0 k a0 (a0.toList == ([46, 46] : List UInt8)))))) = some r := h
 clear h
 have HC2 := am H
 clear H
 go_enter Tryz.func73, Tryz.ntmps73
 go_upto_region 1 with (fail)
 go_cut [19] (fun v19 wc => ∃ (kq : Nat) (x19_1 : Bool), v19 = .bool x19_1 ∧ Aside0 (moraineref10_Name.j0 kq a0 x19_1 = some r) ∧ Aside0 (kq ≤ k) ∧ Drawn0 w wc)
 case first =>
  have H := HC2.out
  clear HC2
  by_cases c3 : (a0.size : Int) < 1
  ·
   rw [if_pos c3] at H
   have c3b0 : decide ((a0.size : Int) < 1) = true := decide_eq_true c3
   have c3b1 : decide (a0.size < 1) = true := decide_eq_true zq3
   clear c3
   (first | rw [c3b0] | (simp only [i64_w, i32_w]; rw [c3b0]) | skip)
   have H' := am H
   clear H
   go_wp2
   go_meet
   case rel => exact ⟨_, (true), zq10, H', ⟨by first | omega | exact Nat.le_refl _⟩, by repeat (first | exact Drawn0.refl _ | apply Drawn0.step)⟩
  ·
   rw [if_neg c3] at H
   have c3b0 : decide ((a0.size : Int) < 1) = false := decide_eq_false c3
   have c3b1 : decide (a0.size < 1) = false := decide_eq_false zq3
   clear c3
   (first | rw [c3b0] | (simp only [i64_w, i32_w]; rw [c3b0]) | skip)
   by_cases c4 : (a0.size : Int) > 12
   ·
    rw [if_pos c4] at H
    have c4b0 : decide (12 < (a0.size : Int)) = true := decide_eq_true c4
    have c4b1 : decide (12 < a0.size) = true := decide_eq_true zq3
    clear c4
    have H' := am H
    clear H
    go_wp2
    go_meet
    case rel => exact ⟨_, (true), zq10, H', ⟨by first | omega | exact Nat.le_refl _⟩, by repeat (first | exact Drawn0.refl _ | apply Drawn0.step)⟩
   ·
    rw [if_neg c4] at H
    have c4b0 : decide (12 < (a0.size : Int)) = false := decide_eq_false c4
    have c4b1 : decide (12 < a0.size) = false := decide_eq_false zq3
    clear c4
    by_cases c5 : a0.toList = ([46] : List UInt8)
    ·
     rw [if_pos c5] at H
     have c5b0 : (a0.toList == ([46] : List UInt8)) = true := beq_iff_eq.mpr c5
     have c5b1 : (a0.toList != ([46] : List UInt8)) = false := bne_eq_false_iff_eq.mpr c5
     clear c5
     have H' := am H
     clear H
     go_wp2
     go_meet
     case rel => exact ⟨_, (true), zq10, H', ⟨by first | omega | exact Nat.le_refl _⟩, by repeat (first | exact Drawn0.refl _ | apply Drawn0.step)⟩
    ·
     rw [if_neg c5] at H
     have c5b0 : (a0.toList == ([46] : List UInt8)) = false := beq_eq_false_iff_ne.mpr c5
     have c5b1 : (a0.toList != ([46] : List UInt8)) = true := bne_iff_ne.mpr c5
     have H' := am H
     clear H
     go_wp2
     go_meet
     case rel => exact ⟨_, ((a0.toList == ([46, 46] : List UInt8))), zq10, H', ⟨by first | omega | exact Nat.le_refl _⟩, by repeat (first | exact Drawn0.refl _ | apply Drawn0.step)⟩
 case rest =>
  clear HC2
  try clear p2
  try clear c3
  try clear c3b0
  try clear c3b1
  try clear c4
  try clear c4b0
  try clear c4b1
  try clear c5
  try clear c5b0
  try clear c5b1
  obtain ⟨kq, x19_1, rfl, HA, HJ1, ⟨mc1, rfl⟩⟩ := hcut
  cases kq with
  | zero => exact absurd HA.out (by simp [moraineref10_Name.j0])
  | succ kj1 =>
   have H := HA.out
   clear HA
   simp only [moraineref10_Name.j0] at H
   by_cases c6 : x19_1 = true
   ·
    subst c6
    have H1 : (some false) = some r := by rw [if_pos rfl] at H; exact H
    clear H
    have H := H1
    clear H1
    obtain rfl := Option.some.inj H
    go_wp2
    go_ret
    exact ⟨by first | rfl | (simp; done) | (simp [*]; done), by repeat (first | exact Drawn0.refl _ | apply Drawn0.step)⟩
   ·
    replace c6 := Bool.eq_false_iff.mpr c6
    subst c6
    have H1 : (moraineref10_Name.l0 kj1 a0 0) = some r := by rw [if_neg (show ¬ (false = true) by decide)] at H; exact H
    clear H
    have H := H1
    clear H1
    have H' := am H
    clear H
    go_wp2
    go_loopg [3] kj1 (fun kq v3 w' => ∃ (x3_2 : Int), v3 = .int .i64 x3_2 ∧ Aside0 (moraineref10_Name.l0 kq a0 x3_2 = some r) ∧ Aside0 (kq ≤ kj1) ∧ Drawn0 w w')
    case atStart => exact ⟨(0), zq10, H', ⟨Nat.le_refl _⟩, by repeat (first | exact Drawn0.refl _ | apply Drawn0.step)⟩
    case round =>
     clear H'
     try clear c1
     try clear p2
     try clear c3
     try clear c3b0
     try clear c3b1
     try clear c4
     try clear c4b0
     try clear c4b1
     try clear c5
     try clear c5b0
     try clear c5b1
     try clear c6
     try clear p2
     obtain ⟨x3_2, rfl, HA, HK2, ⟨m2, rfl⟩⟩ := hrel
     cases gk with
     | zero => exact absurd HA.out (by simp [moraineref10_Name.l0])
     | succ k2 =>
      have H := HA.out
      clear HA
      simp only [moraineref10_Name.l0] at H
      by_cases c7 : x3_2 < (a0.size : Int)
      ·
       rw [if_pos c7] at H
       have c7b0 : decide (x3_2 < (a0.size : Int)) = true := decide_eq_true c7
       clear c7
       by_cases c8 : 0 ≤ x3_2
       ·
        rw [if_pos c8] at H
        have c8b0 : decide (0 ≤ x3_2) = true := decide_eq_true c8
        clear c8
        by_cases c10 : (bt a0 x3_2) = 0
        ·
         rw [if_pos c10] at H
         have c10b0 : ((bt a0 x3_2) == 0) = true := beq_iff_eq.mpr c10
         have c10b1 : ((bt a0 x3_2) != 0) = false := bne_eq_false_iff_eq.mpr c10
         clear c10
         obtain rfl := Option.some.inj H
         have p9 : 0 ≤ (x3_2 : Int) := of_decide_eq_true zq7
         have q9 : x3_2 < (a0.size : Int) := of_decide_eq_true zq7
         have hx9 := bt_at a0 x3_2
         replace p9 := eq_true p9
         replace q9 := eq_true q9
         go_wp2
         go_ret
         exact ⟨by first | rfl | (simp; done) | (simp [*]; done), by repeat (first | exact Drawn0.refl _ | apply Drawn0.step)⟩
        ·
         rw [if_neg c10] at H
         have c10b0 : ((bt a0 x3_2) == 0) = false := beq_eq_false_iff_ne.mpr c10
         have c10b1 : ((bt a0 x3_2) != 0) = true := bne_iff_ne.mpr c10
         by_cases c12 : (bt a0 x3_2) = 47
         ·
          rw [if_pos c12] at H
          have c12b0 : ((bt a0 x3_2) == 47) = true := beq_iff_eq.mpr c12
          have c12b1 : ((bt a0 x3_2) != 47) = false := bne_eq_false_iff_eq.mpr c12
          clear c12
          obtain rfl := Option.some.inj H
          have p9 : 0 ≤ (x3_2 : Int) := of_decide_eq_true zq7
          have q9 : x3_2 < (a0.size : Int) := of_decide_eq_true zq7
          have hx9 := bt_at a0 x3_2
          replace p9 := eq_true p9
          replace q9 := eq_true q9
          have p11 : 0 ≤ (x3_2 : Int) := of_decide_eq_true zq7
          have q11 : x3_2 < (a0.size : Int) := of_decide_eq_true zq7
          have hx11 := bt_at a0 x3_2
          replace p11 := eq_true p11
          replace q11 := eq_true q11
          go_wp2
          go_ret
          exact ⟨by first | rfl | (simp; done) | (simp [*]; done), by repeat (first | exact Drawn0.refl _ | apply Drawn0.step)⟩
         ·
          rw [if_neg c12] at H
          have c12b0 : ((bt a0 x3_2) == 47) = false := beq_eq_false_iff_ne.mpr c12
          have c12b1 : ((bt a0 x3_2) != 47) = true := bne_iff_ne.mpr c12
          have H' := am H
          clear H
          have p9 : 0 ≤ (x3_2 : Int) := of_decide_eq_true zq7
          have q9 : x3_2 < (a0.size : Int) := of_decide_eq_true zq7
          have hx9 := bt_at a0 x3_2
          replace p9 := eq_true p9
          replace q9 := eq_true q9
          have p11 : 0 ≤ (x3_2 : Int) := of_decide_eq_true zq7
          have q11 : x3_2 < (a0.size : Int) := of_decide_eq_true zq7
          have hx11 := bt_at a0 x3_2
          replace p11 := eq_true p11
          replace q11 := eq_true q11
          go_wp2
          go_roundg k2
          case measure => have := HJ1.out; have := HK2.out; omega
          case rel => exact ⟨(wrap64 (x3_2 + 1)), zq10, H', ⟨by have := HJ1.out; have := HK2.out; omega⟩, by repeat (first | exact Drawn0.refl _ | apply Drawn0.step)⟩
       ·
        rw [if_neg c8] at H
        exact absurd H zq14
      ·
       rw [if_neg c7] at H
       have c7b0 : decide (x3_2 < (a0.size : Int)) = false := decide_eq_false c7
       clear c7
       obtain rfl := Option.some.inj H
       go_wp2
       go_ret
       exact ⟨by first | rfl | (simp; done) | (simp [*]; done), by repeat (first | exact Drawn0.refl _ | apply Drawn0.step)⟩
mutual
def moraineref10_Split.j0 : Nat → ByteArray → Bool → Option (List ByteArray × Int)
 | 0, _, _ => none
 | k + 1, x0, x14 => if x14 = true then (some (([] : List ByteArray), 20)) else ((some (([] : List ByteArray) : List ByteArray)).bind fun y187 => (if x0.toList = ([47] : List UInt8) then (some (y187, 0)) else (moraineref10_Split.l0 k x0 y187 (([] : List Int)) 1)))
def moraineref10_Split.l0 : Nat → ByteArray → List ByteArray → List Int → Int → Option (List ByteArray × Int)
 | 0, _, _, _, _ => none
 | k + 1, x0, x4, x5, x6 => if x6 ≤ (x0.size : Int) then (if x6 < (x0.size : Int) then (if 0 ≤ x6 then (moraineref10_Split.j2 k x0 x4 x5 x6 ((bt x0 x6) != 47)) else (none)) else (moraineref10_Split.j2 k x0 x4 x5 x6 false)) else (some (x4, 0))
def moraineref10_Split.j2 : Nat → ByteArray → List ByteArray → List Int → Int → Bool → Option (List ByteArray × Int)
 | 0, _, _, _, _, _ => none
 | k + 1, x0, x4, x5, x6, x35 => if x35 = true then (if 0 ≤ x6 then (if x6 < (x0.size : Int) then (if x5.length < 140737488355328 then (moraineref10_Split.l0 k x0 x4 (x5 ++ [bt x0 x6]) (wrap64 (x6 + 1))) else (none)) else (none)) else (none)) else ((moraineref10_Name.f k (strOfNums x5)).bind fun t196 => (if t196 = true then (if (x4.length : Int) = 8 then (some (([] : List ByteArray), 20)) else (if x4.length < 8796093022208 then (moraineref10_Split.l0 k x0 (x4 ++ [strOfNums x5]) ([] : List Int) (wrap64 (x6 + 1))) else (none))) else (some (([] : List ByteArray), 20))))
end
def moraineref10_Split.f (k : Nat) (a0 : ByteArray) : Option (List ByteArray × Int) := if (a0.size : Int) = 0 then (moraineref10_Split.j0 k a0 true) else (if 0 < (a0.size : Int) then (moraineref10_Split.j0 k a0 ((bt a0 0) != 47)) else (none))
set_option maxHeartbeats 8000000 in
set_option maxRecDepth 100000 in
theorem moraineref10_Split.calls (k : Nat) (a0 : ByteArray) (r1 : List ByteArray) (r2 : Int) (w : World) (h : moraineref10_Split.f k a0 = some (r1, r2)) :
  Calls Tryz.prog 68 #[.string a0] w fun e w' => ∃ v0_ : Value, e = .returned (.tuple #[v0_, .int .i64 r2]) ∧ Kd.R Kd.string 9 w' w.heap.size (fun _ => True) v0_ r1 ∧ Below w.heap.size w w' := by
 have HB := am (Below.refl w.heap.size w)
 have H : (if (a0.size : Int) = 0 then (moraineref10_Split.j0 k a0 true) else (if 0 < (a0.size : Int) then (moraineref10_Split.j0 k a0 ((bt a0 0) != 47)) else (none))) = some (r1, r2) := h
 clear h
 have HC2 := am H
 clear H
 go_enter Tryz.func68, Tryz.ntmps68
 go_upto_region 1 with (fail)
 go_cut [14] (fun v14 wc => ∃ (kq : Nat) (x14_1 : Bool), v14 = .bool x14_1 ∧ Aside0 (moraineref10_Split.j0 kq a0 x14_1 = some (r1, r2)) ∧ Aside0 (kq ≤ k) ∧ Aside0 (Below w.heap.size w wc))
 case first =>
  have H := HC2.out
  clear HC2
  by_cases c3 : (a0.size : Int) = 0
  ·
   rw [if_pos c3] at H
   have c3b0 : ((a0.size : Int) == 0) = true := beq_iff_eq.mpr c3
   have c3b1 : ((a0.size : Int) != 0) = false := bne_eq_false_iff_eq.mpr c3
   clear c3
   (first | rw [c3b0] | (simp only [i64_w, i32_w]; rw [c3b0]) | skip)
   have H' := am H
   clear H
   go_wp2
   go_meet
   case rel => exact ⟨_, (true), zq10, H', ⟨by first | omega | exact Nat.le_refl _⟩, ⟨by repeat (first | (with_reducible first | exact HB.out | apply Qaa | apply Qac | apply Qad) | exact HB.out)⟩⟩
  ·
   rw [if_neg c3] at H
   have c3b0 : ((a0.size : Int) == 0) = false := beq_eq_false_iff_ne.mpr c3
   have c3b1 : ((a0.size : Int) != 0) = true := bne_iff_ne.mpr c3
   (first | rw [c3b0] | (simp only [i64_w, i32_w]; rw [c3b0]) | skip)
   by_cases c4 : 0 < (a0.size : Int)
   ·
    rw [if_pos c4] at H
    have c4b0 : decide (0 < (a0.size : Int)) = true := decide_eq_true c4
    have c4b1 : decide (0 < a0.size) = true := decide_eq_true zq3
    clear c4
    have H' := am H
    clear H
    have p5 : 0 ≤ (0 : Int) := zq3
    have q5 : 0 < a0.size := (by have : (0 : Int) < (a0.size : Int) := of_decide_eq_true zq7; omega)
    have hx5 : ∀ h : 0 < a0.size, ((a0[0]'h).toNat : Int) = bt a0 0 := bt_at a0 0
    clear p5
    have qi5 : (0 < (a0.size : Int)) = True := eq_true (of_decide_eq_true zq7)
    replace q5 := eq_true q5
    go_wp2
    go_meet
    case rel => exact ⟨_, (((bt a0 0) != 47)), zq10, H', ⟨by first | omega | exact Nat.le_refl _⟩, ⟨by repeat (first | (with_reducible first | exact HB.out | apply Qaa | apply Qac | apply Qad) | exact HB.out)⟩⟩
   ·
    rw [if_neg c4] at H
    exact absurd H zq14
 case rest =>
  clear HC2
  try clear p2
  try clear c3
  try clear c3b0
  try clear c3b1
  try clear c4
  try clear c4b0
  try clear c4b1
  try clear p5
  try clear q5
  try clear hx5
  try clear qi5
  try clear p5
  try clear q5
  obtain ⟨kq, x14_1, rfl, HA, HJ1, HB⟩ := hcut
  cases kq with
  | zero => exact absurd HA.out (by simp [moraineref10_Split.j0])
  | succ kj1 =>
   have H := HA.out
   clear HA
   simp only [moraineref10_Split.j0] at H
   by_cases c6 : x14_1 = true
   ·
    subst c6
    have H1 : (some (([] : List ByteArray), 20)) = some (r1, r2) := by rw [if_pos rfl] at H; exact H
    clear H
    have H := H1
    clear H1
    simp only [Option.some.injEq, Prod.mk.injEq] at H
    obtain ⟨rfl, rfl⟩ := H
    go_wp2
    go_ret2
    exact ⟨_, by first | rfl | (simp [errW_none, errW_some] <;> rfl) | (simp [*, errW_none, errW_some] <;> rfl), by first | exact Kd.R_nil _ _ _ _ _ | exact Kd.N_nil _ _ _ _ _ | exact Kd.V_nil _ _ _ _ _ | exact Kd.Q_nil _ _ _ _ _ | exact Kd.S_nil _ _ _ _ _, by repeat (first | (with_reducible first | exact HB.out | apply Qaa | apply Qac | apply Qad) | exact HB.out)⟩
   ·
    replace c6 := Bool.eq_false_iff.mpr c6
    subst c6
    have H1 : ((some (([] : List ByteArray) : List ByteArray)).bind fun y187 => (if a0.toList = ([47] : List UInt8) then (some (y187, 0)) else (moraineref10_Split.l0 kj1 a0 y187 (([] : List Int)) 1))) = some (r1, r2) := by rw [if_neg (show ¬ (false = true) by decide)] at H; exact H
    clear H
    have H := H1
    clear H1
    obtain ⟨y187, hy⟩ : ∃ y_ : List ByteArray, y_ = (([] : List ByteArray)) := ⟨_, rfl⟩
    replace H : (if a0.toList = ([47] : List UInt8) then (some (y187, 0)) else (moraineref10_Split.l0 kj1 a0 y187 (([] : List Int)) 1)) = some (r1, r2) := zq4
    have Ny187 := am hy
    clear hy
    by_cases c7 : a0.toList = ([47] : List UInt8)
    ·
     rw [if_pos c7] at H
     have c7b0 : (a0.toList == ([47] : List UInt8)) = true := beq_iff_eq.mpr c7
     have c7b1 : (a0.toList != ([47] : List UInt8)) = false := bne_eq_false_iff_eq.mpr c7
     clear c7
     simp only [Option.some.injEq, Prod.mk.injEq] at H
     obtain ⟨rfl, rfl⟩ := H
     go_wp2_with (first | ((with_reducible refine Qbx (N := 15) rfl ?_); (try (refine Qeo zq25 ?_; dsimp only)); refine Kd.R_lit Kd.string _ 9 ?hg (N := 15) ?hd (xs := ([] : List ByteArray)) (inner := []) (ok := fun _ => True) (okp := fun _ => True) ?hr ?hp (fun _ hk => hk) trivial (Below.refl _ _) (Nat.le_refl _) zq14 ?_; (case hd => rfl); (case hg => rfl); (case hr => first | (go_simp; done) | (go_simp; rfl)); (case hp => exact (Reps.none _ _)); intro v188 w8 ho9 hb hg_ hnew_; clear hg_ hnew_; (first | rw [← Ny187.out] at ho9 | (simp only [Int.reduceToNat] at ho9; rw [← Ny187.out] at ho9)); have n0_ := am (Kd.R_lower ho9 (Qao zq2)); have n1_ := am (Qa zq2 hb); clear HB; have HO189 := n0_; have HB := n1_; clear n0_ n1_; clear hb ho9))
     go_ret2
     exact ⟨_, by first | rfl | (simp [errW_none, errW_some] <;> rfl) | (simp [*, errW_none, errW_some] <;> rfl), by (with_reducible repeat (first | apply Kd.R_alloc | apply Kd.R_drewN | apply Kd.R_drew)); exact HO189.out, by repeat (first | (with_reducible first | exact HB.out | apply Qaa | apply Qac | apply Qad) | exact HB.out)⟩
    ·
     rw [if_neg c7] at H
     have c7b0 : (a0.toList == ([47] : List UInt8)) = false := beq_eq_false_iff_ne.mpr c7
     have c7b1 : (a0.toList != ([47] : List UInt8)) = true := bne_iff_ne.mpr c7
     obtain ⟨y190, hy⟩ : ∃ y_ : List Int, y_ = (([] : List Int)) := ⟨_, rfl⟩
     replace H : (moraineref10_Split.l0 kj1 a0 y187 y190 1) = some (r1, r2) := zq4
     have Ny190 := am hy
     clear hy
     have H' := am H
     clear H
     go_wp2_with (first | ((with_reducible refine Qbx (N := 15) rfl ?_); (try (refine Qeo zq25 ?_; dsimp only)); refine Kd.R_lit Kd.string _ 9 ?hg (N := 15) ?hd (xs := ([] : List ByteArray)) (inner := []) (ok := fun _ => True) (okp := fun _ => True) ?hr ?hp (fun _ hk => hk) trivial (Below.refl _ _) (Nat.le_refl _) zq14 ?_; (case hd => rfl); (case hg => rfl); (case hr => first | (go_simp; done) | (go_simp; rfl)); (case hp => exact (Reps.none _ _)); intro v188 w10 ho11 hb hg_ hnew_; clear hg_ hnew_; (first | rw [← Ny187.out] at ho11 | (simp only [Int.reduceToNat] at ho11; rw [← Ny187.out] at ho11)); have n0_ := am (Kd.R_lower ho11 (Qao zq2)); have n1_ := am (Qa zq2 hb); clear HB; have HO189 := n0_; have HB := n1_; clear n0_ n1_; clear hb ho11) | ((with_reducible refine Qbx (N := 19) rfl ?_); (try (refine Qeo zq25 ?_; dsimp only)); refine Kd.R_lit (Kd.int .u8) _ 5 ?hg (N := 19) ?hd (xs := ([] : List Int)) (inner := []) (ok := fun _ => True) (okp := fun _ => True) ?hr ?hp (fun _ hk => hk) trivial (Below.refl _ _) (Nat.le_refl _) zq14 ?_; (case hd => rfl); (case hg => rfl); (case hr => first | (go_simp; done) | (go_simp; rfl)); (case hp => exact (Reps.none _ _)); intro v191 w12 ho13 hb hg_ hnew_; clear hg_ hnew_; (first | rw [← Ny190.out] at ho13 | (simp only [Int.reduceToNat] at ho13; rw [← Ny190.out] at ho13)); have n0_ := am (Kd.R_below (by (with_reducible repeat (first | apply Kd.R_alloc | apply Kd.R_drewN | apply Kd.R_drew)); exact HO189.out) hb); have n1_ := am (Kd.R_lower ho13 (Qao zq2)); have n2_ := am (Qa zq2 hb); clear HO189; clear HB; have HO189 := n0_; have HO192 := n1_; have HB := n2_; clear n0_ n1_ n2_; clear hb ho13))
     go_loopg [4, 5, 6] kj1 (fun kq v4 v5 v6 w' => ∃ (x4_2 : List ByteArray) (x5_2 : List Int) (x6_2 : Int), v6 = .int .i64 x6_2 ∧ Aside0 (moraineref10_Split.l0 kq a0 x4_2 x5_2 x6_2 = some (r1, r2)) ∧ Aside0 (kq ≤ kj1) ∧ Aside0 (Kd.R Kd.string 9 w' w.heap.size (fun _ => True) v4 x4_2) ∧ Aside0 (Kd.R (Kd.int .u8) 5 w' w.heap.size (fun _ => True) v5 x5_2) ∧ Aside0 (Below w.heap.size w w'))
     case atStart => exact ⟨(y187), (y190), (1), zq10, H', ⟨Nat.le_refl _⟩, ⟨by (with_reducible repeat (first | apply Kd.R_alloc | apply Kd.R_drewN | apply Kd.R_drew)); exact HO189.out⟩, ⟨by (with_reducible repeat (first | apply Kd.R_alloc | apply Kd.R_drewN | apply Kd.R_drew)); exact HO192.out⟩, ⟨by repeat (first | (with_reducible first | exact HB.out | apply Qaa | apply Qac | apply Qad) | exact HB.out)⟩⟩
     case round =>
      clear H'
      try clear p2
      try clear c3
      try clear c3b0
      try clear c3b1
      try clear c4
      try clear c4b0
      try clear c4b1
      try clear p5
      try clear q5
      try clear hx5
      try clear qi5
      try clear c6
      try clear c7
      try clear c7b0
      try clear c7b1
      try clear p2
      try clear p5
      try clear q5
      obtain ⟨x4_2, x5_2, x6_2, rfl, HA, HK2, HO_4, HO_5, HB⟩ := hrel
      cases gk with
      | zero => exact absurd HA.out (by simp [moraineref10_Split.l0])
      | succ k2 =>
       have H := HA.out
       clear HA
       simp only [moraineref10_Split.l0] at H
       by_cases c14 : x6_2 ≤ (a0.size : Int)
       ·
        rw [if_pos c14] at H
        have c14b0 : decide (x6_2 ≤ (a0.size : Int)) = true := decide_eq_true c14
        clear c14
        have HC15 := am H
        clear H
        go_upto_region 10 with (fail)
        go_cut [35] (fun v35 wc => ∃ (kq : Nat) (x35_14 : Bool), v35 = .bool x35_14 ∧ Aside0 (moraineref10_Split.j2 kq a0 x4_2 x5_2 x6_2 x35_14 = some (r1, r2)) ∧ Aside0 (kq ≤ k2) ∧ Aside0 (Kd.R Kd.string 9 wc w.heap.size (fun _ => True) u4 x4_2) ∧ Aside0 (Kd.R (Kd.int .u8) 5 wc w.heap.size (fun _ => True) u5 x5_2) ∧ Aside0 (Below w.heap.size w wc))
        case first =>
         have H := HC15.out
         clear HC15
         by_cases c16 : x6_2 < (a0.size : Int)
         ·
          rw [if_pos c16] at H
          have c16b0 : decide (x6_2 < (a0.size : Int)) = true := decide_eq_true c16
          clear c16
          (first | rw [c16b0] | (simp only [i64_w, i32_w]; rw [c16b0]) | skip)
          by_cases c17 : 0 ≤ x6_2
          ·
           rw [if_pos c17] at H
           have c17b0 : decide (0 ≤ x6_2) = true := decide_eq_true c17
           clear c17
           have H' := am H
           clear H
           have p18 : 0 ≤ (x6_2 : Int) := of_decide_eq_true zq7
           have q18 : x6_2 < (a0.size : Int) := of_decide_eq_true zq7
           have hx18 := bt_at a0 x6_2
           replace p18 := eq_true p18
           replace q18 := eq_true q18
           go_wp2
           go_meet
           case rel => exact ⟨_, (((bt a0 x6_2) != 47)), zq10, H', ⟨by have := HJ1.out; have := HK2.out; first | omega | exact Nat.le_refl _⟩, ⟨by (with_reducible repeat (first | apply Kd.R_alloc | apply Kd.R_drewN | apply Kd.R_drew)); exact HO_4.out⟩, ⟨by (with_reducible repeat (first | apply Kd.R_alloc | apply Kd.R_drewN | apply Kd.R_drew)); exact HO_5.out⟩, ⟨by repeat (first | (with_reducible first | exact HB.out | apply Qaa | apply Qac | apply Qad) | exact HB.out)⟩⟩
          ·
           rw [if_neg c17] at H
           exact absurd H zq14
         ·
          rw [if_neg c16] at H
          have c16b0 : decide (x6_2 < (a0.size : Int)) = false := decide_eq_false c16
          clear c16
          (first | rw [c16b0] | (simp only [i64_w, i32_w]; rw [c16b0]) | skip)
          have H' := am H
          clear H
          go_wp2
          go_meet
          case rel => exact ⟨_, (false), zq10, H', ⟨by have := HJ1.out; have := HK2.out; first | omega | exact Nat.le_refl _⟩, ⟨by (with_reducible repeat (first | apply Kd.R_alloc | apply Kd.R_drewN | apply Kd.R_drew)); exact HO_4.out⟩, ⟨by (with_reducible repeat (first | apply Kd.R_alloc | apply Kd.R_drewN | apply Kd.R_drew)); exact HO_5.out⟩, ⟨by repeat (first | (with_reducible first | exact HB.out | apply Qaa | apply Qac | apply Qad) | exact HB.out)⟩⟩
        case rest =>
         clear HC15
         try clear c1
         try clear p1
         try clear q1
         try clear hx1
         try clear p2
         try clear c3
         try clear c3b0
         try clear c3b1
         try clear c4
         try clear c4b0
         try clear c4b1
         try clear p5
         try clear q5
         try clear hx5
         try clear qi5
         try clear c6
         try clear c7
         try clear c7b0
         try clear c7b1
         try clear c14
         try clear c14b0
         try clear c16
         try clear c16b0
         try clear c17
         try clear c17b0
         try clear p18
         try clear q18
         try clear hx18
         try clear p18
         try clear p2
         try clear p5
         try clear q18
         try clear q5
         obtain ⟨kq, x35_14, rfl, HA, HJ14, HO_4, HO_5, HB⟩ := hcut
         cases kq with
         | zero => exact absurd HA.out (by simp [moraineref10_Split.j2])
         | succ kj14 =>
          have H := HA.out
          clear HA
          simp only [moraineref10_Split.j2] at H
          by_cases c19 : x35_14 = true
          ·
           subst c19
           have H1 : (if 0 ≤ x6_2 then (if x6_2 < (a0.size : Int) then (if x5_2.length < 140737488355328 then (moraineref10_Split.l0 kj14 a0 x4_2 (x5_2 ++ [bt a0 x6_2]) (wrap64 (x6_2 + 1))) else (none)) else (none)) else (none)) = some (r1, r2) := by rw [if_pos rfl] at H; exact H
           clear H
           have H := H1
           clear H1
           by_cases c20 : 0 ≤ x6_2
           ·
            rw [if_pos c20] at H
            have c20b0 : decide (0 ≤ x6_2) = true := decide_eq_true c20
            clear c20
            by_cases c21 : x6_2 < (a0.size : Int)
            ·
             rw [if_pos c21] at H
             have c21b0 : decide (x6_2 < (a0.size : Int)) = true := decide_eq_true c21
             clear c21
             by_cases c23 : x5_2.length < 140737488355328
             ·
              rw [if_pos c23] at H
              have LMc23 := am c23
              clear c23
              obtain ⟨y193, hy⟩ : ∃ y_ : List Int, y_ = (x5_2 ++ [bt a0 x6_2]) := ⟨_, rfl⟩
              replace H : (moraineref10_Split.l0 kj14 a0 x4_2 y193 (wrap64 (x6_2 + 1))) = some (r1, r2) := zq4
              have Ny193 := am hy
              clear hy
              have H' := am H
              clear H
              have p22 : 0 ≤ (x6_2 : Int) := of_decide_eq_true zq7
              have q22 : x6_2 < (a0.size : Int) := of_decide_eq_true zq7
              have hx22 := bt_at a0 x6_2
              replace p22 := eq_true p22
              replace q22 := eq_true q22
              go_wp2_with (first | ((with_reducible refine Qas (b := .append) (xs := #[.tmp 36, .tmp 40]) rfl ?_); (try (refine Qeo zq25 ?_; dsimp only)); at_builtin; refine Kd.R_append (Kd.int .u8) (w0 := w) w.heap.size rfl (.tmp 36) (.tmp 40) 29 5 (.int .u8 0) 1 rfl Tryz.underlying29 info5 rfl zq9 zq3 u5 x5_2 (bt a0 x6_2) [.int .u8 (bt a0 x6_2)] (fun _ => True) (fun _ => False) rfl rfl ?aP (fun _ hk => hk.elim) ?aF ?aO ?aB ?aS ?aL ?_; (case aP => exact rfl); (case aB => exact zq2); (case aF => exact (fun _ _ => trivial)); (case aO => exact zq22); (case aS => exact (Qao zq2)); (case aL => have := LMc23.out; omega); intro v194 w24 ho hb hg hat; rw [← Ny193.out] at ho; have n0_ := am (Kd.R_over' zq26 (Kd.R_typed zq22) zq9 hg); have n1_ := am (hb); have n2_ := am (ho); clear HO_4; clear HB; clear HO_5; have HO_4 := n0_; have HB := n1_; have HO195 := n2_; clear n0_ n1_ n2_; clear ho hb hg hat))
              go_roundg kj14
              case measure => have := HJ1.out; have := HK2.out; have := HJ14.out; omega
              case rel => exact ⟨(x4_2), (y193), (wrap64 (x6_2 + 1)), zq10, H', ⟨by have := HJ1.out; have := HK2.out; have := HJ14.out; omega⟩, ⟨by (with_reducible repeat (first | apply Kd.R_alloc | apply Kd.R_drewN | apply Kd.R_drew)); exact HO_4.out⟩, ⟨by (with_reducible repeat (first | apply Kd.R_alloc | apply Kd.R_drewN | apply Kd.R_drew)); exact HO195.out⟩, ⟨by repeat (first | (with_reducible first | exact HB.out | apply Qaa | apply Qac | apply Qad) | exact HB.out)⟩⟩
             ·
              rw [if_neg c23] at H
              exact absurd H zq14
            ·
             rw [if_neg c21] at H
             exact absurd H zq14
           ·
            rw [if_neg c20] at H
            exact absurd H zq14
          ·
           replace c19 := Bool.eq_false_iff.mpr c19
           subst c19
           have H1 : ((moraineref10_Name.f kj14 (strOfNums x5_2)).bind fun t196 => (if t196 = true then (if (x4_2.length : Int) = 8 then (some (([] : List ByteArray), 20)) else (if x4_2.length < 8796093022208 then (moraineref10_Split.l0 kj14 a0 (x4_2 ++ [strOfNums x5_2]) ([] : List Int) (wrap64 (x6_2 + 1))) else (none))) else (some (([] : List ByteArray), 20)))) = some (r1, r2) := by rw [if_neg (show ¬ (false = true) by decide)] at H; exact H
           clear H
           have H := H1
           clear H1
           replace H := Option.bind_eq_some_iff.mp H
           obtain ⟨t196, A250, H⟩ := H
           replace H : (if t196 = true then (if (x4_2.length : Int) = 8 then (some (([] : List ByteArray), 20)) else (if x4_2.length < 8796093022208 then (moraineref10_Split.l0 kj14 a0 (x4_2 ++ [strOfNums x5_2]) ([] : List Int) (wrap64 (x6_2 + 1))) else (none))) else (some (([] : List ByteArray), 20))) = some (r1, r2) := H
           have A25 := am A250
           clear A250
           by_cases c26 : t196 = true
           ·
            subst c26
            have H1 : (if (x4_2.length : Int) = 8 then (some (([] : List ByteArray), 20)) else (if x4_2.length < 8796093022208 then (moraineref10_Split.l0 kj14 a0 (x4_2 ++ [strOfNums x5_2]) ([] : List Int) (wrap64 (x6_2 + 1))) else (none))) = some (r1, r2) := by rw [if_pos rfl] at H; exact H
            clear H
            have H := H1
            clear H1
            by_cases c27 : (x4_2.length : Int) = 8
            ·
             rw [if_pos c27] at H
             have c27b0 : ((x4_2.length : Int) == 8) = true := beq_iff_eq.mpr c27
             have c27b1 : ((x4_2.length : Int) != 8) = false := bne_eq_false_iff_eq.mpr c27
             clear c27
             simp only [Option.some.injEq, Prod.mk.injEq] at H
             obtain ⟨rfl, rfl⟩ := H
             have hcv28 := Qex (P := Tryz.prog) Tryz.underlying29 Tryz.underlying5 Tryz.underlying9 (Kd.own_of_R HO_5.out)
             go_wp2_with (first | ((with_reducible refine Qar (f := 73) rfl ?_); refine Qbw (some 44) rfl rfl Tryz.func73 zq15 rfl #[.string (strOfNums x5_2)] rfl zq6 ?_; (with_reducible refine (moraineref10_Name.calls kj14 (strOfNums x5_2) true _ A25.out).mono ?_); rintro e w' ⟨rfl, ⟨nd, rfl⟩⟩; refine ⟨_, rfl, ?_⟩; obtain ⟨Ao29, co29, eo29⟩ := Kd.R_slice HO_4.out; subst eo29))
             go_ret2
             exact ⟨_, by first | rfl | (simp [errW_none, errW_some] <;> rfl) | (simp [*, errW_none, errW_some] <;> rfl), by first | exact Kd.R_nil _ _ _ _ _ | exact Kd.N_nil _ _ _ _ _ | exact Kd.V_nil _ _ _ _ _ | exact Kd.Q_nil _ _ _ _ _ | exact Kd.S_nil _ _ _ _ _, by repeat (first | (with_reducible first | exact HB.out | apply Qaa | apply Qac | apply Qad) | exact HB.out)⟩
            ·
             rw [if_neg c27] at H
             have c27b0 : ((x4_2.length : Int) == 8) = false := beq_eq_false_iff_ne.mpr c27
             have c27b1 : ((x4_2.length : Int) != 8) = true := bne_iff_ne.mpr c27
             by_cases c30 : x4_2.length < 8796093022208
             ·
              rw [if_pos c30] at H
              have LMc30 := am c30
              clear c30
              obtain ⟨y197, hy⟩ : ∃ y_ : List ByteArray, y_ = (x4_2 ++ [strOfNums x5_2]) := ⟨_, rfl⟩
              replace H : (moraineref10_Split.l0 kj14 a0 y197 ([] : List Int) (wrap64 (x6_2 + 1))) = some (r1, r2) := zq4
              have Ny197 := am hy
              clear hy
              have H' := am H
              clear H
              have hcv31 := Qex (P := Tryz.prog) Tryz.underlying29 Tryz.underlying5 Tryz.underlying9 (Kd.own_of_R HO_5.out)
              go_wp2_with (first | ((with_reducible refine Qar (f := 73) rfl ?_); refine Qbw (some 44) rfl rfl Tryz.func73 zq15 rfl #[.string (strOfNums x5_2)] rfl zq6 ?_; (with_reducible refine (moraineref10_Name.calls kj14 (strOfNums x5_2) true _ A25.out).mono ?_); rintro e w' ⟨rfl, ⟨nd, rfl⟩⟩; refine ⟨_, rfl, ?_⟩; obtain ⟨Ao32, co32, eo32⟩ := Kd.R_slice HO_4.out; subst eo32; have hcv33 := Qex (P := Tryz.prog) Tryz.underlying29 Tryz.underlying5 Tryz.underlying9 (Kd.own_of_R HO_5.out); (try have hcv33d := fun m_ => Qex (P := Tryz.prog) Tryz.underlying29 Tryz.underlying5 Tryz.underlying9 (Kd.own_of_R (Kd.R_drewN HO_5.out m_)))) | ((with_reducible refine Qas (b := .append) (xs := #[.tmp 51, .tmp 54]) rfl ?_); (try (refine Qeo zq25 ?_; dsimp only)); at_builtin; refine Kd.R_append Kd.string (w0 := w) w.heap.size rfl (.tmp 51) (.tmp 54) 35 9 (.string ⟨#[]⟩) 16 rfl Tryz.underlying35 info9 rfl zq9 zq3 (.slice Ao32 x4_2.length co32) x4_2 (strOfNums x5_2) [.string (strOfNums x5_2)] (fun _ => True) (fun _ => False) rfl rfl ?aP (fun _ hk => hk.elim) ?aF ?aO ?aB ?aS ?aL ?_; (case aP => exact rfl); (case aB => exact zq2); (case aF => exact (fun _ _ => trivial)); (case aO => exact zq26); (case aS => exact (Qao zq2)); (case aL => have := LMc30.out; omega); intro v198 w34 ho hb hg hat; rw [← Ny197.out] at ho; have n0_ := am (Kd.R_over' zq22 (Kd.R_typed zq26) zq9 hg); have n1_ := am (hb); have n2_ := am (ho); clear HO_5; clear HB; clear HO_4; have HO_5 := n0_; have HB := n1_; have HO199 := n2_; clear n0_ n1_ n2_; clear ho hb hg hat))
              go_roundg kj14
              case measure => have := HJ1.out; have := HK2.out; have := HJ14.out; omega
              case rel => exact ⟨(y197), (([] : List Int)), (wrap64 (x6_2 + 1)), zq10, H', ⟨by have := HJ1.out; have := HK2.out; have := HJ14.out; omega⟩, ⟨by (with_reducible repeat (first | apply Kd.R_alloc | apply Kd.R_drewN | apply Kd.R_drew)); exact HO199.out⟩, ⟨by first | exact Kd.R_nil _ _ _ _ _ | exact Kd.N_nil _ _ _ _ _ | exact Kd.V_nil _ _ _ _ _ | exact Kd.Q_nil _ _ _ _ _ | exact Kd.S_nil _ _ _ _ _⟩, ⟨by repeat (first | (with_reducible first | exact HB.out | apply Qaa | apply Qac | apply Qad) | exact HB.out)⟩⟩
             ·
              rw [if_neg c30] at H
              exact absurd H zq14
           ·
            replace c26 := Bool.eq_false_iff.mpr c26
            subst c26
            have H1 : (some (([] : List ByteArray), 20)) = some (r1, r2) := by rw [if_neg (show ¬ (false = true) by decide)] at H; exact H
            clear H
            have H := H1
            clear H1
            simp only [Option.some.injEq, Prod.mk.injEq] at H
            obtain ⟨rfl, rfl⟩ := H
            have hcv35 := Qex (P := Tryz.prog) Tryz.underlying29 Tryz.underlying5 Tryz.underlying9 (Kd.own_of_R HO_5.out)
            go_wp2_with (first | ((with_reducible refine Qar (f := 73) rfl ?_); refine Qbw (some 44) rfl rfl Tryz.func73 zq15 rfl #[.string (strOfNums x5_2)] rfl zq6 ?_; (with_reducible refine (moraineref10_Name.calls kj14 (strOfNums x5_2) false _ A25.out).mono ?_); rintro e w' ⟨rfl, ⟨nd, rfl⟩⟩; refine ⟨_, rfl, ?_⟩))
            go_ret2
            exact ⟨_, by first | rfl | (simp [errW_none, errW_some] <;> rfl) | (simp [*, errW_none, errW_some] <;> rfl), by first | exact Kd.R_nil _ _ _ _ _ | exact Kd.N_nil _ _ _ _ _ | exact Kd.V_nil _ _ _ _ _ | exact Kd.Q_nil _ _ _ _ _ | exact Kd.S_nil _ _ _ _ _, by repeat (first | (with_reducible first | exact HB.out | apply Qaa | apply Qac | apply Qad) | exact HB.out)⟩
       ·
        rw [if_neg c14] at H
        have c14b0 : decide (x6_2 ≤ (a0.size : Int)) = false := decide_eq_false c14
        clear c14
        simp only [Option.some.injEq, Prod.mk.injEq] at H
        obtain ⟨rfl, rfl⟩ := H
        go_wp2
        go_ret2
        exact ⟨_, by first | rfl | (simp [errW_none, errW_some] <;> rfl) | (simp [*, errW_none, errW_some] <;> rfl), by (with_reducible repeat (first | apply Kd.R_alloc | apply Kd.R_drewN | apply Kd.R_drew)); exact HO_4.out, by repeat (first | (with_reducible first | exact HB.out | apply Qaa | apply Qac | apply Qad) | exact HB.out)⟩
end
theorem w6 {x : Int} (h : -9223372036854775808 ≤ x) (h2 : x ≤ 9223372036854775807) : wrap64 x = x := IntWalk.wrap64_in x ⟨h, h2⟩
theorem ib_neg : ∀ (l : List UInt8) (c : UInt8), Lib.indexByte l c < 0 ↔ c ∉ l
 | [], c => by simp [Lib.indexByte]
 | b :: l, c => by
  have h1 := Lib.indexByte_ge l c
  have ih := ib_neg l c
  unfold Lib.indexByte
  by_cases h : b = c
  · subst h; simp
  ·
   have h2 : (b == c) = false := by simpa using h
   have h3 : ¬ c = b := fun e => h e.symm
   rw [h2, if_neg Bool.false_ne_true]
   by_cases h4 : Lib.indexByte l c = -1
   ·
    rw [h4] at ih ⊢
    simp [h3]
    simpa using ih
   ·
    have h5 : (Lib.indexByte l c == -1) = false := by simpa using h4
    rw [h5, if_neg Bool.false_ne_true]
    have h6 : ¬ Lib.indexByte l c < 0 := by omega
    constructor
    · intro h7; omega
    ·
     intro h8
     exact absurd (ih.2 (fun h9 => h8 (List.mem_cons_of_mem _ h9))) h6
def okC (b : UInt8) : Bool := !(b == 0) && !(b == 47)
theorem nameB_eq (s : ByteArray) : nameB s = (!(s.toList.isEmpty) && !(s.toList == [46]) && !(s.toList == [46, 46]) && decide (s.size ≤ 12) && s.data.toList.all okC) := by
 unfold nameB
 rw [Bool.eq_iff_iff]
 simp only [Bool.and_eq_true, decide_eq_true_eq, ib_neg, List.all_eq_true, and_assoc]
 refine and_congr_right fun _ => and_congr_right fun _ => and_congr_right fun _ => and_congr_right fun _ => ?_
 constructor
 ·
  rintro ⟨h1, h2⟩ x hx
  unfold okC
  have e1 : ¬ x = 0 := fun e => h1 (e ▸ hx)
  have e2 : ¬ x = 47 := fun e => h2 (e ▸ hx)
  simp [e1, e2]
 ·
  intro h
  refine ⟨fun hx => ?_, fun hx => ?_⟩
  · have := h _ hx; simp [okC] at this
  · have := h _ hx; simp [okC] at this
theorem bt_at (s : ByteArray) (i : Nat) (h : i < s.data.toList.length) : bt s (i : Int) = ((s.data.toList[i]).toNat : Int) := by
 rw [← rd_bytesOf]
 have h2 : i < (bytesOf s).length := by rw [bytesOf, List.length_map]; exact h
 unfold rd
 rw [Int.toNat_natCast, List.getD_eq_getElem?_getD, List.getElem?_eq_getElem h2, Option.getD_some]
 simp only [bytesOf, List.getElem_map]
theorem name_l0 (s : ByteArray) (hs : s.size ≤ 12) : ∀ (d i : Nat), i ≤ s.size → s.size - i = d → Ev (fun k => moraineref10_Name.l0 k s (i : Int)) ((s.data.toList.drop i).all okC) := by
 intro d
 induction d with
 | zero =>
  intro i hi hd
  refine Ev.step (f := fun _ => some ((s.data.toList.drop i).all okC)) (fun k => ?_) (Ev.now _)
  simp only [moraineref10_Name.l0]
  rw [if_neg zq3, List.drop_of_length_le (by rw [Qay]; omega)]
  rfl
 | succ d ih =>
  intro i hi hd
  have hil : i < s.data.toList.length := by rw [Qay]; omega
  have e2 : s.data.toList.drop i = s.data.toList[i] :: s.data.toList.drop (i + 1) := List.drop_eq_getElem_cons hil
  refine Ev.step (f := fun k => if okC s.data.toList[i] = true then moraineref10_Name.l0 k s ((i + 1 : Nat) : Int) else some false) (fun k => ?_) ?_
  ·
   simp only [moraineref10_Name.l0]
   rw [if_pos zq3, if_pos zq3, bt_at s i hil, w6 (x := (i : Int) + 1) zq3 zq3]
   have q0 : ((s.data.toList[i]).toNat : Int) = 0 ↔ s.data.toList[i] = 0 := by
    constructor
    · intro h; apply UInt8.toNat_inj.1; show _ = 0; omega
    · intro h; rw [h]; rfl
   have q47 : ((s.data.toList[i]).toNat : Int) = 47 ↔ s.data.toList[i] = 47 := by
    constructor
    · intro h; apply UInt8.toNat_inj.1; show _ = 47; omega
    · intro h; rw [h]; rfl
   by_cases h0 : s.data.toList[i] = 0
   · rw [if_pos (q0.2 h0), h0]; rfl
   ·
    rw [if_neg (fun h => h0 (q0.1 h))]
    by_cases h47 : s.data.toList[i] = 47
    · rw [if_pos (q47.2 h47), h47]; rfl
    ·
     rw [if_neg (fun h => h47 (q47.1 h)), if_pos (by unfold okC; rw [beq_eq_false_iff_ne.2 h0, beq_eq_false_iff_ne.2 h47]; rfl)]
     rfl
  ·
   rw [e2, List.all_cons]
   by_cases h : okC s.data.toList[i] = true
   ·
    simp only [h, if_true, Bool.true_and]
    exact ih (i + 1) zq3 zq3
   ·
    simp only [h, Bool.false_and]
    exact Ev.now _
theorem size_of_toList (s : ByteArray) : s.toList.length = s.size := by rw [Qb, Qay]
theorem name_ev (s : ByteArray) : Ev (fun k => moraineref10_Name.f k s) (nameB s) := by
 have jt : ∀ m, moraineref10_Name.j0 (m + 1) s true = some false := fun m => by simp only [moraineref10_Name.j0]; rfl
 have hsz := size_of_toList s
 rw [nameB_eq]
 by_cases h1 : (s.size : Int) < 1
 ·
  have e : s.toList = [] := List.length_eq_zero_iff.1 zq3
  refine ⟨1, fun k hk => ?_⟩
  obtain ⟨m, rfl⟩ : ∃ m, k = m + 1 := ⟨k - 1, by omega⟩
  show moraineref10_Name.f (m + 1) s = _
  unfold moraineref10_Name.f
  rw [if_pos h1, jt m, e]; rfl
 ·
  by_cases h2 : (s.size : Int) > 12
  ·
   refine ⟨1, fun k hk => ?_⟩
   obtain ⟨m, rfl⟩ : ∃ m, k = m + 1 := ⟨k - 1, by omega⟩
   show moraineref10_Name.f (m + 1) s = _
   unfold moraineref10_Name.f
   rw [if_neg h1, if_pos h2, jt m, show decide (s.size ≤ 12) = false from decide_eq_false zq3]
   simp
  ·
   have e0 : s.toList.isEmpty = false := by
    rw [← Bool.not_eq_true, List.isEmpty_iff]
    intro e; rw [e] at hsz; simp at hsz; omega
   by_cases h3 : s.toList = [46]
   ·
    refine ⟨1, fun k hk => ?_⟩
    obtain ⟨m, rfl⟩ : ∃ m, k = m + 1 := ⟨k - 1, by omega⟩
    show moraineref10_Name.f (m + 1) s = _
    unfold moraineref10_Name.f
    rw [if_neg h1, if_neg h2, if_pos h3, jt m, h3]
    rfl
   ·
    by_cases h4 : s.toList = [46, 46]
    ·
     refine ⟨1, fun k hk => ?_⟩
     obtain ⟨m, rfl⟩ : ∃ m, k = m + 1 := ⟨k - 1, by omega⟩
     show moraineref10_Name.f (m + 1) s = _
     unfold moraineref10_Name.f
     rw [if_neg h1, if_neg h2, if_neg h3, h4]
     exact jt m
    ·
     have b3 : (s.toList == [46]) = false := by simpa using h3
     have b4 : (s.toList == [46, 46]) = false := by simpa using h4
     obtain ⟨K, hK⟩ := name_l0 s zq3 s.size 0 zq3 zq3
     refine ⟨K + 1, fun k hk => ?_⟩
     obtain ⟨m, rfl⟩ : ∃ m, k = m + 1 := ⟨k - 1, by omega⟩
     show moraineref10_Name.f (m + 1) s = _
     unfold moraineref10_Name.f
     rw [if_neg h1, if_neg h2, if_neg h3, b4]
     simp only [moraineref10_Name.j0]
     rw [if_neg zq14, show decide (s.size ≤ 12) = true from decide_eq_true zq3, e0, b3]
     have := hK m zq3
     simp only [List.drop_zero] at this
     simp only [Bool.not_false, Bool.true_and]
     exact this
end Go.Proofs.YtbhjggbijkjmnaaGreatDoor.PZ
end
