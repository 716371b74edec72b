/- Plain law of PathFronts: it answers true at all strings and numbers. -/
import Derived.Test.YtllfjmmdackgdaaDoorLW
import Derived.Test.YtllfjmmdackgdaaDoorPZx5
namespace Go.Proofs.YtllfjmmdackgdaaDoor.PZ
open Go.RowKit Go.Proofs.YtllfjmmdackgdaaDoorW.PrintWords Go.Proofs.YtllfjmmdackgdaaDoorW.PrintLast Go.Proofs.YtllfjmmdackgdaaDoorW.PrintMore Go.Proofs.YtllfjmmdackgdaaDoor.Ord Go.Proofs.YtllfjmmdackgdaaDoor.B

theorem rightN_iff (l : List ByteArray) : rightN l = true ↔ l.length ≤ 8 ∧ ∀ x ∈ l, nameB x = true := by
  unfold rightN
  simp only [Bool.and_eq_true, decide_eq_true_eq, List.all_eq_true]
theorem fronts_end (a : ByteArray) (n : Nat) (ha : a.size ≤ 3000) (h0 : (splitA a).2 = 0) (hn : n ≤ (splitA a).1.length) : ∃ K, ∀ k, K ≤ k → morainelaw10_PathFronts.l0 k a (n : Int) (splitA a).1 (((splitA a).1.length : Nat) : Int) = some true := by
  have hl := splitA_length a
  have hr := splitA_right a h0
  have hrn : rightN ((splitA a).1.take n) = true := by
    rw [rightN_iff] at hr ⊢
    exact ⟨by rw [List.length_take]; omega, fun x hx => hr.2 x (List.mem_of_mem_take hx)⟩
  have hj := path_join_eq ((splitA a).1.take n) (by rw [List.length_take]; omega)
  unfold joinA at hj
  rw [if_pos hrn] at hj
  have hs := joinS_size _ hrn
  have hsp := split_joinS _ hrn
  have htl : ((splitA a).1.take n).length = n := by rw [List.length_take]; omega
  obtain ⟨K1, h1⟩ := path_within_ev a (joinS ((splitA a).1.take n)) (by omega) (by omega)
  obtain ⟨K2, h2⟩ := path_within_ev (joinS ((splitA a).1.take n)) a (by omega) (by omega)
  have e1 : withinA a (joinS ((splitA a).1.take n)) = true := by
    unfold withinA withB
    rw [hsp, h0]
    show (decide ((0 : Int) = 0) && (decide ((0 : Int) = 0) && (decide (((splitA a).1.take n).length ≤ (splitA a).1.length) && decide ((splitA a).1.take ((splitA a).1.take n).length = (splitA a).1.take n)))) = true
    rw [htl]
    simp [hn]
  have e2 : withinA (joinS ((splitA a).1.take n)) a = decide (n = (splitA a).1.length) := by
    unfold withinA withB
    rw [hsp, h0]
    show (decide ((0 : Int) = 0) && (decide ((0 : Int) = 0) && (decide ((splitA a).1.length ≤ ((splitA a).1.take n).length) && decide (((splitA a).1.take n).take (splitA a).1.length = (splitA a).1)))) = _
    rw [htl]
    by_cases h : n = (splitA a).1.length
    · rw [h]; simp
    · rw [decide_eq_false (show ¬ (splitA a).1.length ≤ n by omega), decide_eq_false h]; simp
  rw [e1] at h1
  rw [e2] at h2
  refine ⟨K1 + K2 + 1, fun k hk => ?_⟩
  obtain ⟨m, rfl⟩ : ∃ m, k = m + 1 := ⟨k - 1, by omega⟩
  rw [morainelaw10_PathFronts.l0, if_neg (by omega), if_pos (by omega), if_pos (by omega), Int.toNat_natCast, hj, Option.bind_some, if_pos rfl, show path_Within.f m a (joinS ((splitA a).1.take n)) = _ from h1 m (by omega), Option.bind_some, if_pos rfl, show path_Within.f m (joinS ((splitA a).1.take n)) a = _ from h2 m (by omega), Option.bind_some]
  by_cases h : n = (splitA a).1.length
  · rw [decide_eq_true h, ← h]; simp
  · rw [decide_eq_false h]
    have : ((n : Int) == ((splitA a).1.length : Int)) = false := by
      rw [beq_eq_false_iff_ne]; omega
    rw [this]
    rfl
theorem fronts_l0 (a : ByteArray) (n : Nat) (ha : a.size ≤ 3000) (h0 : (splitA a).2 = 0) (hn : n ≤ (splitA a).1.length) : ∀ (d i : Nat), i ≤ (splitA a).1.length → (splitA a).1.length - i = d → ∃ K, ∀ k, K ≤ k → morainelaw10_PathFronts.l0 k a (n : Int) (splitA a).1 (i : Int) = some true := by
  have hl := splitA_length a
  have hr := (rightN_iff _).1 (splitA_right a h0)
  intro d
  induction d with
  | zero =>
    intro i hi hd
    obtain rfl : i = (splitA a).1.length := by omega
    exact fronts_end a n ha h0 hn
  | succ d ih =>
    intro i hi hd
    have hil : i < (splitA a).1.length := by omega
    obtain ⟨K, hK⟩ := ih (i + 1) (by omega) (by omega)
    have hw : wrap64 ((i : Int) + 1) = ((i + 1 : Nat) : Int) := (w6 (by omega) (by omega)).trans (by omega)
    have hnm := hr.2 _ (List.getElem_mem hil)
    refine ⟨K + 1, fun k hk => ?_⟩
    obtain ⟨m, rfl⟩ : ∃ m, k = m + 1 := ⟨k - 1, by omega⟩
    rw [morainelaw10_PathFronts.l0, if_pos (by omega), if_pos (by omega), rdS _ i hil]
    unfold path_Name.f
    rw [Option.bind_some, hnm, if_pos rfl, hw]
    exact hK m (by omega)
theorem fronts_ev (a : ByteArray) (n : Int) : Ev (fun k => morainelaw10_PathFronts.f k a n) true := by
  obtain ⟨Ka, hal⟩ := alive_ev
  have jt : ∀ m l, morainelaw10_PathFronts.j0 (m + 1) a n l true = some true := fun m l => by rw [morainelaw10_PathFronts.j0, if_pos rfl]
  by_cases h3 : (a.size : Int) > 3000
  · refine ⟨Ka, fun k hk => ?_⟩
    show morainelaw10_PathFronts.f k a n = some true
    unfold morainelaw10_PathFronts.f
    rw [show morainelaw10_alive.f k = _ from hal k hk, Option.bind_some, if_pos rfl, if_pos h3]
  · obtain ⟨K1, h1⟩ := path_split_ev a (by omega)
    have base : ∀ k, Ka + K1 ≤ k → morainelaw10_PathFronts.f k a n = (if (splitA a).2 = 0 then (if n < 0 then (morainelaw10_PathFronts.j0 k a n (splitA a).1 true) else (morainelaw10_PathFronts.j0 k a n (splitA a).1 (decide (n > ((splitA a).1.length : Int))))) else (morainelaw10_PathFronts.j0 k a n (splitA a).1 true)) := by
      intro k hk
      unfold morainelaw10_PathFronts.f
      rw [show morainelaw10_alive.f k = _ from hal k (by omega), Option.bind_some, if_pos rfl, if_neg h3, show path_Split.f k a = _ from h1 k (by omega), Option.bind_some]
    by_cases h0 : (splitA a).2 = 0
    · by_cases hn : n < 0
      · refine ⟨Ka + K1 + 1, fun k hk => ?_⟩
        obtain ⟨m, rfl⟩ : ∃ m, k = m + 1 := ⟨k - 1, by omega⟩
        show morainelaw10_PathFronts.f (m + 1) a n = some true
        rw [base _ (by omega), if_pos h0, if_pos hn, jt]
      · by_cases hg : n > ((splitA a).1.length : Int)
        · refine ⟨Ka + K1 + 1, fun k hk => ?_⟩
          obtain ⟨m, rfl⟩ : ∃ m, k = m + 1 := ⟨k - 1, by omega⟩
          show morainelaw10_PathFronts.f (m + 1) a n = some true
          rw [base _ (by omega), if_pos h0, if_neg hn, decide_eq_true hg, jt]
        · obtain ⟨q, rfl⟩ : ∃ q : Nat, n = q := ⟨n.toNat, by omega⟩
          obtain ⟨K2, h2⟩ := fronts_l0 a q (by omega) h0 (by omega) (splitA a).1.length 0 (by omega) (by omega)
          refine ⟨Ka + K1 + K2 + 1, fun k hk => ?_⟩
          obtain ⟨m, rfl⟩ : ∃ m, k = m + 1 := ⟨k - 1, by omega⟩
          show morainelaw10_PathFronts.f (m + 1) a (q : Int) = some true
          rw [base _ (by omega), if_pos h0, if_neg hn, decide_eq_false hg, morainelaw10_PathFronts.j0, if_neg Bool.false_ne_true]
          exact h2 m (by omega)
    · refine ⟨Ka + K1 + 1, fun k hk => ?_⟩
      obtain ⟨m, rfl⟩ : ∃ m, k = m + 1 := ⟨k - 1, by omega⟩
      show morainelaw10_PathFronts.f (m + 1) a n = some true
      rw [base _ (by omega), if_neg h0, jt]
end Go.Proofs.YtllfjmmdackgdaaDoor.PZ
