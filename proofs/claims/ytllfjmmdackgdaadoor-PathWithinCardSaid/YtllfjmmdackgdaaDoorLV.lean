/- Plain law of PathWithin: it answers true at all strings. -/
import Derived.Test.YtllfjmmdackgdaaDoorLW
import Derived.Test.YtllfjmmdackgdaaDoorPZx4
import Derived.Test.YtllfjmmdackgdaaDoorPZx5
namespace Go.Proofs.YtllfjmmdackgdaaDoor.PZ
open Go.RowKit Go.Proofs.YtllfjmmdackgdaaDoorW.PrintWords Go.Proofs.YtllfjmmdackgdaaDoorW.PrintLast Go.Proofs.YtllfjmmdackgdaaDoorW.PrintMore Go.Proofs.YtllfjmmdackgdaaDoor.Ord Go.Proofs.YtllfjmmdackgdaaDoor.B

theorem ref_within_l0 (x y : List ByteArray) (hl : x.length < 1000000000) (he : y.length ≤ x.length) : ∀ (d i : Nat), i ≤ y.length → y.length - i = d → ∃ K, ∀ k, K ≤ k → moraineref10_Within.l0 k x y (i : Int) = some (decide ((x.take y.length).drop i = y.drop i)) := by
  have htl : (x.take y.length).length = y.length := by rw [List.length_take]; omega
  intro d
  induction d with
  | zero =>
    intro i hi hd
    refine ⟨1, fun k hk => ?_⟩
    obtain ⟨m, rfl⟩ : ∃ m, k = m + 1 := ⟨k - 1, by omega⟩
    rw [moraineref10_Within.l0, if_neg (by omega), List.drop_of_length_le (by omega), List.drop_of_length_le (by omega)]
    rfl
  | succ d ih =>
    intro i hi hd
    obtain ⟨K, hK⟩ := ih (i + 1) (by omega) (by omega)
    have hw : wrap64 ((i : Int) + 1) = ((i + 1 : Nat) : Int) := (w6 (by omega) (by omega)).trans (by omega)
    have hix : i < x.length := by omega
    have hiy : i < y.length := by omega
    have hit : i < (x.take y.length).length := by omega
    have h1 : (i : Int) < (x.length : Int) := by omega
    have h3 : (i : Int) < (y.length : Int) := by omega
    have h2 : (0 : Int) ≤ (i : Int) := by omega
    have hg : (x.take y.length)[i] = x[i] := List.getElem_take ..
    refine ⟨K + 1, fun k hk => ?_⟩
    obtain ⟨m, rfl⟩ : ∃ m, k = m + 1 := ⟨k - 1, by omega⟩
    rw [moraineref10_Within.l0, if_pos h3, if_pos h2, if_pos h1, rdS x i hix, rdS y i hiy, hw, hK m (by omega)]
    by_cases h : x[i] = y[i]
    · rw [if_pos (by rw [h])]
      congr 1
      rw [decide_eq_decide, drop_eq_cons hit hiy, hg]
      simp [h]
    · rw [if_neg (fun e => h (bytes_ext e))]
      congr 1
      symm
      rw [decide_eq_false_iff_not, drop_eq_cons hit hiy, hg]
      exact fun e => h e.1
theorem ref_within_ev (a b : ByteArray) (ha : a.size < 10000000) (hb : b.size < 10000000) : Ev (fun k => moraineref10_Within.f k a b) (withinA a b) := by
  obtain ⟨K1, h1⟩ := ref_split_ev a ha
  obtain ⟨K2, h2⟩ := ref_split_ev b hb
  have l1 := splitA_length a
  have l2 := splitA_length b
  have jt : ∀ m x y, moraineref10_Within.j0 (m + 1) x y true = some false := fun m x y => by rw [moraineref10_Within.j0, if_pos rfl]
  have base : ∀ k, K1 + K2 ≤ k → moraineref10_Within.f k a b = (if (splitA a).2 = 0 then (if (splitA b).2 = 0 then (moraineref10_Within.j0 k (splitA a).1 (splitA b).1 (decide (((splitA b).1.length : Int) > ((splitA a).1.length : Int)))) else (moraineref10_Within.j0 k (splitA a).1 (splitA b).1 true)) else (moraineref10_Within.j0 k (splitA a).1 (splitA b).1 true)) := by
    intro k hk
    unfold moraineref10_Within.f
    rw [show moraineref10_Split.f k a = _ from h1 k (by omega), Option.bind_some, show moraineref10_Split.f k b = _ from h2 k (by omega), Option.bind_some]
  unfold withinA
  by_cases e1 : (splitA a).2 = 0
  · rw [decide_eq_true e1, Bool.true_and]
    by_cases e2 : (splitA b).2 = 0
    · rw [decide_eq_true e2, Bool.true_and]
      unfold withB
      by_cases e3 : (splitA b).1.length ≤ (splitA a).1.length
      · obtain ⟨K3, h3⟩ := ref_within_l0 (splitA a).1 (splitA b).1 (by omega) e3 (splitA b).1.length 0 (by omega) (by omega)
        refine ⟨K1 + K2 + K3 + 1, fun k hk => ?_⟩
        obtain ⟨m, rfl⟩ : ∃ m, k = m + 1 := ⟨k - 1, by omega⟩
        have hq := h3 m (by omega)
        rw [List.drop_zero, List.drop_zero] at hq
        show moraineref10_Within.f (m + 1) a b = _
        rw [base _ (by omega), if_pos e1, if_pos e2, decide_eq_false (show ¬ (((splitA b).1.length : Int) > ((splitA a).1.length : Int)) by omega), moraineref10_Within.j0, if_neg Bool.false_ne_true, decide_eq_true e3, Bool.true_and]
        exact hq
      · refine ⟨K1 + K2 + 1, fun k hk => ?_⟩
        obtain ⟨m, rfl⟩ : ∃ m, k = m + 1 := ⟨k - 1, by omega⟩
        show moraineref10_Within.f (m + 1) a b = _
        rw [base _ (by omega), if_pos e1, if_pos e2, decide_eq_true (show (((splitA b).1.length : Int) > ((splitA a).1.length : Int)) by omega), jt, decide_eq_false e3]
        rfl
    · refine ⟨K1 + K2 + 1, fun k hk => ?_⟩
      obtain ⟨m, rfl⟩ : ∃ m, k = m + 1 := ⟨k - 1, by omega⟩
      show moraineref10_Within.f (m + 1) a b = _
      rw [base _ (by omega), if_pos e1, if_neg e2, jt, decide_eq_false e2]
      rfl
  · refine ⟨K1 + K2 + 1, fun k hk => ?_⟩
    obtain ⟨m, rfl⟩ : ∃ m, k = m + 1 := ⟨k - 1, by omega⟩
    show moraineref10_Within.f (m + 1) a b = _
    rw [base _ (by omega), if_neg e1, jt, decide_eq_false e1]
    rfl

theorem within_j1 (a c : ByteArray) (ha : a.size ≤ 3000) (h0 : (splitA a).2 = 0) : Ev (fun k => morainelaw10_PathWithin.j1 k a c (splitA a).1 false) true := by
  have hl := splitA_length a
  have hr := splitA_right a h0
  have hj := path_join_eq ((splitA a).1 ++ [c]) (by simp; omega)
  unfold joinA at hj
  by_cases hn : rightN ((splitA a).1 ++ [c]) = true
  · rw [if_pos hn] at hj
    have hs := joinS_size _ hn
    have hsp := split_joinS _ hn
    obtain ⟨K1, h1⟩ := path_within_ev (joinS ((splitA a).1 ++ [c])) a (by omega) (by omega)
    obtain ⟨K2, h2⟩ := path_within_ev a (joinS ((splitA a).1 ++ [c])) (by omega) (by omega)
    have e1 : withinA (joinS ((splitA a).1 ++ [c])) a = true := by
      unfold withinA withB
      rw [hsp, h0]
      simp
    have e2 : withinA a (joinS ((splitA a).1 ++ [c])) = false := by
      unfold withinA withB
      rw [hsp, h0]
      simp
      intro h; omega
    rw [e1] at h1
    rw [e2] at h2
    refine ⟨K1 + K2 + 1, fun k hk => ?_⟩
    obtain ⟨m, rfl⟩ : ∃ m, k = m + 1 := ⟨k - 1, by omega⟩
    show morainelaw10_PathWithin.j1 (m + 1) a c (splitA a).1 false = some true
    rw [morainelaw10_PathWithin.j1, if_neg Bool.false_ne_true, if_pos (by omega), hj, Option.bind_some, if_pos rfl, show path_Within.f m (joinS ((splitA a).1 ++ [c])) a = _ from h1 m (by omega), Option.bind_some, if_pos rfl, show path_Within.f m a (joinS ((splitA a).1 ++ [c])) = _ from h2 m (by omega)]
    rfl
  · rw [if_neg hn] at hj
    refine ⟨1, fun k hk => ?_⟩
    obtain ⟨m, rfl⟩ : ∃ m, k = m + 1 := ⟨k - 1, by omega⟩
    show morainelaw10_PathWithin.j1 (m + 1) a c (splitA a).1 false = some true
    rw [morainelaw10_PathWithin.j1, if_neg Bool.false_ne_true, if_pos (by omega), hj, Option.bind_some, if_neg (by show ¬ (20 : Int) = 0; omega)]
    by_cases h8 : (splitA a).1.length = 8
    · rw [if_pos (by omega)]
    · rw [if_neg (by omega)]
      unfold path_Name.f
      rw [Option.bind_some]
      have : nameB c = false := by
        by_cases hc : nameB c = true
        · exfalso
          apply hn
          unfold rightN at hr ⊢
          simp only [Bool.and_eq_true, decide_eq_true_eq, List.all_eq_true] at hr ⊢
          refine ⟨by simp; omega, fun x hx => ?_⟩
          rcases List.mem_append.1 hx with hx | hx
          · exact hr.2 x hx
          · rw [List.mem_singleton.1 hx]; exact hc
        · simpa using hc
      rw [this]
      rfl
theorem root_split : splitA ⟨#[47]⟩ = ([], 0) := by decide +kernel
theorem within_j0 (a b c : ByteArray) (ha : a.size ≤ 3000) (hb : b.size ≤ 3000) : Ev (fun k => morainelaw10_PathWithin.j0 k a b c false) true := by
  obtain ⟨K1, h1⟩ := path_within_ev a b (by omega) (by omega)
  obtain ⟨K2, h2⟩ := ref_within_ev a b (by omega) (by omega)
  obtain ⟨K3, h3⟩ := path_split_ev a (by omega)
  obtain ⟨K4, h4⟩ := path_within_ev a a (by omega) (by omega)
  obtain ⟨K5, h5⟩ := path_within_ev a ⟨#[47]⟩ (by omega) (by decide)
  have ne : ¬ (withinA a b != withinA a b) = true := by simp
  by_cases h0 : (splitA a).2 = 0
  · obtain ⟨K6, h6⟩ := within_j1 a c ha h0
    have e4 : withinA a a = true := by unfold withinA withB; rw [h0]; simp
    have e5 : withinA a ⟨#[47]⟩ = true := by unfold withinA withB; rw [root_split, h0]; simp
    rw [e4] at h4
    rw [e5] at h5
    refine ⟨K1 + K2 + K3 + K4 + K5 + K6 + 1, fun k hk => ?_⟩
    obtain ⟨m, rfl⟩ : ∃ m, k = m + 1 := ⟨k - 1, by omega⟩
    show morainelaw10_PathWithin.j0 (m + 1) a b c false = some true
    rw [morainelaw10_PathWithin.j0, if_neg Bool.false_ne_true, show path_Within.f m a b = _ from h1 m (by omega), Option.bind_some, show moraineref10_Within.f m a b = _ from h2 m (by omega), Option.bind_some, if_neg ne, show path_Split.f m a = _ from h3 m (by omega), Option.bind_some, if_pos h0, show path_Within.f m a a = _ from h4 m (by omega), Option.bind_some, if_pos rfl, show path_Within.f m a ⟨#[47]⟩ = _ from h5 m (by omega), Option.bind_some]
    exact h6 m (by omega)
  · have e4 : withinA a a = false := by unfold withinA; rw [decide_eq_false h0]; rfl
    have e5 : withinA a ⟨#[47]⟩ = false := by unfold withinA; rw [decide_eq_false h0]; rfl
    rw [e4] at h4
    rw [e5] at h5
    refine ⟨K1 + K2 + K3 + K4 + K5 + 1, fun k hk => ?_⟩
    obtain ⟨m, rfl⟩ : ∃ m, k = m + 1 := ⟨k - 1, by omega⟩
    show morainelaw10_PathWithin.j0 (m + 1) a b c false = some true
    rw [morainelaw10_PathWithin.j0, if_neg Bool.false_ne_true, show path_Within.f m a b = _ from h1 m (by omega), Option.bind_some, show moraineref10_Within.f m a b = _ from h2 m (by omega), Option.bind_some, if_neg ne, show path_Split.f m a = _ from h3 m (by omega), Option.bind_some, if_neg h0, show path_Within.f m a a = _ from h4 m (by omega), Option.bind_some, if_neg Bool.false_ne_true, show path_Within.f m a ⟨#[47]⟩ = _ from h5 m (by omega)]
    rfl
theorem within_ev (a b c : ByteArray) : Ev (fun k => morainelaw10_PathWithin.f k a b c) true := by
  obtain ⟨Ka, ha⟩ := alive_ev
  have jt : ∀ m, morainelaw10_PathWithin.j0 (m + 1) a b c true = some true := fun m => by rw [morainelaw10_PathWithin.j0, if_pos rfl]
  have base : ∀ k, Ka ≤ k → morainelaw10_PathWithin.f k a b c = (if (a.size : Int) > 3000 then (morainelaw10_PathWithin.j0 k a b c true) else (if (b.size : Int) > 3000 then (morainelaw10_PathWithin.j0 k a b c true) else (morainelaw10_PathWithin.j0 k a b c (decide ((c.size : Int) > 3000))))) := by
    intro k hk
    unfold morainelaw10_PathWithin.f
    rw [show morainelaw10_alive.f k = _ from ha k hk, Option.bind_some, if_pos rfl]
  by_cases h1 : (a.size : Int) > 3000
  · refine ⟨Ka + 1, fun k hk => ?_⟩
    obtain ⟨m, rfl⟩ : ∃ m, k = m + 1 := ⟨k - 1, by omega⟩
    show morainelaw10_PathWithin.f (m + 1) a b c = some true
    rw [base _ (by omega), if_pos h1, jt]
  · by_cases h2 : (b.size : Int) > 3000
    · refine ⟨Ka + 1, fun k hk => ?_⟩
      obtain ⟨m, rfl⟩ : ∃ m, k = m + 1 := ⟨k - 1, by omega⟩
      show morainelaw10_PathWithin.f (m + 1) a b c = some true
      rw [base _ (by omega), if_neg h1, if_pos h2, jt]
    · by_cases h3 : (c.size : Int) > 3000
      · refine ⟨Ka + 1, fun k hk => ?_⟩
        obtain ⟨m, rfl⟩ : ∃ m, k = m + 1 := ⟨k - 1, by omega⟩
        show morainelaw10_PathWithin.f (m + 1) a b c = some true
        rw [base _ (by omega), if_neg h1, if_neg h2, decide_eq_true h3, jt]
      · obtain ⟨K, hK⟩ := within_j0 a b c (by omega) (by omega)
        refine ⟨Ka + K, fun k hk => ?_⟩
        show morainelaw10_PathWithin.f k a b c = some true
        rw [base _ (by omega), if_neg h1, if_neg h2, decide_eq_false h3]
        exact hK k (by omega)
end Go.Proofs.YtllfjmmdackgdaaDoor.PZ
