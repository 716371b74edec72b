/- A slice of strings among the arguments, opened: its strings, and how great they are. -/
import Derived.Test.YtllfjmmdackgdaaDoorWMore
import Derived.Test.YtllfjmmdackgdaaDoorProg
import Derived.SliceStrings
import Derived.SizedLaws
import Derived.ProofKit
namespace Go.Proofs.YtllfjmmdackgdaaDoor.OpenS
open Go.ChangeShapes Go.WideShapes Go.ChangeAt Go.RowKit Go.Proofs.YtllfjmmdackgdaaDoorW.PrintWords
set_option linter.unusedVariables false

section
variable {H : Type} {P : Program}
theorem weights_mem_all {e : TypeId} : ∀ {ds : List (DataW H)} {d : DataW H}, d ∈ ds → ∀ n ∈ d.weights P e, n ∈ DataW.weightsAll P e ds
  | x :: r, d, hd, n, hn => by
    simp only [DataW.weightsAll, List.mem_append]
    rcases List.mem_cons.1 hd with rfl | hd
    · exact Or.inl hn
    · exact Or.inr (weights_mem_all hd n hn)
end
section
variable {H : Type} {enc : TypeId × Value → H} {w : World} {base : Nat} {spare : Nat → Bool} {held : Bool}
theorem strings_open {a : Option Addr} {len cap : Nat} {d : DataW H} {ps : List MemPlace} {ts : List TypeId} {ds : List (DataW H)} {j : Nat}
    (hsz : (DataW.weightsEach Tryd.prog ts ds).all (· ≤ reachBytes) = true) (ht : ts[j]? = some 23) (hd : ds[j]? = some d) (h : DataW.Trod enc Tryd.prog w base spare held 23 (.slice a len cap) d ps) :
    ∃ l : List ByteArray, l.length = len ∧ len ≤ cap ∧ Kd.C Kd.string w a len l ∧ ∀ x ∈ l, x.size ≤ 140737488351232 := by
  obtain ⟨fuel, hf⟩ := h
  rcases open_strings Tryd.underlying23 Tryd.underlying9 (by kernel_rfl) hf with ⟨hcs, _⟩ | ⟨x, l, c, ss, hcs, _, hl, hm, hz, hx, hcell, hsize⟩
  · simp [Value.cells] at hcs
    obtain ⟨rfl, rfl, rfl⟩ := hcs
    exact ⟨[], rfl, Nat.le_refl _, ⟨rfl, by simp, fun h => absurd h (Nat.lt_irrefl 0)⟩, fun x hx => by cases hx⟩
  · simp [Value.cells] at hcs
    obtain ⟨rfl, rfl, rfl⟩ := hcs
    obtain ⟨hx, _⟩ := Prod.mk.inj hx
    subst hx
    have hlm : len ≤ ss.length := by rw [hz]; split <;> omega
    have hw := List.all_eq_true.1 hsz
    have htl : (ss.take len).length = len := by rw [List.length_take]; omega
    refine ⟨ss.take len, htl, hl, ⟨htl, by simp only [maxLen] at hm; omega, fun h0 => ⟨x, rfl, fun i p hp => ?_⟩⟩, ?_⟩
    · obtain ⟨hi, rfl⟩ := List.getElem?_eq_some_iff.1 hp
      rw [htl] at hi
      have hc := hcell i (by omega)
      have e : ss.getD i ByteArray.empty = (ss.take len)[i] := by
        rw [List.getElem_take, List.getD_eq_getElem?_getD, List.getElem?_eq_getElem (by omega), Option.getD_some]
      rw [e] at hc
      refine ⟨_, rfl, rfl, fun q u hu => ?_⟩
      match q, hu with
      | 0, hu =>
        cases hu
        show w.cell? (x.add (i * 1 + 0)) = _
        rw [Nat.mul_one, Nat.add_zero]
        exact hc
    · intro y hy
      have hmem : y.data.toList.length ∈ DataW.weightsEach Tryd.prog ts ds := by
        refine DataW.weights_mem_each ht hd _ ?_
        simp only [DataW.weights, Tryd.underlying23, List.mem_cons, List.mem_append]
        refine Or.inr (Or.inl (weights_mem_all (d := .lit (.string y.data.toList)) (List.mem_map.2 ⟨y, hy, rfl⟩) _ ?_))
        simp [DataW.weights]
      have h3 : y.data.toList.length ≤ reachBytes := of_decide_eq_true (hw _ hmem)
      rw [Array.length_toList] at h3
      exact h3
end
end Go.Proofs.YtllfjmmdackgdaaDoor.OpenS
