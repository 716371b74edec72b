/- Arguments of the statements, opened: entries, an entry. -/
import Derived.Test.YtllfjmmdackgdaaPZx0
import Derived.Deep.Slices
import Derived.Deep.Fields
import Derived.ChangeSame
import Derived.SizedLaws
import Derived.Lib.SmallJoins
import Derived.ChangeSlices
namespace Go.Proofs.Ytllfjmmdackgdaa.Open
open Go.RowKit Go.ChangeShapes Go.WideShapes Go.Deep Go.Joins Go.Proofs.YtllfjmmdackgdaaW.PrintWords Go.Proofs.Ytllfjmmdackgdaa.PZ
set_option linter.unusedVariables false
section
variable {H : Type} {enc : TypeId × Value → H} {P : Program} {w : World} {base : Nat} {spare : Nat → Bool} {held : Bool}
theorem open_slice_fields {t e : TypeId} {fs : Array Field} {fuel : Nat} {cs : List Value} {x : DataW H × List MemPlace} (ht : P.underlying t = some (.slice e)) (he : P.underlying e = some (.struct fs))
    (hone : oneCellFields P fs = true) (hC : P.cellsOf e = fs.size) (h : DataW.trod enc P w base spare held fuel t cs = some x) :
    (cs = [.slice none 0 0] ∧ x = (.nil, [])) ∨
    ∃ (a : Addr) (len cap m : Nat) (D : Nat → DataW H) (Pl : Nat → List MemPlace), cs = [.slice (some a) len cap] ∧ base ≤ a.block ∧ len ≤ cap ∧ cap ≤ maxLen ∧ m = (if spare a.block then cap else len) ∧
      x = (.slice ((List.range len).map D) ((List.range (m - len)).map fun j => D (len + j)), MemPlace.row a (m * fs.size) ++ (List.range m).flatMap Pl) ∧
      ∀ i, i < m → ∃ (ys : List (DataW H × List MemPlace)) (n : Nat), D i = .agg (ys.map (·.1)) ∧ Pl i = ys.flatMap (·.2) ∧ ys.length = fs.size ∧
        ∀ (j : Nat) (f : Field), fs[j]? = some f → ∃ (v : Value) (y : DataW H × List MemPlace), w.cell? (a.add (i * fs.size + j)) = some v ∧ ys[j]? = some y ∧ DataW.trod enc P w base spare held n f.type [v] = some y := by
  rcases open_slice ht h with h0 | ⟨a, len, cap, m, n, D, Pl, hcs, hb, hl, hm, hmm, hx, hi⟩
  · exact .inl h0
  · refine .inr ⟨a, len, cap, m, D, Pl, hcs, hb, hl, hm, hmm, by rw [hC] at hx; exact hx, fun i him => ?_⟩
    obtain ⟨cs', hc, ht'⟩ := hi i him
    rw [hC] at hc
    obtain ⟨ys, n', hn', hy, hlen, hyl, hf⟩ := DataW.trod_struct he ht'
    obtain ⟨_, hcl, hat⟩ := World.cells?_some hc
    simp only [Prod.mk.injEq] at hy
    refine ⟨ys, n', hy.1, hy.2, hyl, fun j f hj => ?_⟩
    obtain ⟨ho, hk⟩ := hone_of hone j f hj
    have hjl : j < fs.size := (Array.getElem?_eq_some_iff.1 hj).1
    have hcell := hat j hjl
    have hv : cs'[j]? = some (cs'[j]'(by omega)) := List.getElem?_eq_getElem (by omega)
    have h1 := hf j f hj
    rw [ho, hk] at h1
    have hone' : (cs'.drop j).take 1 = [cs'[j]'(by omega)] := by
      rw [List.drop_eq_getElem_cons (by omega)]
      rfl
    rw [hone'] at h1
    have hys : ys[j]? = some (ys[j]'(by omega)) := List.getElem?_eq_getElem (by omega)
    refine ⟨_, _, ?_, hys, h1.trans hys⟩
    rw [← Go.Deep.add_add, hcell, hv]
theorem weights_mem_all {e : TypeId} : ∀ {ds : List (DataW H)} {d : DataW H}, d ∈ ds → ∀ n ∈ d.weights P e, n ∈ DataW.weightsAll P e ds
  | x :: r, d, hd, n, hn => by
    simp only [DataW.weightsAll, List.mem_append]
    rcases List.mem_cons.1 hd with rfl | hd
    · exact Or.inl hn
    · exact Or.inr (weights_mem_all hd n hn)
end
section
variable {H : Type} {enc : TypeId × Value → H} {w : World} {base : Nat} {spare : Nat → Bool} {held : Bool}
theorem entries_open {a : Option Addr} {len cap : Nat} {d : DataW H} {ps : List MemPlace} {ts : List TypeId} {ds : List (DataW H)} {j : Nat}
    (hsz : (DataW.weightsEach Try.prog ts ds).all (· ≤ reachBytes) = true) (ht : ts[j]? = some 22) (hd : ds[j]? = some d) (h : DataW.Trod enc Try.prog w base spare held 22 (.slice a len cap) d ps) :
    ∃ l : List S24, l.length = len ∧ len ≤ cap ∧ Kd.C k24 w a len l ∧ len * 24 ≤ 140737488351232 ∧ ∀ x ∈ l, x.f0.size ≤ 140737488351232 ∧ (Lit.int .i64 x.f1).wf = true := by
  obtain ⟨fuel, hf⟩ := h
  rcases open_slice_fields (fs := _) Try.underlying22 Try.underlying24 (by kernel_rfl) (by kernel_rfl) hf with ⟨hcs, _⟩ | ⟨x, l, c, m, D, Pl, hcs, hb, hl, hm, hmm, hx, hi⟩
  · simp [Value.cells] at hcs
    obtain ⟨rfl, rfl, rfl⟩ := hcs
    exact ⟨[], rfl, Nat.le_refl _, ⟨rfl, by simp, fun h => absurd h (Nat.lt_irrefl 0)⟩, by simp, fun x hx => by cases hx⟩
  · simp [Value.cells] at hcs
    obtain ⟨rfl, rfl, rfl⟩ := hcs
    obtain ⟨hx, _⟩ := Prod.mk.inj hx
    subst hx
    have hlm : len ≤ m := by rw [hmm]; split <;> omega
    have z := sized_slice hsz ht hd Try.underlying22
    have hB : Try.prog.bytesOf 24 = 24 := by kernel_rfl
    rw [hB] at z
    have hw := List.all_eq_true.1 hsz
    have hex : ∀ i, ∃ y : S24, i < len → w.cell? (x.add (i * 2 + 0)) = some (.string y.f0) ∧ w.cell? (x.add (i * 2 + 1)) = some (.int .i64 y.f1) ∧ (Lit.int .i64 y.f1).wf = true ∧ D i = .agg [.lit (.string y.f0.data.toList), .lit (.int .i64 y.f1)] := by
      intro i
      by_cases hil : i < len
      · obtain ⟨ys, n, hD, _, hyl, hfi⟩ := hi i (by omega)
        obtain ⟨v0, y0, hc0, hy0, ht0⟩ := hfi 0 _ rfl
        obtain ⟨v1, y1, hc1, hy1, ht1⟩ := hfi 1 _ rfl
        obtain ⟨s, e0, rfl, hs⟩ := DataW.trod_string Try.underlying9 ht0
        obtain ⟨k, e1, rfl, hk⟩ := DataW.trod_int Try.underlying3 ht1
        simp only [List.cons.injEq, and_true] at e0 e1
        subst e0; subst e1
        refine ⟨⟨s, k⟩, fun _ => ⟨hc0, hc1, hk, ?_⟩⟩
        match ys, hyl, hy0, hy1 with
        | [a0, a1], _, hy0, hy1 =>
          simp only [List.getElem?_cons_zero, List.getElem?_cons_succ, Option.some.injEq] at hy0 hy1
          subst hy0; subst hy1
          rw [hD]; rfl
      · exact ⟨z24, fun h => absurd h hil⟩
    obtain ⟨f, hf2⟩ : ∃ f : Nat → S24, ∀ i, i < len → w.cell? (x.add (i * 2 + 0)) = some (.string (f i).f0) ∧ w.cell? (x.add (i * 2 + 1)) = some (.int .i64 (f i).f1) ∧ (Lit.int .i64 (f i).f1).wf = true ∧ D i = .agg [.lit (.string (f i).f0.data.toList), .lit (.int .i64 (f i).f1)] := ⟨fun i => Classical.choose (hex i), fun i => Classical.choose_spec (hex i)⟩
    refine ⟨(List.range len).map f, by simp, hl, ⟨by simp, by simp only [maxLen] at hm; omega, fun h0 => ⟨x, rfl, fun i p hp => ?_⟩⟩, ?_, ?_⟩
    · have hlt : i < len := by
        rcases Nat.lt_or_ge i len with h | h
        · exact h
        · rw [List.getElem?_eq_none (by simpa using h)] at hp; cases hp
      rw [List.getElem?_map, List.getElem?_eq_getElem (by simpa using hlt)] at hp
      simp only [List.getElem_range, Option.map_some, Option.some.injEq] at hp
      subst hp
      have hq := hf2 i hlt
      refine ⟨_, rfl, k24_mk w _, fun q u hu => ?_⟩
      match q, hu with
      | 0, hu => cases hu; exact hq.1
      | 1, hu => cases hu; exact hq.2.1
    · simp only [List.length_map, List.length_range] at z
      have : len * 24 ≤ (len + (m - len)) * 24 := Nat.mul_le_mul_right _ (by omega)
      exact Nat.le_trans this z
    · intro y hy
      rw [List.mem_map] at hy
      obtain ⟨i, hir, rfl⟩ := hy
      have hq := hf2 i (List.mem_range.1 hir)
      refine ⟨?_, hq.2.2.1⟩
      have hmem : (f i).f0.data.toList.length ∈ DataW.weightsEach Try.prog ts ds := by
        refine DataW.weights_mem_each ht hd _ ?_
        simp only [DataW.weights, Try.underlying22, List.mem_cons, List.mem_append]
        refine Or.inr (Or.inl (weights_mem_all (d := D i) (List.mem_map.2 ⟨i, hir, rfl⟩) _ ?_))
        rw [hq.2.2.2]
        simp [DataW.weights, Try.underlying24, DataW.weightsEach]
      have h3 : (f i).f0.data.toList.length ≤ reachBytes := of_decide_eq_true (hw _ hmem)
      rw [Array.length_toList] at h3
      exact h3
theorem entry_open {r : Reach} {b0 : Nat} {v : Value} {d : DataW H} {ps : List MemPlace} {ts : List TypeId} {ds : List (DataW H)} {j : Nat}
    (hsz : (DataW.weightsEach Try.prog ts ds).all (· ≤ reachBytes) = true) (ht : ts[j]? = some 24) (hd : ds[j]? = some d) (hv : Value.okWide Try.prog w r b0 24 v) (h : DataW.Trod enc Try.prog w base spare held 24 v d ps) :
    ∃ (n : ByteArray) (k : Int), v = .agg #[.string n, .int .i64 k] ∧ n.size ≤ 140737488351232 ∧ (Lit.int .i64 k).wf = true := by
  obtain ⟨c0, c1, y0, y1, m, rfl, hdd, _, hy0, hy1⟩ := open_agg2 Try.underlying24 (by kernel_rfl) (by kernel_rfl) hv h
  obtain ⟨s, e0, rfl, hs⟩ := DataW.trod_string Try.underlying9 hy0
  obtain ⟨k, e1, rfl, hk⟩ := DataW.trod_int Try.underlying3 hy1
  simp only [List.cons.injEq, and_true] at e0 e1
  subst e0; subst e1
  refine ⟨s, k, rfl, ?_, hk⟩
  subst hdd
  have hmem : s.data.toList.length ∈ DataW.weightsEach Try.prog ts ds := by
    refine DataW.weights_mem_each ht hd _ ?_
    simp [DataW.weights, Try.underlying24, DataW.weightsEach]
  have h3 : s.data.toList.length ≤ reachBytes := of_decide_eq_true (List.all_eq_true.1 hsz _ hmem)
  rw [Array.length_toList] at h3
  exact h3
end
end Go.Proofs.Ytllfjmmdackgdaa.Open
