/- Plain words: Within and Join of paths; what the statements of layer 10 ask first (alive) is true. -/
import Derived.Test.YtllfjmmdackgdaaDoorLT
import Derived.Lib.Join
import Derived.Test.YtllfjmmdackgdaaDoorPZx2
import Derived.Test.YtllfjmmdackgdaaDoorPZx2
import Derived.Test.YtllfjmmdackgdaaDoorPZx3
namespace Go.Proofs.YtllfjmmdackgdaaDoor.PZ
open Go.RowKit Go.Proofs.YtllfjmmdackgdaaDoorW.PrintWords Go.Proofs.YtllfjmmdackgdaaDoorW.PrintLast Go.Proofs.YtllfjmmdackgdaaDoorW.PrintMore Go.Proofs.YtllfjmmdackgdaaDoor.Ord Go.Proofs.YtllfjmmdackgdaaDoor.B

/-! ### slices.Equal, Within -/
theorem drop_eq_cons {α : Type} {x y : List α} {i : Nat} (hx : i < x.length) (hy : i < y.length) : x.drop i = y.drop i ↔ x[i] = y[i] ∧ x.drop (i + 1) = y.drop (i + 1) := by
  rw [List.drop_eq_getElem_cons hx, List.drop_eq_getElem_cons hy, List.cons.injEq]
theorem equal_l0 (x y : List ByteArray) (hl : x.length < 1000000000) (he : x.length = y.length) : ∀ (d i : Nat), i ≤ x.length → x.length - i = d → ∃ K, ∀ k, K ≤ k → slices_Equal.l0 k x y (x.length : Int) (i : Int) = some (decide (x.drop i = y.drop i)) := by
  intro d
  induction d with
  | zero =>
    intro i hi hd
    refine ⟨1, fun k hk => ?_⟩
    obtain ⟨m, rfl⟩ : ∃ m, k = m + 1 := ⟨k - 1, by omega⟩
    rw [slices_Equal.l0, if_neg (by omega), List.drop_of_length_le (by omega), List.drop_of_length_le (by omega)]
    rfl
  | succ d ih =>
    intro i hi hd
    obtain ⟨K, hK⟩ := ih (i + 1) (by omega) (by omega)
    have hw : wrap64 ((i : Int) + 1) = ((i + 1 : Nat) : Int) := (w6 (by omega) (by omega)).trans (by omega)
    have hix : i < x.length := by omega
    have hiy : i < y.length := by omega
    have h1 : (i : Int) < (x.length : Int) := by omega
    have h3 : (i : Int) < (y.length : Int) := by omega
    have h2 : (0 : Int) ≤ (i : Int) := by omega
    refine ⟨K + 1, fun k hk => ?_⟩
    obtain ⟨m, rfl⟩ : ∃ m, k = m + 1 := ⟨k - 1, by omega⟩
    rw [slices_Equal.l0, if_pos h1, if_pos h2, if_pos h1, if_pos h3, rdS x i hix, rdS y i hiy, hw, hK m (by omega)]
    by_cases h : x[i] = y[i]
    · rw [if_pos (by rw [h])]
      congr 1
      rw [decide_eq_decide, drop_eq_cons hix hiy]
      simp [h]
    · rw [if_neg (fun e => h (bytes_ext e))]
      congr 1
      symm
      rw [decide_eq_false_iff_not, drop_eq_cons hix hiy]
      exact fun e => h e.1
theorem equal_ev (x y : List ByteArray) (hl : x.length < 1000000000) : Ev (fun k => slices_Equal.f k x y) (decide (x = y)) := by
  by_cases he : x.length = y.length
  · obtain ⟨K, hK⟩ := equal_l0 x y hl he x.length 0 (by omega) (by omega)
    refine ⟨K, fun k hk => ?_⟩
    show slices_Equal.f k x y = _
    unfold slices_Equal.f
    rw [if_pos (by rw [he])]
    exact hK k hk
  · refine ⟨0, fun k _ => ?_⟩
    show slices_Equal.f k x y = _
    unfold slices_Equal.f
    rw [if_neg (by omega)]
    congr 1
    symm
    rw [decide_eq_false_iff_not]
    exact fun e => he (by rw [e])
def withB (x y : List ByteArray) : Bool := decide (y.length ≤ x.length) && decide (x.take y.length = y)
/-- What Within answers. -/
def withinA (a b : ByteArray) : Bool := decide ((splitA a).2 = 0) && (decide ((splitA b).2 = 0) && withB (splitA a).1 (splitA b).1)
theorem path_within_ev (a b : ByteArray) (ha : a.size < 10000000) (hb : b.size < 10000000) : Ev (fun k => path_Within.f k a b) (withinA a b) := by
  obtain ⟨K1, h1⟩ := path_split_ev a ha
  obtain ⟨K2, h2⟩ := path_split_ev b hb
  have l1 := splitA_length a
  have l2 := splitA_length b
  obtain ⟨K3, h3⟩ := equal_ev ((splitA a).1.take (splitA b).1.length) (splitA b).1 (by rw [List.length_take]; omega)
  refine ⟨K1 + K2 + K3, fun k hk => ?_⟩
  show path_Within.f k a b = _
  unfold path_Within.f withinA
  rw [show path_Split.f k a = some (splitA a) from h1 k (by omega), Option.bind_some, show path_Split.f k b = some (splitA b) from h2 k (by omega), Option.bind_some]
  by_cases e1 : (splitA a).2 = 0
  · rw [if_pos e1, decide_eq_true e1, Bool.true_and]
    by_cases e2 : (splitA b).2 = 0
    · rw [if_pos e2, decide_eq_true e2, Bool.true_and]
      unfold withB
      by_cases e3 : (splitA b).1.length ≤ (splitA a).1.length
      · rw [if_pos (by omega), if_pos (by omega), decide_eq_true e3, Bool.true_and, Int.toNat_natCast, show slices_Equal.f k ((splitA a).1.take (splitA b).1.length) (splitA b).1 = _ from h3 k (by omega)]
        rfl
      · rw [if_neg (by omega), decide_eq_false e3]; rfl
    · rw [if_neg e2, decide_eq_false e2]; rfl
  · rw [if_neg e1, decide_eq_false e1]; rfl

/-! ### Join -/
theorem nameL_slash {l : List UInt8} (h : nameL l = true) : 47 ∉ l := by
  unfold nameL at h
  simp only [Bool.and_eq_true, List.all_eq_true] at h
  intro hm
  have := h.2 47 hm
  simp [okC] at this
theorem nameL_ne {l : List UInt8} (h : nameL l = true) : l ≠ [] := by
  intro e
  rw [e] at h
  simp [nameL] at h
theorem nameL_length {l : List UInt8} (h : nameL l = true) : l.length ≤ 12 := by
  unfold nameL at h
  simp only [Bool.and_eq_true, decide_eq_true_eq] at h
  exact h.1.2
theorem rightL_iff (ps : List (List UInt8)) : rightL ps = true ↔ ps.length ≤ 8 ∧ ∀ p ∈ ps, nameL p = true := by
  unfold rightL
  simp only [Bool.and_eq_true, decide_eq_true_eq, List.all_eq_true]
theorem tail_cons (y : List UInt8) (r : List (List UInt8)) : Lib.joinTail [47] (y :: r) = 47 :: (y ++ Lib.joinTail [47] r) := rfl
theorem tail_length : ∀ (r : List (List UInt8)), (∀ p ∈ r, nameL p = true) → (Lib.joinTail [47] r).length ≤ 13 * r.length
  | [], _ => by simp [Lib.joinTail]
  | y :: r, h => by
    have h1 := nameL_length (h y (List.mem_cons_self ..))
    have h2 := tail_length r (fun p hp => h p (List.mem_cons_of_mem _ hp))
    rw [tail_cons, List.length_cons, List.length_append, List.length_cons]
    omega
theorem pieces_join : ∀ (r : List (List UInt8)) (x : List UInt8), 47 ∉ x → (∀ p ∈ r, nameL p = true) → pieces (x ++ Lib.joinTail [47] r) = x :: r
  | [], x, hx, _ => by
    have e : Lib.joinTail [47] ([] : List (List UInt8)) = [] := rfl
    rw [e, List.append_nil, pieces_none _ hx]
  | y :: r, x, hx, h => by
    rw [tail_cons, pieces_cut _ _ hx, pieces_join r y (nameL_slash (h y (List.mem_cons_self ..))) (fun p hp => h p (List.mem_cons_of_mem _ hp))]
theorem split_join (ps : List (List UInt8)) (h : rightL ps = true) : splitL (47 :: Lib.join ps [47]) = (ps, 0) := by
  rw [splitL_cons, if_pos rfl]
  obtain ⟨h1, h2⟩ := (rightL_iff ps).1 h
  match ps, h, h1, h2 with
  | [], _, _, _ => rw [Lib.join_nil, if_pos rfl]
  | x :: r, h, h1, h2 =>
    have hx := h2 x (List.mem_cons_self ..)
    rw [Lib.join_cons, if_neg (by intro e; exact nameL_ne hx (List.append_eq_nil_iff.1 e).1), pieces_join r x (nameL_slash hx) (fun p hp => h2 p (List.mem_cons_of_mem _ hp)), if_pos h]
theorem join_length (ps : List (List UInt8)) (h : rightL ps = true) : (Lib.join ps [47]).length ≤ 200 := by
  obtain ⟨h1, h2⟩ := (rightL_iff ps).1 h
  match ps, h1, h2 with
  | [], _, _ => rw [Lib.join_nil]; simp
  | x :: r, h1, h2 =>
    have hx := nameL_length (h2 x (List.mem_cons_self ..))
    have ht := tail_length r (fun p hp => h2 p (List.mem_cons_of_mem _ hp))
    rw [Lib.join_cons, List.length_append]
    rw [List.length_cons] at h1
    omega
theorem map_mk (l : List ByteArray) : (l.map (·.data.toList)).map mk = l := by
  rw [List.map_map]
  conv => rhs; rw [← List.map_id l]
  apply List.map_congr_left
  intro x _
  exact mk_self x
theorem rightN_L (l : List ByteArray) : rightN l = rightL (l.map (·.data.toList)) := by rw [← right_L, map_mk]
theorem splitA_right (a : ByteArray) (h : (splitA a).2 = 0) : rightN (splitA a).1 = true := by
  unfold splitA at h ⊢
  show rightN ((splitL a.data.toList).1.map mk) = true
  rw [right_L]
  change (splitL a.data.toList).2 = 0 at h
  match hd : a.data.toList with
  | [] => rfl
  | c :: r =>
    rw [hd, splitL_cons] at h
    rw [splitL_cons]
    by_cases h1 : c = 47
    · rw [if_pos h1] at h ⊢
      by_cases h2 : r = []
      · rw [if_pos h2]; rfl
      · rw [if_neg h2] at h ⊢
        by_cases h3 : rightL (pieces r) = true
        · rw [if_pos h3]; exact h3
        · rw [if_neg h3]; rfl
    · rw [if_neg h1]; rfl
/-- The path of names. -/
def joinS (l : List ByteArray) : ByteArray := mk (47 :: Lib.join (l.map (·.data.toList)) [47])
def joinA (l : List ByteArray) : ByteArray × Int := if rightN l = true then (joinS l, 0) else (mk [], 20)
theorem joinS_size (l : List ByteArray) (h : rightN l = true) : (joinS l).size ≤ 201 := by
  rw [rightN_L] at h
  have := join_length _ h
  unfold joinS
  rw [mk_size, List.length_cons]
  omega
theorem split_joinS (l : List ByteArray) (h : rightN l = true) : splitA (joinS l) = (l, 0) := by
  rw [rightN_L] at h
  unfold splitA joinS
  rw [mk_data, split_join _ h, map_mk]
theorem path_join_eq (l : List ByteArray) (hl : l.length < 1000000000) : path_Join.f l = some (joinA l) := by
  unfold path_Join.f joinA
  rw [right_ok l (by omega), Option.bind_some]
  by_cases h : rightN l = true
  · have h2 := h
    rw [rightN_L] at h2
    have hj := join_length _ h2
    have e : joinB l ⟨#[47]⟩ = Lib.join (l.map (·.data.toList)) [47] := rfl
    rw [if_pos h, if_pos h]
    unfold strings_Join.f
    rw [e, if_pos ⟨by omega, by omega⟩, Option.bind_some]
    have hz : (⟨(Lib.join (l.map (·.data.toList)) [47]).toArray⟩ : ByteArray).size ≤ 200 := by
      show (mk _).size ≤ 200
      rw [mk_size]; exact hj
    rw [if_pos (by omega)]
    congr 2
  · rw [if_neg h, if_neg h]; rfl

/-! ### alive -/
theorem alive_ev : Ev (fun k => morainelaw10_alive.f k) true := by
  obtain ⟨K1, h1⟩ := path_split_ev ⟨#[47, 97, 47, 98]⟩ (by decide)
  obtain ⟨K2, h2⟩ := path_split_ev ⟨#[47, 97, 47]⟩ (by decide)
  obtain ⟨K3, h3⟩ := same_texts_ev [(⟨#[97]⟩ : ByteArray), ⟨#[98]⟩] (by simp)
  obtain ⟨K4, h4⟩ := path_within_ev ⟨#[47, 97, 47, 98]⟩ ⟨#[47, 97]⟩ (by decide) (by decide)
  obtain ⟨K5, h5⟩ := path_within_ev ⟨#[47, 97, 98]⟩ ⟨#[47, 97]⟩ (by decide) (by decide)
  have e1 : splitA ⟨#[47, 97, 47, 98]⟩ = ([⟨#[97]⟩, ⟨#[98]⟩], 0) := by decide +kernel
  have e2 : splitA ⟨#[47, 97, 47]⟩ = ([], 20) := by decide +kernel
  have e4 : withinA ⟨#[47, 97, 47, 98]⟩ ⟨#[47, 97]⟩ = true := by decide +kernel
  have e5 : withinA ⟨#[47, 97, 98]⟩ ⟨#[47, 97]⟩ = false := by decide +kernel
  have n1 : path_Name.f ⟨#[120]⟩ = some true := by unfold path_Name.f; rw [nameB_L]; decide +kernel
  have n2 : path_Name.f ⟨#[46, 46]⟩ = some false := by unfold path_Name.f; rw [nameB_L]; decide +kernel
  rw [e1] at h1
  rw [e2] at h2
  rw [e4] at h4
  rw [e5] at h5
  refine ⟨K1 + K2 + K3 + K4 + K5, fun k hk => ?_⟩
  show morainelaw10_alive.f k = some true
  unfold morainelaw10_alive.f
  rw [show path_Split.f k ⟨#[47, 97, 47, 98]⟩ = _ from h1 k (by omega), Option.bind_some, show path_Split.f k ⟨#[47, 97, 47]⟩ = _ from h2 k (by omega), Option.bind_some, show moraineref00_SameTexts.f k [(⟨#[97]⟩ : ByteArray), ⟨#[98]⟩] [⟨#[97]⟩, ⟨#[98]⟩] = _ from h3 k (by omega), Option.bind_some, if_pos rfl, if_pos rfl, if_pos rfl, n1, Option.bind_some, if_pos rfl, n2, Option.bind_some, if_neg Bool.false_ne_true, show path_Within.f k ⟨#[47, 97, 47, 98]⟩ ⟨#[47, 97]⟩ = _ from h4 k (by omega), Option.bind_some, if_pos rfl, show path_Within.f k ⟨#[47, 97, 98]⟩ ⟨#[47, 97]⟩ = _ from h5 k (by omega)]
  rfl
end Go.Proofs.YtllfjmmdackgdaaDoor.PZ
