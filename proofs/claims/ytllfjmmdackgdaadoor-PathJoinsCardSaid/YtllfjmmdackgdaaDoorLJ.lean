/- Plain law of PathJoins: it answers true at all lists of strings. -/
import Derived.Test.YtllfjmmdackgdaaDoorLW
import Derived.Test.YtllfjmmdackgdaaDoorPZx3
import Derived.Test.YtllfjmmdackgdaaDoorPZx3
import Derived.Test.YtllfjmmdackgdaaDoorPZx4
namespace Go.Proofs.YtllfjmmdackgdaaDoor.PZ
open Go.RowKit Go.Proofs.YtllfjmmdackgdaaDoorW.PrintWords Go.Proofs.YtllfjmmdackgdaaDoorW.PrintLast Go.Proofs.YtllfjmmdackgdaaDoorW.PrintMore Go.Proofs.YtllfjmmdackgdaaDoor.Ord Go.Proofs.YtllfjmmdackgdaaDoor.B

/-- The bytes of names, each behind a byte 47. -/
def tailA (l : List ByteArray) : List UInt8 := Lib.joinTail [47] (l.map (·.data.toList))
def fin (l : List UInt8) : ByteArray := if l = [] then mk [47] else mk l
theorem tailA_cons (x : ByteArray) (r : List ByteArray) : tailA (x :: r) = 47 :: (x.data.toList ++ tailA r) := rfl
theorem append_mk (acc : List UInt8) (x : ByteArray) : mk acc ++ ((⟨#[47]⟩ : ByteArray) ++ x) = mk (acc ++ 47 :: x.data.toList) := by
  apply data_inj
  rw [ByteArray.data_append, ByteArray.data_append, mk_data, Array.toList_append, Array.toList_append, mk_data]
  rfl
theorem one_size (x : ByteArray) : ((⟨#[47]⟩ : ByteArray) ++ x).size = x.size + 1 := by
  have := append_mk [] x
  have e : mk [] ++ ((⟨#[47]⟩ : ByteArray) ++ x) = (⟨#[47]⟩ : ByteArray) ++ x := by
    apply data_inj
    rw [ByteArray.data_append, Array.toList_append, mk_data]
    rfl
  rw [← e, this, mk_size, List.nil_append, List.length_cons, data_length]
theorem ref_join_l0 (l : List ByteArray) (hl : l.length ≤ 8) (hs : ∀ x ∈ l, x.size ≤ 140737488351232) : ∀ (d i : Nat) (acc : List UInt8), i ≤ l.length → l.length - i = d → acc.length ≤ 13 * i → ∃ K, ∀ k, K ≤ k → moraineref10_Join.l0 k l (mk acc) (i : Int) = some (if (l.drop i).all nameB = true then (fin (acc ++ tailA (l.drop i)), 0) else (mk [], 20)) := by
  intro d
  induction d with
  | zero =>
    intro i acc hi hd ha
    refine ⟨1, fun k hk => ?_⟩
    obtain ⟨m, rfl⟩ : ∃ m, k = m + 1 := ⟨k - 1, by omega⟩
    have e : l.drop i = [] := List.drop_of_length_le (by omega)
    have e2 : tailA [] = [] := rfl
    rw [moraineref10_Join.l0, if_neg (by omega), e, e2, List.append_nil, if_pos (show ([] : List ByteArray).all nameB = true from rfl), toList_data, mk_data]
    unfold fin
    by_cases h : acc = []
    · rw [if_pos h, if_pos h]; rfl
    · rw [if_neg h, if_neg h]
  | succ d ih =>
    intro i acc hi hd ha
    have hil : i < l.length := by omega
    have e1 : l.drop i = l[i] :: l.drop (i + 1) := List.drop_eq_getElem_cons hil
    have hw : wrap64 ((i : Int) + 1) = ((i + 1 : Nat) : Int) := (w6 (by omega) (by omega)).trans (by omega)
    have hsz := hs l[i] (List.getElem_mem hil)
    obtain ⟨Kn, hn⟩ := name_ev l[i]
    rw [e1, List.all_cons]
    by_cases h1 : nameB l[i] = true
    · have h2 : l[i].size ≤ 12 := by
        rw [nameB_L] at h1
        have := nameL_length h1
        rw [data_length] at this
        exact this
      obtain ⟨K, hK⟩ := ih (i + 1) (acc ++ 47 :: l[i].data.toList) (by omega) (by omega) (by rw [List.length_append, List.length_cons, data_length]; omega)
      refine ⟨K + Kn + 1, fun k hk => ?_⟩
      obtain ⟨m, rfl⟩ : ∃ m, k = m + 1 := ⟨k - 1, by omega⟩
      have hq := hK m (by omega)
      clear hK ih
      rw [moraineref10_Join.l0, if_pos (by omega), if_pos (by omega), rdS l i hil, show moraineref10_Name.f m l[i] = _ from hn m (by omega), Option.bind_some, h1, if_pos rfl, if_pos (by omega), if_pos (by rw [mk_size, one_size]; omega), append_mk, hw, hq, Bool.true_and, tailA_cons]
      simp
    · have h2 : nameB l[i] = false := by simpa using h1
      refine ⟨Kn + 1, fun k hk => ?_⟩
      obtain ⟨m, rfl⟩ : ∃ m, k = m + 1 := ⟨k - 1, by omega⟩
      rw [moraineref10_Join.l0, if_pos (by omega), if_pos (by omega), rdS l i hil, show moraineref10_Name.f m l[i] = _ from hn m (by omega), Option.bind_some, h2, if_neg Bool.false_ne_true, Bool.false_and, if_neg Bool.false_ne_true]
      rfl
theorem fin_tail (l : List ByteArray) : fin (tailA l) = joinS l := by
  unfold fin joinS
  match l with
  | [] => rfl
  | x :: r =>
    rw [tailA_cons, if_neg (by simp), List.map_cons, Lib.join_cons]
    rfl
theorem ref_join_ev (l : List ByteArray) (hs : ∀ x ∈ l, x.size ≤ 140737488351232) : Ev (fun k => moraineref10_Join.f k l) (joinA l) := by
  unfold joinA rightN
  by_cases h8 : (l.length : Int) > 8
  · refine ⟨0, fun k _ => ?_⟩
    show moraineref10_Join.f k l = _
    unfold moraineref10_Join.f
    rw [if_pos h8, decide_eq_false (by omega), Bool.false_and, if_neg Bool.false_ne_true]
    rfl
  · obtain ⟨K, hK⟩ := ref_join_l0 l (by omega) hs l.length 0 [] (by omega) (by omega) (by simp)
    refine ⟨K, fun k hk => ?_⟩
    have hq := hK k hk
    rw [List.drop_zero, List.nil_append, fin_tail] at hq
    show moraineref10_Join.f k l = _
    unfold moraineref10_Join.f
    rw [if_neg h8, decide_eq_true (show l.length ≤ 8 by omega), Bool.true_and]
    exact hq

theorem joins_j1 (l : List ByteArray) (hl : l.length < 1000000) : Ev (fun k => morainelaw10_PathJoins.j1 k l (joinA l).1 (joinA l).2 false) true := by
  unfold joinA
  by_cases h : rightN l = true
  · rw [if_pos h]
    have hs := joinS_size l h
    obtain ⟨K1, h1⟩ := path_split_ev (joinS l) (by omega)
    rw [split_joinS l h] at h1
    obtain ⟨K2, h2⟩ := same_texts_ev l (by omega)
    refine ⟨K1 + K2 + 1, fun k hk => ?_⟩
    obtain ⟨m, rfl⟩ : ∃ m, k = m + 1 := ⟨k - 1, by omega⟩
    show morainelaw10_PathJoins.j1 (m + 1) l (joinS l) 0 false = some true
    rw [morainelaw10_PathJoins.j1, if_neg Bool.false_ne_true, if_pos rfl, show path_Split.f m (joinS l) = _ from h1 m (by omega), Option.bind_some, if_pos rfl, show moraineref00_SameTexts.f m l l = _ from h2 m (by omega)]
    rfl
  · rw [if_neg h]
    refine ⟨1, fun k hk => ?_⟩
    obtain ⟨m, rfl⟩ : ∃ m, k = m + 1 := ⟨k - 1, by omega⟩
    show morainelaw10_PathJoins.j1 (m + 1) l (mk []) 20 false = some true
    rw [morainelaw10_PathJoins.j1, if_neg Bool.false_ne_true, if_neg (by omega), toList_data, mk_data]
    rfl
theorem copy_texts_eq (l : List ByteArray) (hl : l.length < 1000000) : moraineref00_CopyTexts.f l = some l := by
  unfold moraineref00_CopyTexts.f
  rw [Option.bind_some, if_pos (by simp; omega)]
  rfl
theorem joins_l0 (l : List ByteArray) (hl : l.length ≤ 1000) (hs : ∀ x ∈ l, x.size ≤ 140737488351232) : ∀ (d i : Nat) (n : Int), 0 ≤ n → n ≤ 20000 → i ≤ l.length → l.length - i = d → ∃ K, ∀ k, K ≤ k → morainelaw10_PathJoins.l0 k l n (i : Int) = some true := by
  intro d
  induction d with
  | zero =>
    intro i n h0 h1 hi hd
    obtain ⟨K1, e1⟩ := ref_join_ev l hs
    obtain ⟨K2, e2⟩ := same_texts_ev l (by omega)
    obtain ⟨K3, e3⟩ := joins_j1 l (by omega)
    refine ⟨K1 + K2 + K3 + 1, fun k hk => ?_⟩
    obtain ⟨m, rfl⟩ : ∃ m, k = m + 1 := ⟨k - 1, by omega⟩
    rw [morainelaw10_PathJoins.l0, if_neg (by omega), copy_texts_eq l (by omega), Option.bind_some, path_join_eq l (by omega), Option.bind_some, show moraineref10_Join.f m l = _ from e1 m (by omega), Option.bind_some, if_pos rfl, if_pos rfl, show moraineref00_SameTexts.f m l l = _ from e2 m (by omega), Option.bind_some]
    exact e3 m (by omega)
  | succ d ih =>
    intro i n h0 h1 hi hd
    have hil : i < l.length := by omega
    have hsz := hs l[i] (List.getElem_mem hil)
    have hw : wrap64 ((i : Int) + 1) = ((i + 1 : Nat) : Int) := (w6 (by omega) (by omega)).trans (by omega)
    have hw2 : wrap64 (n + (l[i].size : Int)) = n + (l[i].size : Int) := w6 (by omega) (by omega)
    by_cases hb : n + (l[i].size : Int) > 20000
    · refine ⟨1, fun k hk => ?_⟩
      obtain ⟨m, rfl⟩ : ∃ m, k = m + 1 := ⟨k - 1, by omega⟩
      rw [morainelaw10_PathJoins.l0, if_pos (by omega), if_pos (by omega), rdS l i hil, hw2, if_pos hb]
    · obtain ⟨K, hK⟩ := ih (i + 1) (n + (l[i].size : Int)) (by omega) (by omega) (by omega) (by omega)
      refine ⟨K + 1, fun k hk => ?_⟩
      obtain ⟨m, rfl⟩ : ∃ m, k = m + 1 := ⟨k - 1, by omega⟩
      have hq := hK m (by omega)
      clear hK ih
      rw [morainelaw10_PathJoins.l0, if_pos (by omega), if_pos (by omega), rdS l i hil, hw2, if_neg hb, hw]
      exact hq
theorem joins_ev (l : List ByteArray) (hs : ∀ x ∈ l, x.size ≤ 140737488351232) : Ev (fun k => morainelaw10_PathJoins.f k l) true := by
  obtain ⟨Ka, ha⟩ := alive_ev
  by_cases h : (l.length : Int) > 1000
  · refine ⟨Ka, fun k hk => ?_⟩
    show morainelaw10_PathJoins.f k l = some true
    unfold morainelaw10_PathJoins.f
    rw [show morainelaw10_alive.f k = _ from ha k hk, Option.bind_some, if_pos rfl, if_pos h]
  · obtain ⟨K, hK⟩ := joins_l0 l (by omega) hs l.length 0 0 (by omega) (by omega) (by omega) (by omega)
    refine ⟨Ka + K, fun k hk => ?_⟩
    show morainelaw10_PathJoins.f k l = some true
    unfold morainelaw10_PathJoins.f
    rw [show morainelaw10_alive.f k = _ from ha k (by omega), Option.bind_some, if_pos rfl, if_neg h]
    exact hK k (by omega)
end Go.Proofs.YtllfjmmdackgdaaDoor.PZ
